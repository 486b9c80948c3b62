/- A part of the proof: the texts J5, J6, J7, J8, J9, J12, JL2, J20, J10, J11, J13, JL1, J14, J15, J17, J18, J19, J16, J29, JL4, J39, one behind the other. -/
import Derived.Test.YtfbnaalhioogoaaGreatDoorPYe
import Derived.Shelf.SlicesE.DeleteFunc
import Derived.WalkKit
import Derived.BigQuiet
import Derived.Deep.QuietTactic
import Derived.Laws.Externs
import Derived.Laws.BitsLemmas
import Derived.Tactics
import Derived.Tactics2
import Derived.KernelRfl
import Derived.Laws.RangeAny
import Derived.Laws.RangeString
import Derived.LoopTactic
set_option linter.unusedVariables false
set_option linter.unusedSimpArgs false
set_option linter.unusedSectionVars false
namespace Go.Proofs.YtfbnaalhioogoaaGreatDoor
open Go Go.Ab
set_option maxRecDepth 20000
set_option maxHeartbeats 4000000
def ixF (q:Str→Bool):List Str→Int
 | []=>-1
 | s::l=>if q s=true then 0 else if ixF q l < 0 then -1 else ixF q l+1
theorem ph {q:Str→Bool}:∀ {l:List Str},l.any q=false→ixF q l = -1
 | [],_=>rfl
 | s::l,h=>by
  simp only [List.any_cons,Bool.or_eq_false_iff] at h
  rw [ixF,if_neg (by rw [h.1];decide),ph h.2,if_pos (by decide)]
theorem wb {q:Str→Bool}:∀ {l:List Str} {i:Nat},i < l.length→(l.take i).any q=false→q (l.getD i default)=true→ixF q l=i
 | [],i,h,_,_=>absurd h (Nat.not_lt_zero _)
 | s::l,0,_,_,h=>by rw [ixF,if_pos (show q s=true from h)];rfl
 | s::l,i+1,h,h1,h2=>by
  simp only [List.take_succ_cons,List.any_cons,Bool.or_eq_false_iff] at h1
  have ih:=wb (l:=l) (i:=i) (by simpa using h) h1.2 (by simpa using h2)
  rw [ixF,if_neg (by rw [h1.1];decide),ih,if_neg (by omega)];rfl
theorem xB {q:Str→Bool} (l:List Str):decide (0≤ixF q l)=l.any q:=by
 induction l with
 | nil=>rfl
 | cons s l ih =>
  rw [ixF,List.any_cons]
  by_cases h:q s=true
  ·rw [if_pos h,h];rfl
  ·have h':q s=false:=by simpa using h
   rw [if_neg h,h',Bool.false_or,← ih]
   by_cases h2:ixF q l < 0
   ·rw [if_pos h2,decide_eq_false (by omega),decide_eq_false (by omega)]
   ·rw [if_neg h2,decide_eq_true (by omega),decide_eq_true (by omega)]
theorem ux {q:Str→Bool} {l:List Str} {i:Nat} (hi:i < l.length) (h:(l.take i).any q=false) (h2:q (l.getD i default)=false):(l.take (i+1)).any q=false:=by
 rw [List.take_add_one,List.any_append,h,List.getElem?_eq_getElem hi]
 rw [List.getD_eq_getElem?_getD,List.getElem?_eq_getElem hi,Option.getD_some] at h2
 simp [h2]
theorem sE (q:Str→Bool) (fu:Nat) (hq:∀ s p,af Tryz.prog fu [.str s] (Oid.under p) ⟨[],.bool (q s),[]⟩) (l:List Str) (hl:l.length≤4000000000) (p:Oid) :
  af Tryz.prog 259 [.list 1 (l.map AV.str),.fn (.func fu) [] []] (Oid.under p) ⟨[],.int .i64 (ixF q l),[]⟩:=by
 refine aJ (n:=19) (rs:=[.tmp 4]) Tryz.func259 rfl rfl (by decide) rfl rfl rfl ?_;rintro x rfl hrd hng
 (repeat (first|(refine aq rfl rfl ?_)|(refine ar rfl rfl ?_)|(refine aj nmd [] hng (by kernel_rfl) fun hf C S K hC1 hC hS hK=>?_;simp (disch:=first|omega|assumption) only [go_sem];refine hK ?_;clear hK hS hC hC1 K S C hf)|((first|refine zn ?_|refine ze ?_|refine zk ?_);with_reducible (constructor;repeat constructor);try refine zl ?_)))
 refine bm [0,1,7,8] (fun k s'=>∃ i c:Nat,k=l.length - i∧i≤l.length∧(l.take i).any q=false∧s' = ⟨[(0,.list 1 (l.map AV.str)),(1,.fn (.func fu) [] []),(7,.int .i64 l.length),(8,.int .i64 i)],Mem.of [],c,[]⟩) _ ⟨0,_,rfl,Nat.zero_le _,by simp,rfl⟩ ?_
 rintro k s' ⟨i,c,rfl,hi,hno,rfl⟩
 (repeat (first|(refine aq rfl rfl ?_)|(refine ar rfl rfl ?_)|(refine aj nmd [] hng (by kernel_rfl) fun hf C S K hC1 hC hS hK=>?_;simp (disch:=first|omega|assumption) only [go_sem];refine hK ?_;clear hK hS hC hC1 K S C hf)|((first|refine zn ?_|refine ze ?_|refine zk ?_);with_reducible (constructor;repeat constructor);try refine zl ?_)))
 refine aX rfl rfl (fun hb=>?_) (fun hb=>?_)
 ·have hlt:i < l.length:=by omega
  (repeat (first|(refine aq rfl rfl ?_)|(refine ar rfl rfl ?_)|(refine aj nmd [] hng (by kernel_rfl) fun hf C S K hC1 hC hS hK=>?_;simp (disch:=first|omega|assumption) only [go_sem];(repeat ((first|refine hC1 _ (hq (l.getD i default) _) (by simp (disch:=first|omega|assumption) only [go_sem]) ?_);simp (disch:=first|omega|assumption) only [go_sem]));refine hK ?_;clear hK hS hC hC1 K S C hf)|((first|refine zn ?_|refine ze ?_|refine zk ?_);with_reducible (constructor;repeat constructor);try refine zl ?_)))
  refine jr rfl rfl (fun hb=>?_) (fun hb=>?_)
  ·rw [wb hlt hno hb]
   (repeat (first|(refine aq rfl rfl ?_)|(refine ar rfl rfl ?_)|(refine aj nmd [] hng (by kernel_rfl) fun hf C S K hC1 hC hS hK=>?_;simp (disch:=first|omega|assumption) only [go_sem];refine hK ?_;clear hK hS hC hC1 K S C hf)|((first|refine zn ?_|refine ze ?_|refine zk ?_);with_reducible (constructor;repeat constructor);try refine zl ?_)))
   exact aA (bd rfl)
  ·have hn:=ux hlt hno hb
   (repeat (first|(refine aq rfl rfl ?_)|(refine ar rfl rfl ?_)|(refine aj nmd [] hng (by kernel_rfl) fun hf C S K hC1 hC hS hK=>?_;simp (disch:=first|omega|assumption) only [go_sem];refine hK ?_;clear hK hS hC hC1 K S C hf)|((first|refine zn ?_|refine ze ?_|refine zk ?_);with_reducible (constructor;repeat constructor);try refine zl ?_)))
   exact ⟨_,_,by omega,fun _ _ h=>h,i+1,_,rfl,by omega,hn,rfl⟩
 ·obtain rfl:i=l.length:=by omega
  rw [List.take_length] at hno
  rw [ph hno]
  (repeat (first|(refine aq rfl rfl ?_)|(refine ar rfl rfl ?_)|(refine aj nmd [] hng (by kernel_rfl) fun hf C S K hC1 hC hS hK=>?_;simp (disch:=first|omega|assumption) only [go_sem];refine hK ?_;clear hK hS hC hC1 K S C hf)|((first|refine zn ?_|refine ze ?_|refine zk ?_);with_reducible (constructor;repeat constructor);try refine zl ?_)))
  exact aA (bd rfl)
theorem jb (q:Str→Bool) (fu:Nat) (hq:∀ s p,af Tryz.prog fu [.str s] (Oid.under p) ⟨[],.bool (q s),[]⟩) (l:List Str) (hl:l.length≤4000000000) (p:Oid) :
  af Tryz.prog 225 [.list 1 (l.map AV.str),.fn (.func fu) [] []] (Oid.under p) ⟨[],.bool (l.any q),[]⟩:=by
 refine aJ (n:=9) (rs:=[.tmp 4]) Tryz.func225 rfl rfl (by decide) rfl rfl rfl ?_;rintro x rfl hrd hng
 (repeat (first|(refine aq rfl rfl ?_)|(refine ar rfl rfl ?_)|(refine aj nmd [] hng (by kernel_rfl) fun hf C S K hC1 hC hS hK=>?_;simp (disch:=first|omega|assumption) only [go_sem];(repeat ((first|refine hC1 _ (sE q fu hq l hl _) (by simp (disch:=first|omega|assumption) only [go_sem]) ?_);simp (disch:=first|omega|assumption) only [go_sem]));refine hK ?_;clear hK hS hC hC1 K S C hf)|((first|refine zn ?_|refine ze ?_|refine zk ?_);with_reducible (constructor;repeat constructor);try refine zl ?_)))
 exact aA (bd (congrArg AV.bool (xB l)))
theorem eh (x0:Str) (l:List Str) (hl:l.length≤4000000000) (p:Oid) :
  af Tryz.prog 224 [.list 1 (l.map AV.str),.str x0] (Oid.under p) ⟨[],.int .i64 (ixF (fun s=>decide (x0=s)) l),[]⟩:=by
 refine aJ (n:=19) (rs:=[.tmp 4]) Tryz.func224 rfl rfl (by decide) rfl rfl rfl ?_;rintro x rfl hrd hng
 (repeat (first|(refine aq rfl rfl ?_)|(refine ar rfl rfl ?_)|(refine aj nmd [] hng (by kernel_rfl) fun hf C S K hC1 hC hS hK=>?_;simp (disch:=first|omega|assumption) only [go_sem];refine hK ?_;clear hK hS hC hC1 K S C hf)|((first|refine zn ?_|refine ze ?_|refine zk ?_);with_reducible (constructor;repeat constructor);try refine zl ?_)))
 refine bm [0,1,7,8] (fun k s'=>∃ i c:Nat,k=l.length - i∧i≤l.length∧(l.take i).any (fun s=>decide (x0=s))=false∧s' = ⟨[(0,.list 1 (l.map AV.str)),(1,.str x0),(7,.int .i64 l.length),(8,.int .i64 i)],Mem.of [],c,[]⟩) _ ⟨0,_,rfl,Nat.zero_le _,by simp,rfl⟩ ?_
 rintro k s' ⟨i,c,rfl,hi,hno,rfl⟩
 (repeat (first|(refine aq rfl rfl ?_)|(refine ar rfl rfl ?_)|(refine aj nmd [] hng (by kernel_rfl) fun hf C S K hC1 hC hS hK=>?_;simp (disch:=first|omega|assumption) only [go_sem];refine hK ?_;clear hK hS hC hC1 K S C hf)|((first|refine zn ?_|refine ze ?_|refine zk ?_);with_reducible (constructor;repeat constructor);try refine zl ?_)))
 refine aX rfl rfl (fun hb=>?_) (fun hb=>?_)
 ·have hlt:i < l.length:=by omega
  (repeat (first|(refine aq rfl rfl ?_)|(refine ar rfl rfl ?_)|(refine aj nmd [] hng (by kernel_rfl) fun hf C S K hC1 hC hS hK=>?_;simp (disch:=first|omega|assumption) only [go_sem];refine hK ?_;clear hK hS hC hC1 K S C hf)|((first|refine zn ?_|refine ze ?_|refine zk ?_);with_reducible (constructor;repeat constructor);try refine zl ?_)))
  refine aX rfl rfl (fun hb=>?_) (fun hb=>?_)
  ·rw [wb hlt hno (by simpa using hb)]
   (repeat (first|(refine aq rfl rfl ?_)|(refine ar rfl rfl ?_)|(refine aj nmd [] hng (by kernel_rfl) fun hf C S K hC1 hC hS hK=>?_;simp (disch:=first|omega|assumption) only [go_sem];refine hK ?_;clear hK hS hC hC1 K S C hf)|((first|refine zn ?_|refine ze ?_|refine zk ?_);with_reducible (constructor;repeat constructor);try refine zl ?_)))
   exact aA (bd rfl)
  ·have hn:=ux hlt hno (by simpa using hb)
   (repeat (first|(refine aq rfl rfl ?_)|(refine ar rfl rfl ?_)|(refine aj nmd [] hng (by kernel_rfl) fun hf C S K hC1 hC hS hK=>?_;simp (disch:=first|omega|assumption) only [go_sem];refine hK ?_;clear hK hS hC hC1 K S C hf)|((first|refine zn ?_|refine ze ?_|refine zk ?_);with_reducible (constructor;repeat constructor);try refine zl ?_)))
   exact ⟨_,_,by omega,fun _ _ h=>h,i+1,_,rfl,by omega,hn,rfl⟩
 ·obtain rfl:i=l.length:=by omega
  rw [List.take_length] at hno
  rw [ph hno]
  (repeat (first|(refine aq rfl rfl ?_)|(refine ar rfl rfl ?_)|(refine aj nmd [] hng (by kernel_rfl) fun hf C S K hC1 hC hS hK=>?_;simp (disch:=first|omega|assumption) only [go_sem];refine hK ?_;clear hK hS hC hC1 K S C hf)|((first|refine zn ?_|refine ze ?_|refine zk ?_);with_reducible (constructor;repeat constructor);try refine zl ?_)))
  exact aA (bd rfl)
theorem kp (x0:Str) (l:List Str) (hl:l.length≤4000000000) (p:Oid) :
  af Tryz.prog 227 [.list 1 (l.map AV.str),.str x0] (Oid.under p) ⟨[],.bool (l.any fun s=>decide (x0=s)),[]⟩:=by
 refine aJ (n:=9) (rs:=[.tmp 4]) Tryz.func227 rfl rfl (by decide) rfl rfl rfl ?_;rintro x rfl hrd hng
 (repeat (first|(refine aq rfl rfl ?_)|(refine ar rfl rfl ?_)|(refine aj nmd [] hng (by kernel_rfl) fun hf C S K hC1 hC hS hK=>?_;simp (disch:=first|omega|assumption) only [go_sem];(repeat ((first|refine hC1 _ (eh x0 l hl _) (by simp (disch:=first|omega|assumption) only [go_sem]) ?_);simp (disch:=first|omega|assumption) only [go_sem]));refine hK ?_;clear hK hS hC hC1 K S C hf)|((first|refine zn ?_|refine ze ?_|refine zk ?_);with_reducible (constructor;repeat constructor);try refine zl ?_)))
 exact aA (bd (congrArg AV.bool (xB l)))
theorem lL {a b c d:Nat} {p:Oid}:(Oid.sub a b (.sub c d p)=p)=False:=eq_false fun h=>by have:=congrArg Oid.depth h;simp only [Oid.depth] at this;omega
attribute [go_sem] lL
theorem eN (p:Oid):af Tryz.prog 219 [] (Oid.under p) ⟨[],.tuple [.agg [.int .i64 0,.str [],.str []],.bool false],[]⟩:=KW p
theorem bY (s:Str) (p:Oid):af Tryz.prog 216 [.str s] (Oid.under p) ⟨[],.tuple [.agg [.int .i64 0,.str s,.str []],.bool true],[]⟩:=G0 s p
def uy (s:Str):Bool:=!decide (s=[45,114]) && !decide (s=[45,117])
theorem xC (s:Str) (p:Oid):af Tryz.prog 226 [.str s] (Oid.under p) ⟨[],.bool (uy s),[]⟩:=by
 refine aJ (n:=9) (rs:=[.tmp 2]) Tryz.func226 rfl rfl (by decide) rfl rfl rfl ?_;rintro x rfl hrd hng
 (try ((first|refine zn ?_|refine ze ?_|refine zk ?_);with_reducible (constructor;repeat constructor));try refine zl ?_)
 refine aj nmd [] hng (by kernel_rfl) fun hf C S K hC1 hC hS hK=>?_;simp (disch:=first|omega|assumption) only [go_sem]
 refine hK ?_;clear hK hS hC hC1 K S C hf
 (try ((first|refine zn ?_|refine ze ?_|refine zk ?_);with_reducible (constructor;repeat constructor));try refine zl ?_)
 refine aj nmd [(2,5)] hng (by kernel_rfl) fun hf C S K hC1 hC hS hK=>?_;simp (disch:=first|omega|assumption) only [go_sem]
 (repeat' (first|(refine aD (fun hv=>?_) (fun hv=>?_)<;>(try simp only [zb1,zb2,zb3,zb4,zb5] at hv)<;>simp (disch:=first|omega|assumption) only [go_sem,hv])|(refine hK ?_;clear hK hS hC hC1 K S C hf)))
 ·(try ((first|refine zn ?_|refine ze ?_|refine zk ?_);with_reducible (constructor;repeat constructor));try refine zl ?_)
  exact aA (bd ((if_pos hv).trans (congrArg AV.bool (by simp only [ne_eq] at hv;simp only [uy,decide_eq_false hv,Bool.not_false,Bool.true_and,ne_eq,decide_not]))))
 ·contradiction
 ·(try ((first|refine zn ?_|refine ze ?_|refine zk ?_);with_reducible (constructor;repeat constructor));try refine zl ?_)
  simp only [ne_eq,Classical.not_not] at hv
  exact aA (bd (congrArg AV.bool (by simp only [uy,decide_eq_true hv,Bool.not_true,Bool.false_and])))
abbrev nj (p:Oid):Oid:=.sub 0 0 (.sub 2 2 p)
theorem gz (s:Str) (h0:¬ s=[]) (hl:s.length≤4000000000) (p:Oid):af Tryz.prog 220 [.str s] (Oid.under p) ⟨[],.sl (nj p) 1 (aC s).length,[(nj p,some (.arr 1 ((aC s).map AV.str)))]⟩:=by
 refine aJ (n:=8) (rs:=[.tmp 2]) Tryz.func220 rfl rfl (by decide) rfl rfl rfl ?_;rintro x rfl hrd hng
 (repeat (first|(refine aq rfl rfl ?_)|(refine ar rfl rfl ?_)|(refine aj nmd [] hng (by kernel_rfl) fun hf C S K hC1 hC hS hK=>?_;simp (disch:=first|omega|assumption) only [go_sem];refine hK ?_;clear hK hS hC hC1 K S C hf)|((first|refine zn ?_|refine ze ?_|refine zk ?_);with_reducible (constructor;repeat constructor);try refine zl ?_)))
 refine aX rfl rfl (fun hb=>?_) (fun hb=>?_)
 ·exact absurd hb h0
 ·(repeat (first|(refine aq rfl rfl ?_)|(refine ar rfl rfl ?_)|(refine aj nmd [] hng (by kernel_rfl) fun hf C S K hC1 hC hS hK=>?_;simp (disch:=first|omega|assumption) only [go_sem];(repeat ((first|refine hC1 _ (gX s [10] (by omega) _) (by simp (disch:=first|omega|assumption) only [go_sem]) ?_|refine hC1 _ (lJ s h0 hl _) (by simp (disch:=first|omega|assumption) only [go_sem]) ?_);simp (disch:=first|omega|assumption) only [go_sem]));refine hK ?_;clear hK hS hC hC1 K S C hf)|((first|refine zn ?_|refine ze ?_|refine zk ?_);with_reducible (constructor;repeat constructor);try refine zl ?_)))
  refine aA (aZ rfl ?_ ?_)
  all_goals simp only [List.mem_cons,List.not_mem_nil,or_false,forall_eq_or_imp,forall_eq,Option.some.injEq,forall_eq',Mem.ao,eq_self,if_true,↓reduceIte,reduceCtorEq,implies_true,not_true_eq_false,false_imp_iff,true_and,and_true,false_and,and_false,imp_self,Oid.ty.injEq,Nat.reduceEqDiff]
theorem eX (p:Oid):af Tryz.prog 220 [.str []] (Oid.under p) ⟨[],.nilSl,[]⟩:=by
 refine aJ (n:=8) (rs:=[.tmp 2]) Tryz.func220 rfl rfl (by decide) rfl rfl rfl ?_;rintro x rfl hrd hng
 (repeat (first|(refine aq rfl rfl ?_)|(refine ar rfl rfl ?_)|(refine aj nmd [] hng (by kernel_rfl) fun hf C S K hC1 hC hS hK=>?_;simp (disch:=first|omega|assumption) only [go_sem];refine hK ?_;clear hK hS hC hC1 K S C hf)|((first|refine zn ?_|refine ze ?_|refine zk ?_);with_reducible (constructor;repeat constructor);try refine zl ?_)))
 exact aA (bd rfl)
end Go.Proofs.YtfbnaalhioogoaaGreatDoor
namespace Go.Proofs.YtfbnaalhioogoaaGreatDoor
open Go Go.Ab
set_option maxRecDepth 20000
set_option maxHeartbeats 4000000
theorem j4 (l:List Str):(aQ l).length=(l.map fun s=>s.length+1).sum:=by
 induction l with
 | nil=>rfl
 | cons s l ih=>simp only [aQ,List.map_cons,List.sum_cons,List.length_append,List.length_singleton,ih]
theorem pj {l l':List Str} (h:l.Perm l'):(aQ l).length=(aQ l').length:=by
 rw [j4,j4];exact (h.map _).sum_nat
theorem j5 {l l':List Str} (h:l.Sublist l'):(aQ l).length≤(aQ l').length:=by
 rw [j4,j4]
 induction h with
 | slnil=>exact Nat.le_refl _
 | cons a _ ih=>simp only [List.map_cons,List.sum_cons];omega
 | cons_cons a _ ih=>simp only [List.map_cons,List.sum_cons];omega
theorem dC (s:Str):(aQ (aC s)).length≤s.length+1:=by
 have key:∀ (n:Nat) (s:Str),s.length=n→(aQ (aC s)).length≤s.length+1:=by
  intro n
  induction n using Nat.strongRecOn with
  | ind n ih =>
   intro s hn
   rcases jU 10 s with h1|⟨t,u,h1,rfl⟩
   ·by_cases h0:s=[]
    ·subst h0;exact Nat.zero_le _
    ·rw [mV h0 h1];simp [aQ]
   ·rw [kQ u h1]
    have:=ih u.length (by rw [← hn];simp;omega) u rfl
    simp only [aQ,List.length_append,List.length_cons,List.length_nil];omega
 exact key _ s rfl
theorem j6 {s:Str} (h:¬ s=[]):¬ aC s=[]:=by
 cases s with
 | nil=>exact absurd rfl h
 | cons b s=>rw [aC];split;· simp
             split<;>simp
def zN (args:List Str):Bool:=args.any fun s=>decide ([45,117]=s)
def C3 (args:List Str):Bool:=args.any fun s=>decide ([45,114]=s)
def j7 (args:List Str) (t:Str):List Str :=
 if C3 args=true then (if zN args=true then Lib.compact (bg (aC t)) else bg (aC t)).reverse else if zN args=true then Lib.compact (bg (aC t)) else bg (aC t)
theorem zO (l:List Str):(List.range l.length).map (fun i=>l.toArray[i]!)=l:=by
 apply List.ext_getElem
 ·simp
 ·intro i h1 h2;simp [h2]
theorem uz (l:List Str):(Lib.compact l).Sublist l:=by
 have h:((List.range l.length).filter (Lib.keeps l.toArray)).Sublist (List.range l.length):=List.filter_sublist
 have h2:=h.map (fun i=>l.toArray[i]!)
 rwa [zO] at h2
theorem wg {l:List Str} (h:¬ l=[]):¬ Lib.compact l=[]:=by
 intro e
 have h1:(List.range l.length).filter (Lib.keeps l.toArray)=[]:=List.map_eq_nil_iff.1 e
 have h2:=List.filter_eq_nil_iff.1 h1 0 (List.mem_range.2 (List.length_pos_iff.2 h))
 exact h2 (Lib.keeps_lt_one _ 0 (by decide))
theorem C4 (args:List Str) (hn:args.length≤4000000000) (t:Str) (h:args.any uy=true) (p:Oid) :
  af Tryz.prog 146 [.list 1 (args.map AV.str),.str t] (Oid.under p) ⟨[],.tuple [bj.av,.bool false],[]⟩:=by
 have hZ:∀ p,af Tryz.prog 225 [.list 1 (args.map AV.str),.fn (.func 226) [] []] (Oid.under p) ⟨[],.bool true,[]⟩:=fun p=>by
  have:=jb uy _ xC args hn p;rwa [h] at this
 refine aJ (n:=29) (rs:=[.cell 4 45,.tmp 5]) Tryz.func146 rfl rfl (by decide) rfl rfl rfl ?_;rintro x rfl hrd hng
 (repeat (first|(refine aq rfl rfl ?_)|(refine ar rfl rfl ?_)|(refine aj nmd [] hng (by kernel_rfl) fun hf C S K hC1 hC hS hK=>?_;simp (disch:=first|omega|assumption) only [go_sem,Res.av,bj];(repeat ((first|refine hC1 _ (hZ _) (by simp (disch:=first|omega|assumption) only [go_sem]) ?_|refine hC1 _ (eN _) (by simp (disch:=first|omega|assumption) only [go_sem]) ?_);simp (disch:=first|omega|assumption) only [go_sem]));refine hK ?_;clear hK hS hC hC1 K S C hf)|((first|refine zn ?_|refine ze ?_|refine zk ?_);with_reducible (constructor;repeat constructor);try refine zl ?_)))
 exact aA (ay (by simp (disch:=first|omega|assumption) only [go_sem,Res.av,bj]))
theorem sF (args:List Str) (hn:args.length≤4000000000) (t:Str) (hl:t.length≤4000000000) (h:args.any uy=false) (p:Oid) :
  af Tryz.prog 146 [.list 1 (args.map AV.str),.str t] (Oid.under p) ⟨[],.tuple [(a6 (aQ (j7 args t))).av,.bool true],[]⟩:=by
 have hZ:∀ p,af Tryz.prog 225 [.list 1 (args.map AV.str),.fn (.func 226) [] []] (Oid.under p) ⟨[],.bool false,[]⟩:=fun p=>by
  have:=jb uy _ xC args hn p;rwa [h] at this
 have hjl:∀ r:List Str,r.Sublist (bg (aC t))→(aQ r).length≤140737488355328:=fun r hr=>by
  have h1:=j5 hr
  have h2:=pj (gw (aC t))
  have h3:=dC t
  omega
 have hjr:∀ r:List Str,r.Sublist (bg (aC t))→(aQ r.reverse).length≤140737488355328:=fun r hr=>by
  rw [pj (List.reverse_perm r)];exact hjl r hr
 have hcs:=uz (bg (aC t))
 have hU:∀ p,af Tryz.prog 227 [.list 1 (args.map AV.str),.str [45,117]] (Oid.under p) ⟨[],.bool (zN args),[]⟩:=fun p=>kp _ args hn p
 have hR:∀ p,af Tryz.prog 227 [.list 1 (args.map AV.str),.str [45,114]] (Oid.under p) ⟨[],.bool (C3 args),[]⟩:=fun p=>kp _ args hn p
 have hrow:∀ u r,zN args=u→C3 args=r→j7 args t=if r=true then (if u=true then Lib.compact (bg (aC t)) else bg (aC t)).reverse else if u=true then Lib.compact (bg (aC t)) else bg (aC t):=fun u r h1 h2=>by rw [j7,h1,h2]
 by_cases h0:t=[]
 ·subst h0
  have hrw:j7 args []=[]:=by
   have h1:bg (aC [])=[]:=List.eq_nil_of_length_eq_zero (by rw [eJ];rfl)
   rw [j7,h1];split<;>split<;>rfl
  have hJ:∀ p,af Tryz.prog 221 [.nilSl] (Oid.under p) ⟨[],.str [],[]⟩:=fun p=>(cS [] (Nat.zero_le _) p).yr (dy.cons (ln.nil 1) dy.nil)
  rw [hrw,show aQ []=[] from rfl]
  rcases Bool.eq_false_or_eq_true (zN args) with hu|hu<;>rcases Bool.eq_false_or_eq_true (C3 args) with hr|hr<;>rw [hu] at hU<;>rw [hr] at hR
  ·refine aJ (n:=29) (rs:=[.cell 4 45,.tmp 5]) Tryz.func146 rfl rfl (by decide) rfl rfl rfl ?_;rintro x rfl hrd hng
   (repeat (first|(refine aq rfl rfl ?_)|(refine ar rfl rfl ?_)|(refine aj nmd [] hng (by kernel_rfl) fun hf C S K hC1 hC hS hK=>?_;simp (disch:=first|omega|assumption) only [go_sem];(repeat ((first|refine hC1 _ (hZ _) (by simp (disch:=first|omega|assumption) only [go_sem]) ?_|refine hC1 _ (eX _) (by simp (disch:=first|omega|assumption) only [go_sem]) ?_|refine hC1 _ (lK _) (by simp (disch:=first|omega|assumption) only [go_sem]) ?_|refine hC1 _ (hU _) (by simp (disch:=first|omega|assumption) only [go_sem]) ?_|refine hC1 _ (mW _) (by simp (disch:=first|omega|assumption) only [go_sem]) ?_|refine hC1 _ (hR _) (by simp (disch:=first|omega|assumption) only [go_sem]) ?_|refine hC1 _ (reverse_nil _) (by simp (disch:=first|omega|assumption) only [go_sem]) ?_|refine hC1 _ (hJ _) (by simp (disch:=first|omega|assumption) only [go_sem]) ?_|refine hC1 _ (bY [] _) (by simp (disch:=first|omega|assumption) only [go_sem]) ?_);simp (disch:=first|omega|assumption) only [go_sem]));refine hK ?_;clear hK hS hC hC1 K S C hf)|((first|refine zn ?_|refine ze ?_|refine zk ?_);with_reducible (constructor;repeat constructor);try refine zl ?_)))
   exact aA (ay (by simp (disch:=first|omega|assumption) only [go_sem,Res.av,a6,bj,bh]))
  ·refine aJ (n:=29) (rs:=[.cell 4 45,.tmp 5]) Tryz.func146 rfl rfl (by decide) rfl rfl rfl ?_;rintro x rfl hrd hng
   (repeat (first|(refine aq rfl rfl ?_)|(refine ar rfl rfl ?_)|(refine aj nmd [] hng (by kernel_rfl) fun hf C S K hC1 hC hS hK=>?_;simp (disch:=first|omega|assumption) only [go_sem];(repeat ((first|refine hC1 _ (hZ _) (by simp (disch:=first|omega|assumption) only [go_sem]) ?_|refine hC1 _ (eX _) (by simp (disch:=first|omega|assumption) only [go_sem]) ?_|refine hC1 _ (lK _) (by simp (disch:=first|omega|assumption) only [go_sem]) ?_|refine hC1 _ (hU _) (by simp (disch:=first|omega|assumption) only [go_sem]) ?_|refine hC1 _ (mW _) (by simp (disch:=first|omega|assumption) only [go_sem]) ?_|refine hC1 _ (hR _) (by simp (disch:=first|omega|assumption) only [go_sem]) ?_|refine hC1 _ (hJ _) (by simp (disch:=first|omega|assumption) only [go_sem]) ?_|refine hC1 _ (bY [] _) (by simp (disch:=first|omega|assumption) only [go_sem]) ?_);simp (disch:=first|omega|assumption) only [go_sem]));refine hK ?_;clear hK hS hC hC1 K S C hf)|((first|refine zn ?_|refine ze ?_|refine zk ?_);with_reducible (constructor;repeat constructor);try refine zl ?_)))
   exact aA (ay (by simp (disch:=first|omega|assumption) only [go_sem,Res.av,a6,bj,bh]))
  ·refine aJ (n:=29) (rs:=[.cell 4 45,.tmp 5]) Tryz.func146 rfl rfl (by decide) rfl rfl rfl ?_;rintro x rfl hrd hng
   (repeat (first|(refine aq rfl rfl ?_)|(refine ar rfl rfl ?_)|(refine aj nmd [] hng (by kernel_rfl) fun hf C S K hC1 hC hS hK=>?_;simp (disch:=first|omega|assumption) only [go_sem];(repeat ((first|refine hC1 _ (hZ _) (by simp (disch:=first|omega|assumption) only [go_sem]) ?_|refine hC1 _ (eX _) (by simp (disch:=first|omega|assumption) only [go_sem]) ?_|refine hC1 _ (lK _) (by simp (disch:=first|omega|assumption) only [go_sem]) ?_|refine hC1 _ (hU _) (by simp (disch:=first|omega|assumption) only [go_sem]) ?_|refine hC1 _ (hR _) (by simp (disch:=first|omega|assumption) only [go_sem]) ?_|refine hC1 _ (reverse_nil _) (by simp (disch:=first|omega|assumption) only [go_sem]) ?_|refine hC1 _ (hJ _) (by simp (disch:=first|omega|assumption) only [go_sem]) ?_|refine hC1 _ (bY [] _) (by simp (disch:=first|omega|assumption) only [go_sem]) ?_);simp (disch:=first|omega|assumption) only [go_sem]));refine hK ?_;clear hK hS hC hC1 K S C hf)|((first|refine zn ?_|refine ze ?_|refine zk ?_);with_reducible (constructor;repeat constructor);try refine zl ?_)))
   exact aA (ay (by simp (disch:=first|omega|assumption) only [go_sem,Res.av,a6,bj,bh]))
  ·refine aJ (n:=29) (rs:=[.cell 4 45,.tmp 5]) Tryz.func146 rfl rfl (by decide) rfl rfl rfl ?_;rintro x rfl hrd hng
   (repeat (first|(refine aq rfl rfl ?_)|(refine ar rfl rfl ?_)|(refine aj nmd [] hng (by kernel_rfl) fun hf C S K hC1 hC hS hK=>?_;simp (disch:=first|omega|assumption) only [go_sem];(repeat ((first|refine hC1 _ (hZ _) (by simp (disch:=first|omega|assumption) only [go_sem]) ?_|refine hC1 _ (eX _) (by simp (disch:=first|omega|assumption) only [go_sem]) ?_|refine hC1 _ (lK _) (by simp (disch:=first|omega|assumption) only [go_sem]) ?_|refine hC1 _ (hU _) (by simp (disch:=first|omega|assumption) only [go_sem]) ?_|refine hC1 _ (hR _) (by simp (disch:=first|omega|assumption) only [go_sem]) ?_|refine hC1 _ (hJ _) (by simp (disch:=first|omega|assumption) only [go_sem]) ?_|refine hC1 _ (bY [] _) (by simp (disch:=first|omega|assumption) only [go_sem]) ?_);simp (disch:=first|omega|assumption) only [go_sem]));refine hK ?_;clear hK hS hC hC1 K S C hf)|((first|refine zn ?_|refine ze ?_|refine zk ?_);with_reducible (constructor;repeat constructor);try refine zl ?_)))
   exact aA (ay (by simp (disch:=first|omega|assumption) only [go_sem,Res.av,a6,bj,bh]))
 ·have hne:=j6 h0
  have hs0:¬ bg (aC t)=[]:=fun e=>hne (by have:=eJ (aC t);rw [e] at this;exact List.eq_nil_of_length_eq_zero this.symm)
  have hll:(aC t).length≤4000000001:=by have:=eB (aC t);have:=dC t;omega
  have hsl:=eJ (aC t)
  have hcl:=kS (bg (aC t))
  have hCmp:=fun id p=>wa (bg (aC t)) hs0 (by omega) id p
  have hV:=fun id p=>pf (bg (aC t)) hs0 (by omega) id p
  have hCV:=fun id p=>pf (Lib.compact (bg (aC t))) (wg hs0) (by omega) id p
  rw [hsl] at hCmp hV
  rcases Bool.eq_false_or_eq_true (zN args) with hu|hu<;>rcases Bool.eq_false_or_eq_true (C3 args) with hr|hr<;>rw [hu] at hU<;>rw [hr] at hR<;>rw [hrow _ _ hu hr]
  ·refine aJ (n:=29) (rs:=[.cell 4 45,.tmp 5]) Tryz.func146 rfl rfl (by decide) rfl rfl rfl ?_;rintro x rfl hrd hng
   (repeat (first|(refine aq rfl rfl ?_)|(refine ar rfl rfl ?_)|(refine aj nmd [] hng (by kernel_rfl) fun hf C S K hC1 hC hS hK=>?_;simp (disch:=first|omega|assumption) only [go_sem];(repeat ((first|refine hC1 _ (hZ _) (by simp (disch:=first|omega|assumption) only [go_sem]) ?_|refine hC1 _ (gz t h0 hl _) (by simp (disch:=first|omega|assumption) only [go_sem]) ?_|refine hC1 _ (gx (aC t) hne (by omega) _ _) (by simp (disch:=first|omega|assumption) only [go_sem]) ?_|refine hC1 _ (hU _) (by simp (disch:=first|omega|assumption) only [go_sem]) ?_|refine hC1 _ (hCmp _ _) (by simp (disch:=first|omega|assumption) only [go_sem]) ?_|refine hC1 _ (hR _) (by simp (disch:=first|omega|assumption) only [go_sem]) ?_|refine hC1 _ (hCV _ _) (by simp (disch:=first|omega|assumption) only [go_sem]) ?_);simp (disch:=first|omega|assumption) only [go_sem]));refine hK ?_;clear hK hS hC hC1 K S C hf)|((first|refine zn ?_|refine ze ?_|refine zk ?_);with_reducible (constructor;repeat constructor);try refine zl ?_)))
   refine cI (nj (.sub 2 1 x.p)) 1 (((Lib.compact (bg (aC t))).reverse).map AV.str) (by simp (disch:=first|omega|assumption) only [go_sem]) ?_
   simp (disch:=first|omega|assumption) only [go_sem,hsl,List.length_reverse]
   (repeat (first|(refine aq rfl rfl ?_)|(refine ar rfl rfl ?_)|(refine aj nmd [] hng (by kernel_rfl) fun hf C S K hC1 hC hS hK=>?_;simp (disch:=first|omega|assumption) only [go_sem];(repeat ((first|refine hC1 _ (cS ((Lib.compact (bg (aC t))).reverse) (hjr _ hcs) _) (by simp (disch:=first|omega|assumption) only [go_sem]) ?_|refine hC1 _ (bY (aQ ((Lib.compact (bg (aC t))).reverse)) _) (by simp (disch:=first|omega|assumption) only [go_sem]) ?_);simp (disch:=first|omega|assumption) only [go_sem]));refine hK ?_;clear hK hS hC hC1 K S C hf)|((first|refine zn ?_|refine ze ?_|refine zk ?_);with_reducible (constructor;repeat constructor);try refine zl ?_)))
   exact aA (ay (by simp (disch:=first|omega|assumption) only [go_sem,Res.av,a6,bj,bh]))
  ·refine aJ (n:=29) (rs:=[.cell 4 45,.tmp 5]) Tryz.func146 rfl rfl (by decide) rfl rfl rfl ?_;rintro x rfl hrd hng
   (repeat (first|(refine aq rfl rfl ?_)|(refine ar rfl rfl ?_)|(refine aj nmd [] hng (by kernel_rfl) fun hf C S K hC1 hC hS hK=>?_;simp (disch:=first|omega|assumption) only [go_sem];(repeat ((first|refine hC1 _ (hZ _) (by simp (disch:=first|omega|assumption) only [go_sem]) ?_|refine hC1 _ (gz t h0 hl _) (by simp (disch:=first|omega|assumption) only [go_sem]) ?_|refine hC1 _ (gx (aC t) hne (by omega) _ _) (by simp (disch:=first|omega|assumption) only [go_sem]) ?_|refine hC1 _ (hU _) (by simp (disch:=first|omega|assumption) only [go_sem]) ?_|refine hC1 _ (hCmp _ _) (by simp (disch:=first|omega|assumption) only [go_sem]) ?_|refine hC1 _ (hR _) (by simp (disch:=first|omega|assumption) only [go_sem]) ?_);simp (disch:=first|omega|assumption) only [go_sem]));refine hK ?_;clear hK hS hC hC1 K S C hf)|((first|refine zn ?_|refine ze ?_|refine zk ?_);with_reducible (constructor;repeat constructor);try refine zl ?_)))
   refine cI (nj (.sub 2 1 x.p)) 1 ((Lib.compact (bg (aC t))).map AV.str) (by simp (disch:=first|omega|assumption) only [go_sem]) ?_
   simp (disch:=first|omega|assumption) only [go_sem,hsl,List.length_reverse]
   (repeat (first|(refine aq rfl rfl ?_)|(refine ar rfl rfl ?_)|(refine aj nmd [] hng (by kernel_rfl) fun hf C S K hC1 hC hS hK=>?_;simp (disch:=first|omega|assumption) only [go_sem];(repeat ((first|refine hC1 _ (cS (Lib.compact (bg (aC t))) (hjl _ hcs) _) (by simp (disch:=first|omega|assumption) only [go_sem]) ?_|refine hC1 _ (bY (aQ (Lib.compact (bg (aC t)))) _) (by simp (disch:=first|omega|assumption) only [go_sem]) ?_);simp (disch:=first|omega|assumption) only [go_sem]));refine hK ?_;clear hK hS hC hC1 K S C hf)|((first|refine zn ?_|refine ze ?_|refine zk ?_);with_reducible (constructor;repeat constructor);try refine zl ?_)))
   exact aA (ay (by simp (disch:=first|omega|assumption) only [go_sem,Res.av,a6,bj,bh]))
  ·refine aJ (n:=29) (rs:=[.cell 4 45,.tmp 5]) Tryz.func146 rfl rfl (by decide) rfl rfl rfl ?_;rintro x rfl hrd hng
   (repeat (first|(refine aq rfl rfl ?_)|(refine ar rfl rfl ?_)|(refine aj nmd [] hng (by kernel_rfl) fun hf C S K hC1 hC hS hK=>?_;simp (disch:=first|omega|assumption) only [go_sem];(repeat ((first|refine hC1 _ (hZ _) (by simp (disch:=first|omega|assumption) only [go_sem]) ?_|refine hC1 _ (gz t h0 hl _) (by simp (disch:=first|omega|assumption) only [go_sem]) ?_|refine hC1 _ (gx (aC t) hne (by omega) _ _) (by simp (disch:=first|omega|assumption) only [go_sem]) ?_|refine hC1 _ (hU _) (by simp (disch:=first|omega|assumption) only [go_sem]) ?_|refine hC1 _ (hR _) (by simp (disch:=first|omega|assumption) only [go_sem]) ?_|refine hC1 _ (hV _ _) (by simp (disch:=first|omega|assumption) only [go_sem]) ?_);simp (disch:=first|omega|assumption) only [go_sem]));refine hK ?_;clear hK hS hC hC1 K S C hf)|((first|refine zn ?_|refine ze ?_|refine zk ?_);with_reducible (constructor;repeat constructor);try refine zl ?_)))
   refine cI (nj (.sub 2 1 x.p)) 1 (((bg (aC t)).reverse).map AV.str) (by simp (disch:=first|omega|assumption) only [go_sem]) ?_
   simp (disch:=first|omega|assumption) only [go_sem,hsl,List.length_reverse]
   (repeat (first|(refine aq rfl rfl ?_)|(refine ar rfl rfl ?_)|(refine aj nmd [] hng (by kernel_rfl) fun hf C S K hC1 hC hS hK=>?_;simp (disch:=first|omega|assumption) only [go_sem];(repeat ((first|refine hC1 _ (cS ((bg (aC t)).reverse) (hjr _ (List.Sublist.refl _)) _) (by simp (disch:=first|omega|assumption) only [go_sem]) ?_|refine hC1 _ (bY (aQ ((bg (aC t)).reverse)) _) (by simp (disch:=first|omega|assumption) only [go_sem]) ?_);simp (disch:=first|omega|assumption) only [go_sem]));refine hK ?_;clear hK hS hC hC1 K S C hf)|((first|refine zn ?_|refine ze ?_|refine zk ?_);with_reducible (constructor;repeat constructor);try refine zl ?_)))
   exact aA (ay (by simp (disch:=first|omega|assumption) only [go_sem,Res.av,a6,bj,bh]))
  ·refine aJ (n:=29) (rs:=[.cell 4 45,.tmp 5]) Tryz.func146 rfl rfl (by decide) rfl rfl rfl ?_;rintro x rfl hrd hng
   (repeat (first|(refine aq rfl rfl ?_)|(refine ar rfl rfl ?_)|(refine aj nmd [] hng (by kernel_rfl) fun hf C S K hC1 hC hS hK=>?_;simp (disch:=first|omega|assumption) only [go_sem];(repeat ((first|refine hC1 _ (hZ _) (by simp (disch:=first|omega|assumption) only [go_sem]) ?_|refine hC1 _ (gz t h0 hl _) (by simp (disch:=first|omega|assumption) only [go_sem]) ?_|refine hC1 _ (gx (aC t) hne (by omega) _ _) (by simp (disch:=first|omega|assumption) only [go_sem]) ?_|refine hC1 _ (hU _) (by simp (disch:=first|omega|assumption) only [go_sem]) ?_|refine hC1 _ (hR _) (by simp (disch:=first|omega|assumption) only [go_sem]) ?_);simp (disch:=first|omega|assumption) only [go_sem]));refine hK ?_;clear hK hS hC hC1 K S C hf)|((first|refine zn ?_|refine ze ?_|refine zk ?_);with_reducible (constructor;repeat constructor);try refine zl ?_)))
   refine cI (nj (.sub 2 1 x.p)) 1 ((bg (aC t)).map AV.str) (by simp (disch:=first|omega|assumption) only [go_sem]) ?_
   simp (disch:=first|omega|assumption) only [go_sem,hsl,List.length_reverse]
   (repeat (first|(refine aq rfl rfl ?_)|(refine ar rfl rfl ?_)|(refine aj nmd [] hng (by kernel_rfl) fun hf C S K hC1 hC hS hK=>?_;simp (disch:=first|omega|assumption) only [go_sem];(repeat ((first|refine hC1 _ (cS (bg (aC t)) (hjl _ (List.Sublist.refl _)) _) (by simp (disch:=first|omega|assumption) only [go_sem]) ?_|refine hC1 _ (bY (aQ (bg (aC t))) _) (by simp (disch:=first|omega|assumption) only [go_sem]) ?_);simp (disch:=first|omega|assumption) only [go_sem]));refine hK ?_;clear hK hS hC hC1 K S C hf)|((first|refine zn ?_|refine ze ?_|refine zk ?_);with_reducible (constructor;repeat constructor);try refine zl ?_)))
   exact aA (ay (by simp (disch:=first|omega|assumption) only [go_sem,Res.av,a6,bj,bh]))
end Go.Proofs.YtfbnaalhioogoaaGreatDoor
namespace Go.Proofs.YtfbnaalhioogoaaGreatDoor
open Go Go.Ab
set_option maxRecDepth 20000
set_option maxHeartbeats 4000000
def iy (r:Str):Prop:=2 < r.length∧(r.getD 1 0).toNat=45∧(r.getD 0 0).toNat≤(r.getD 2 0).toNat
instance (r:Str):Decidable (iy r):=by unfold iy;infer_instance
def rng (a n:Nat):Str:=(List.range n).map fun k=>UInt8.ofNat (a+k)
def eK:Nat→Str→Str
 | 0,_=>[]
 | k+1,r=>if r=[] then [] else if iy r then rng (r.getD 0 0).toNat ((r.getD 2 0).toNat+1 - (r.getD 0 0).toNat)++eK k (r.drop 3) else r.getD 0 0::eK k (r.drop 1)
theorem mv:∀ (k:Nat) (r:Str),r.length≤k→eK (k+1) r=eK k r
 | 0,r,h=>by
  have:r=[]:=List.eq_nil_of_length_eq_zero (by omega)
  subst this;rfl
 | k+1,r,h=>by
  show (if r=[] then [] else if iy r then _++eK (k+1) (r.drop 3) else _::eK (k+1) (r.drop 1))=(if r=[] then [] else if iy r then _++eK k (r.drop 3) else _::eK k (r.drop 1))
  by_cases h0:r=[]
  ·rw [if_pos h0,if_pos h0]
  ·have:=List.length_pos_iff.2 h0
   rw [if_neg h0,if_neg h0,mv k (r.drop 3) (by rw [List.length_drop];omega),mv k (r.drop 1) (by rw [List.length_drop];omega)]
theorem qX (r:Str):∀ k,r.length≤k→eK k r=eK r.length r:=by
 intro k hk
 obtain ⟨d,rfl⟩:=Nat.exists_eq_add_of_le hk
 induction d with
 | zero=>rfl
 | succ d ih=>rw [← Nat.add_assoc,mv _ _ (by omega),ih (by omega)]
def b9 (r:Str):Str:=eK r.length r
theorem C5:b9 []=[]:=rfl
theorem uA {r:Str} (h:iy r):b9 r=rng (r.getD 0 0).toNat ((r.getD 2 0).toNat+1 - (r.getD 0 0).toNat)++b9 (r.drop 3):=by
 have hl:=h.1
 obtain ⟨k,hk⟩:∃ k,r.length=k+1:=⟨r.length - 1,by omega⟩
 have h0:¬ r=[]:=fun e=>by subst e;simp at hl
 unfold b9
 rw [hk,eK,if_neg h0,if_pos h,qX (r.drop 3) k (by rw [List.length_drop];omega)]
theorem uB {r:Str} (h0:¬ r=[]) (h:¬ iy r):b9 r=r.getD 0 0::b9 (r.drop 1):=by
 have:=List.length_pos_iff.2 h0
 obtain ⟨k,hk⟩:∃ k,r.length=k+1:=⟨r.length - 1,by omega⟩
 unfold b9
 rw [hk,eK,if_neg h0,if_neg h,qX (r.drop 1) k (by rw [List.length_drop];omega)]
theorem C6 (a k:Nat):rng a (k+1)=rng a k++[UInt8.ofNat (a+k)]:=by
 simp [rng,List.range_succ]
theorem xD (a k:Nat):(rng a k).length=k:=by simp [rng]
theorem pk:∀ (k:Nat) (r:Str),(eK k r).length≤256 * r.length
 | 0,r=>by simp [eK]
 | k+1,r=>by
  rw [eK]
  split
  ·simp
  ·rename_i h0
   have:=List.length_pos_iff.2 h0
   split
   ·rename_i hc
    have h1:=pk k (r.drop 3)
    have h2:=(r.getD 2 0).toNat_lt
    have:=hc.1
    rw [List.length_drop] at h1
    rw [List.length_append,xD];omega
   ·have h1:=pk k (r.drop 1)
    rw [List.length_drop] at h1
    rw [List.length_cons];omega
theorem pw (r:Str):(b9 r).length≤256 * r.length:=pk _ r
theorem C7 (s:Str) (hl:s.length≤4000000) (p:Oid):af Tryz.prog 231 [.str s] (Oid.under p) ⟨[],.list 1 ((b9 s).map byA),[]⟩:=by
 have hsl:=pw s
 refine aJ (n:=46) (rs:=[.tmp 2]) Tryz.func231 rfl rfl (by decide) rfl rfl rfl ?_;rintro x rfl hrd hng
 (repeat (first|(refine aq rfl rfl ?_)|(refine ar rfl rfl ?_)|(refine aj nmd [] hng (by kernel_rfl) fun hf C S K hC1 hC hS hK=>?_;simp (disch:=first|omega|assumption) only [go_sem];refine hK ?_;clear hK hS hC hC1 K S C hf)|((first|refine zn ?_|refine ze ?_|refine zk ?_);with_reducible (constructor;repeat constructor);try refine zl ?_)))
 refine js 2 1 rfl ?_
 simp (disch:=first|omega|assumption) only [go_sem]
 refine bm [0,2] (fun k s'=>∃ (r done:Str) (d j c:Nat),k=r.length∧r.length≤s.length∧d < c∧b9 s=done++b9 r ∧
   s' = ⟨[(0,.str r),(2,.sl (.sub d j x.p) 1 done.length)],Mem.of [(.sub d j x.p,.arr 1 (done.map byA))],c,[]⟩) _ ⟨s,[],1,0,2,rfl,Nat.le_refl _,by omega,rfl,rfl⟩ ?_
 rintro k s' ⟨r,done,d,j,c,rfl,hr,hdc,hset,rfl⟩
 have hdl:done.length≤1024000000:=by have:=congrArg List.length hset;rw [List.length_append] at this;omega
 (repeat (first|(refine aq rfl rfl ?_)|(refine ar rfl rfl ?_)|(refine aj nmd [] hng (by kernel_rfl) fun hf C S K hC1 hC hS hK=>?_;simp (disch:=first|omega|assumption) only [go_sem];refine hK ?_;clear hK hS hC hC1 K S C hf)|((first|refine zn ?_|refine ze ?_|refine zk ?_);with_reducible (constructor;repeat constructor);try refine zl ?_)))
 refine jr rfl rfl (fun hb=>?_) (fun hb=>?_)
 ·have h0:¬ r=[]:=by simpa using hb
  have hpos:=List.length_pos_iff.2 h0
  (try ((first|refine zn ?_|refine ze ?_|refine zk ?_);with_reducible (constructor;repeat constructor));try refine zl ?_)
  refine cQ [0,2,20] (fun s'=>∃ b:Bool,s' = ⟨[(0,.str r),(2,.sl (.sub d j x.p) 1 done.length),(20,.bool b)],Mem.of [(.sub d j x.p,.arr 1 (done.map byA))],c+1+1,[]⟩∧(b=true↔iy r)) ?_ ?_
  ·refine cX nmd [(3,9),(8,14)] [] mixed hng (by kernel_rfl) [0,2,20] fun hf C S K hC hS hK=>?_;simp (disch:=first|omega|assumption) only [go_sem]
   (repeat' (first|(refine aD (fun hv=>?_) (fun hv=>?_)<;>(try simp only [zb1,zb2,zb3,zb4,zb5] at hv)<;>simp (disch:=first|omega|assumption) only [go_sem,hv,Int.reduceEq,Int.reduceNe,ne_eq,not_true_eq_false,not_false_eq_true,decide_true,decide_false])|((first|refine hK (aV rfl) ?_|refine hK (by simp (disch:=first|omega|assumption) only [go_sem,List.reverse_cons,List.reverse_nil,ne_eq,not_false_eq_true,implies_true]) ?_);clear hK hS hC K S C hf)))
   ·refine aT ⟨_,rfl,?_⟩
    simp only [decide_eq_true_eq,iy];omega
   ·exact aT ⟨_,rfl,by simp only [iy,Bool.false_eq_true,false_iff];omega⟩
   ·exact aT ⟨_,rfl,by simp only [iy,Bool.false_eq_true,false_iff];omega⟩
  rintro s' ⟨b,rfl,hiff⟩
  refine jr rfl rfl (fun hb=>?_) (fun hb=>?_)
  ·have hc:=hiff.1 hb
   rw [uA hc] at hset
   have h1:=(r.getD 0 0).toNat_lt
   have h2:=(r.getD 2 0).toNat_lt
   have hrl:=hc.1
   have hac:=hc.2.2
   generalize hA:(r.getD 0 0).toNat=a at hset h1 hac
   generalize hB:(r.getD 2 0).toNat=b2 at hset h2 hac
   (repeat (first|(refine aq rfl rfl ?_)|(refine ar rfl rfl ?_)|(refine aj nmd [] hng (by kernel_rfl) fun hf C S K hC1 hC hS hK=>?_;simp (disch:=first|omega|assumption) only [go_sem,hA];(repeat ((first|refine hC1 _ () (by simp (disch:=first|omega|assumption) only [go_sem]) ?_);simp (disch:=first|omega|assumption) only [go_sem]));refine hK ?_;clear hK hS hC hC1 K S C hf)|((first|refine zn ?_|refine ze ?_|refine zk ?_);with_reducible (constructor;repeat constructor);try refine zl ?_)))
   refine bm [0,2,3] (fun k s'=>∃ (q d j c:Nat) (dn:Str),k=b2+1 - a - q∧q≤b2+1 - a∧d < c∧dn=done++rng a q ∧
     s' = ⟨[(0,.str r),(2,.sl (.sub d j x.p) 1 dn.length),(3,.int .i64 ((a+q:Nat):Int))],Mem.of [(.sub d j x.p,.arr 1 (dn.map byA))],c,[]⟩) _ ⟨0,d,j,c+1+1+1,done,rfl,Nat.zero_le _,by omega,by simp [rng],rfl⟩ ?_
   rintro k s' ⟨q,d,j,c,dn,rfl,hq,hdc,hdn,rfl⟩
   have hql:dn.length≤1024000300:=by rw [hdn,List.length_append,xD];omega
   (repeat (first|(refine aq rfl rfl ?_)|(refine ar rfl rfl ?_)|(refine aj nmd [] hng (by kernel_rfl) fun hf C S K hC1 hC hS hK=>?_;simp (disch:=first|omega|assumption) only [go_sem,hB];(repeat ((first|refine hC1 _ () (by simp (disch:=first|omega|assumption) only [go_sem]) ?_);simp (disch:=first|omega|assumption) only [go_sem]));refine hK ?_;clear hK hS hC hC1 K S C hf)|((first|refine zn ?_|refine ze ?_|refine zk ?_);with_reducible (constructor;repeat constructor);try refine zl ?_)))
   refine aX rfl rfl (fun hb=>?_) (fun hb=>?_)
   ·have hw:IntKind.u8.wrap ((a+q:Nat):Int)=((UInt8.ofNat (a+q)).toNat:Int):=by
     rw [w8 (by omega) (by omega),UInt8.toNat_ofNat'];omega
    (repeat (first|(refine aq rfl rfl ?_)|(refine ar rfl rfl ?_)|(refine aj nmd [] hng (by kernel_rfl) fun hf C S K hC1 hC hS hK=>?_;simp (disch:=first|omega|assumption) only [go_sem,hw];(repeat ((first|refine hC1 _ () (by simp (disch:=first|omega|assumption) only [go_sem]) ?_);simp (disch:=first|omega|assumption) only [go_sem]));refine hK ?_;clear hK hS hC hC1 K S C hf)|((first|refine zn ?_|refine ze ?_|refine zk ?_);with_reducible (constructor;repeat constructor);try refine zl ?_)))
    refine ⟨_,_,?_,fun _ _ h=>h,q+1,c+1,4,c+1+1+1,dn++[UInt8.ofNat (a+q)],rfl,by omega,by omega,?_,?_⟩
    ·omega
    ·rw [C6,← List.append_assoc,hdn]
    ·rw [List.map_append,List.length_append];rfl
   ·have hqe:q=b2+1 - a:=by omega
    subst hqe
    have h3:b9 s=dn++b9 (r.drop 3):=by rw [hset,hdn,List.append_assoc]
    have hrd:(r.drop 3).length < r.length:=by rw [List.length_drop];omega
    (repeat (first|(refine aq rfl rfl ?_)|(refine ar rfl rfl ?_)|(refine aj nmd [] hng (by kernel_rfl) fun hf C S K hC1 hC hS hK=>?_;simp (disch:=first|omega|assumption) only [go_sem];refine hK ?_;clear hK hS hC hC1 K S C hf)|((first|refine zn ?_|refine ze ?_|refine zk ?_);with_reducible (constructor;repeat constructor);try refine zl ?_)))
    exact ⟨_,_,by omega,fun _ _ h=>h,r.drop 3,dn,d,j,_,rfl,by omega,by omega,h3,rfl⟩
  ·have hc:¬ iy r:=fun h=>by rw [hiff.2 h] at hb;cases hb
   rw [uB h0 hc] at hset
   have hrd:(r.drop 1).length < r.length:=by rw [List.length_drop];omega
   (repeat (first|(refine aq rfl rfl ?_)|(refine ar rfl rfl ?_)|(refine aj nmd [] hng (by kernel_rfl) fun hf C S K hC1 hC hS hK=>?_;simp (disch:=first|omega|assumption) only [go_sem];refine hK ?_;clear hK hS hC hC1 K S C hf)|((first|refine zn ?_|refine ze ?_|refine zk ?_);with_reducible (constructor;repeat constructor);try refine zl ?_)))
   refine ⟨_,_,?_,fun _ _ h=>h,r.drop 1,done++[r.getD 0 0],c+1+1,4,c+1+1+1+1,rfl,by omega,by omega,?_,?_⟩
   ·omega
   ·rw [hset];simp
   ·rw [List.map_append,List.length_append];rfl
 ·have h0:r=[]:=by simpa using hb
  subst h0
  rw [C5,List.append_nil] at hset
  (repeat (first|(refine aq rfl rfl ?_)|(refine ar rfl rfl ?_)|(refine aj nmd [] hng (by kernel_rfl) fun hf C S K hC1 hC hS hK=>?_;simp (disch:=first|omega|assumption) only [go_sem];refine hK ?_;clear hK hS hC hC1 K S C hf)|((first|refine zn ?_|refine ze ?_|refine zk ?_);with_reducible (constructor;repeat constructor);try refine zl ?_)))
  exact rM (xs:=done.map byA) rfl (by simp (disch:=first|omega|assumption) only [go_sem]) (List.length_map _).symm (by rw [hset])
end Go.Proofs.YtfbnaalhioogoaaGreatDoor
namespace Go.Proofs.YtfbnaalhioogoaaGreatDoor
open Go Go.Ab
set_option maxRecDepth 20000
set_option maxHeartbeats 4000000
theorem dc (s:Str) (i k:Nat):(s.drop i).getD k 0=s.getD (i+k) 0:=by
 simp [List.getD_eq_getElem?_getD,List.getElem?_drop]
theorem C8 (a n:Nat):rng a (n+1)=UInt8.ofNat a::rng (a+1) n:=by
 simp only [rng,List.range_succ_eq_map,List.map_cons,List.map_map,Nat.add_zero]
 congr 1
 apply List.map_congr_left
 intro k _
 simp only [Function.comp]
 congr 1;omega
theorem ofNat_toNat (b:UInt8):UInt8.ofNat b.toNat=b:=by simp
attribute [go_sem] pS lp
end Go.Proofs.YtfbnaalhioogoaaGreatDoor
namespace Go.Proofs.YtfbnaalhioogoaaGreatDoor
open Go Go.Ab
set_option maxRecDepth 20000
set_option maxHeartbeats 4000000
def fR (T:Nat→Int):List AV:=(List.range 256).map fun k=>.int .i64 (T k)
theorem px:zer Tryz.prog 227=some (fR fun _=>0):=by kernel_rfl
theorem cB (T:Nat→Int):(fR T).length=256:=by simp [fR]
def sG (f g:Str) (k:Nat) (j:Nat):Int:=if bN f (UInt8.ofNat j) k < 0 then 0 else 1+((g.getD (min (bN f (UInt8.ofNat j) k).toNat (g.length - 1)) 0).toNat:Int)
theorem xE (T:Nat→Int) (k:Nat) (hk:k < 256) (v:Int):(fR T).take (0+k * 1)++[.int .i64 v]++(fR T).drop (0+k * 1+1)=fR fun j=>if j=k then v else T j:=by
 show spl (fR T) (0+k * 1) [.int .i64 v]=_
 apply List.ext_getElem
 ·rw [dt (by rw [cB];simp;omega),cB,cB]
 ·intro j h1 h2
  have hj:j < 256:=by rw [cB] at h2;exact h2
  have h3:=jg (vs:=fR T) (k:=0+k * 1) (cs:=[.int .i64 v]) (by rw [cB];simp;omega) j .undef
  rw [List.getD_eq_getElem?_getD,List.getElem?_eq_getElem h1,Option.getD_some] at h3
  rw [h3]
  simp only [List.length_cons,List.length_nil]
  by_cases hjk:j=k
  ·subst hjk
   rw [if_pos (by omega)]
   simp [fR]
  ·rw [if_neg (by omega)]
   simp [fR,hjk,List.getElem?_range hj]
theorem xF (T:Nat→Int) (k:Nat) (hk:k < 256):((fR T).drop (0+k * 1)).getD 0 .undef = .int .i64 (T k):=by
 simp [fR,List.getD_eq_getElem?_getD,List.getElem?_range hk]
def trB (f g:Str) (b:UInt8):Str:=if bN f b f.length < 0 then [b] else if g=[] then [] else [g.getD (min (bN f b f.length).toNat (g.length - 1)) 0]
def C9 (T:Nat→Int) (f g:Str):Prop:=∀ b:UInt8,(trB f g b=[b]∧T b.toNat=0)∨(trB f g b=[]∧T b.toNat = -1)∨∃ y:UInt8,trB f g b=[y]∧T b.toNat=1+(y.toNat:Int)
theorem G3 (f g:Str) (hg:¬ g=[]):C9 (sG f g f.length) f g:=fun b=>by
 unfold sG trB
 rw [ofNat_toNat]
 by_cases h:bN f b f.length < 0
 ·rw [if_pos h,if_pos h];exact .inl ⟨rfl,rfl⟩
 ·rw [if_neg h,if_neg h,if_neg hg];exact .inr (.inr ⟨_,rfl,rfl⟩)
theorem zP {f g:Str} {i:Nat}:(fun j=>if j=(f.getD i 0).toNat then 1+((g.getD (min i (g.length - 1)) 0).toNat:Int) else sG f g i j)=fun j=>if j < 256 then sG f g (i+1) j else if j=(f.getD i 0).toNat then 1+((g.getD (min i (g.length - 1)) 0).toNat:Int) else sG f g i j:=by
 funext j
 by_cases hj:j < 256
 ·rw [if_pos hj]
  by_cases he:j=(f.getD i 0).toNat
  ·rw [if_pos he]
   have h1:f.getD i 0=UInt8.ofNat j:=by rw [he,ofNat_toNat]
   unfold sG
   rw [bN,if_pos h1,if_neg (by omega)];rfl
  ·rw [if_neg he]
   have h1:¬ f.getD i 0=UInt8.ofNat j:=fun e=>he (by rw [e,UInt8.toNat_ofNat'];omega)
   unfold sG
   rw [bN,if_neg h1]
 ·rw [if_neg hj]
theorem uC (T U:Nat→Int):fR (fun j=>if j < 256 then T j else U j)=fR T:=by
 unfold fR
 apply List.map_congr_left
 intro j hj
 simp only [if_pos (List.mem_range.1 hj)]
def sH (f:Str) (k:Nat) (j:Nat):Int:=if bN f (UInt8.ofNat j) k < 0 then 0 else -1
theorem G4 (f:Str):C9 (sH f f.length) f []:=fun b=>by
 unfold sH trB
 rw [ofNat_toNat]
 by_cases h:bN f b f.length < 0
 ·rw [if_pos h,if_pos h];exact .inl ⟨rfl,rfl⟩
 ·rw [if_neg h,if_neg h,if_pos rfl];exact .inr (.inl ⟨rfl,rfl⟩)
theorem zQ {f:Str} {i:Nat}:(fun j=>if j=(f.getD i 0).toNat then -1 else sH f i j)=fun j=>if j < 256 then sH f (i+1) j else if j=(f.getD i 0).toNat then -1 else sH f i j:=by
 funext j
 by_cases hj:j < 256
 ·rw [if_pos hj]
  by_cases he:j=(f.getD i 0).toNat
  ·rw [if_pos he]
   have h1:f.getD i 0=UInt8.ofNat j:=by rw [he,ofNat_toNat]
   unfold sH
   rw [bN,if_pos h1,if_neg (by omega)]
  ·rw [if_neg he]
   have h1:¬ f.getD i 0=UInt8.ofNat j:=fun e=>he (by rw [e,UInt8.toNat_ofNat'];omega)
   unfold sH
   rw [bN,if_neg h1]
 ·rw [if_neg hj]
theorem xG {b:Str} (h:¬ b=[]):¬ b9 b=[]:=by
 by_cases hc:iy b
 ·rw [uA hc]
  have:=hc.2.2
  obtain ⟨k,hk⟩:∃ k,(b.getD 2 0).toNat+1 - (b.getD 0 0).toNat=k+1:=⟨(b.getD 2 0).toNat - (b.getD 0 0).toNat,by omega⟩
  rw [hk,C8];simp
 ·rw [uB h hc];simp
theorem G5 (f g:Str) (b:UInt8):(trB f g b).length≤1:=by
 unfold trB;split
 ·simp
 ·split<;>simp
theorem qY {t:Str} {h:UInt8→Str} {i:Nat} (hi:i < t.length):(t.take (i+1)).flatMap h=(t.take i).flatMap h++h (t.getD i 0):=by
 rw [List.take_add_one,List.flatMap_append,List.getElem?_eq_getElem hi,List.getD_eq_getElem?_getD,List.getElem?_eq_getElem hi]
 simp
theorem uD {h:UInt8→Str} (hh:∀ b,(h b).length≤1):∀ t:Str,(t.flatMap h).length≤t.length
 | []=>by simp
 | b::t=>by
  have:=uD hh t
  have:=hh b
  rw [List.flatMap_cons,List.length_append,List.length_cons];omega
theorem Mt (a b t f g:Str) (h:(a=[45,100]∧f=b9 b∧g=[])∨(¬ a=[45,100]∧¬ b=[]∧f=b9 a∧g=b9 b)) (hal:a.length≤4000000) (hbl:b.length≤4000000) (htl:t.length≤4000000) (p:Oid) :
  af Tryz.prog 149 [.list 1 [.str a,.str b],.str t] (Oid.under p) ⟨[],.tuple [(a6 (t.flatMap (trB f g))).av,.bool true],[]⟩:=by
 have hla:=pw a
 have hlb:=pw b
 refine aJ (n:=106) (rs:=[.cell 4 45,.tmp 5]) Tryz.func149 rfl rfl (by decide) rfl rfl rfl ?_;rintro x rfl hrd hng
 (try ((first|refine zn ?_|refine ze ?_|refine zk ?_);with_reducible (constructor;repeat constructor));try refine zl ?_)
 refine aj nmd [] hng (by kernel_rfl) fun hf C S K hC1 hC hS hK=>?_;simp (disch:=first|omega|assumption) only [go_sem]
 refine hK ?_;clear hK hS hC hC1 K S C hf
 (try ((first|refine zn ?_|refine ze ?_|refine zk ?_);with_reducible (constructor;repeat constructor));try refine zl ?_)
 refine cQ [0,1,4,29] (fun s'=>s' = ⟨[(0,.list 1 [.str a,.str b]),(1,.str t),(4,.ptr (.sub 0 0 x.p) 0),(29,.bool false)],Mem.of [(.sub 0 0 x.p,.cells [.int .i64 0,.str [],.str []])],2,[]⟩) ?_ ?_
 ·rcases h with ⟨rfl,_,_⟩|⟨ha,hb0,_,_⟩
  ·refine aj nmd [(3,18),(8,23)] hng (by kernel_rfl) fun hf C S K hC1 hC hS hK=>?_;simp (disch:=first|omega|assumption) only [go_sem]
   (repeat' (first|(refine aD (fun hv=>?_) (fun hv=>?_)<;>(try simp only [zb1,zb2,zb3,zb4,zb5] at hv)<;>simp (disch:=first|omega|assumption) only [go_sem,hv,decide_false,decide_true,ne_eq,not_true_eq_false,not_false_eq_true])|(refine hK ?_;clear hK hS hC hC1 K S C hf)))
   all_goals first|exact absurd rfl hv|exact aT rfl
  ·refine aj nmd [(3,18),(8,23)] hng (by kernel_rfl) fun hf C S K hC1 hC hS hK=>?_;simp (disch:=first|omega|assumption) only [go_sem]
   (repeat' (first|(refine aD (fun hv=>?_) (fun hv=>?_)<;>(try simp only [zb1,zb2,zb3,zb4,zb5] at hv)<;>simp (disch:=first|omega|assumption) only [go_sem,hv,ha,hb0,decide_false,decide_true,ne_eq,not_true_eq_false,not_false_eq_true])|(refine hK ?_;clear hK hS hC hC1 K S C hf)))
   all_goals first|exact absurd rfl hv|exact aT rfl
 rintro s' rfl
 (repeat (first|(refine aq rfl rfl ?_)|(refine ar rfl rfl ?_)|(refine aj nmd [] hng (by kernel_rfl) fun hf C S K hC1 hC hS hK=>?_;simp (disch:=first|omega|assumption) only [go_sem,px];(repeat ((first|refine hC1 _ (C7 b hbl _) (by simp (disch:=first|omega|assumption) only [go_sem]) ?_);simp (disch:=first|omega|assumption) only [go_sem]));refine hK ?_;clear hK hS hC hC1 K S C hf)|((first|refine zn ?_|refine ze ?_|refine zk ?_);with_reducible (constructor;repeat constructor);try refine zl ?_)))
 refine cQ [1,4,6] (fun s'=>∃ (T:Nat→Int) (c:Nat),s' = ⟨[(1,.str t),(4,.ptr (.sub 0 0 x.p) 0),(6,.ptr (.sub 2 0 x.p) 0)],Mem.of [(.sub 0 0 x.p,.cells [.int .i64 0,.str [],.str []]),(.sub 2 0 x.p,.cells (fR T))],c,[]⟩∧3≤c∧C9 T f g) ?_ ?_
 ·refine aX rfl rfl (fun hb=>?_) (fun hb=>?_)
  ·obtain ⟨_,rfl,rfl⟩:=h.resolve_right fun hh=>hh.1 hb
   (repeat (first|(refine aq rfl rfl ?_)|(refine ar rfl rfl ?_)|(refine aj nmd [] hng (by kernel_rfl) fun hf C S K hC1 hC hS hK=>?_;simp (disch:=first|omega|assumption) only [go_sem,px];(repeat ((first|refine hC1 _ () (by simp (disch:=first|omega|assumption) only [go_sem]) ?_);simp (disch:=first|omega|assumption) only [go_sem]));refine hK ?_;clear hK hS hC hC1 K S C hf)|((first|refine zn ?_|refine ze ?_|refine zk ?_);with_reducible (constructor;repeat constructor);try refine zl ?_)))
   refine bm [1,4,6,41,42,43] (fun k s'=>∃ (i c:Nat),k=(b9 b).length - i∧i≤(b9 b).length∧3≤c ∧
    s' = ⟨[(1,.str t),(4,.ptr (.sub 0 0 x.p) 0),(6,.ptr (.sub 2 0 x.p) 0),(41,.list 1 ((b9 b).map byA)),(42,.int .i64 (b9 b).length),(43,.int .i64 i)],
     Mem.of [(.sub 0 0 x.p,.cells [.int .i64 0,.str [],.str []]),(.sub 2 0 x.p,.cells (fR (sH (b9 b) i)))],c,[]⟩) _ ⟨0,6,rfl,Nat.zero_le _,by omega,rfl⟩ ?_
   rintro k s' ⟨i,c,rfl,hi,hc3,rfl⟩
   (repeat (first|(refine aq rfl rfl ?_)|(refine ar rfl rfl ?_)|(refine aj nmd [] hng (by kernel_rfl) fun hf C S K hC1 hC hS hK=>?_;simp (disch:=first|omega|assumption) only [go_sem];refine hK ?_;clear hK hS hC hC1 K S C hf)|((first|refine zn ?_|refine ze ?_|refine zk ?_);with_reducible (constructor;repeat constructor);try refine zl ?_)))
   refine aX rfl rfl (fun hb=>?_) (fun hb=>?_)
   ·have hlt:i < (b9 b).length:=by omega
    have hy:=((b9 b).getD i 0).toNat_lt
    have e0:(default:UInt8)=0:=rfl
    have hts:=xE (sH (b9 b) i) ((b9 b).getD i 0).toNat hy (-1)
    rw [zQ,uC] at hts
    have hle:(0+((b9 b).getD i 0).toNat * 1≤255)=True:=eq_true (by omega)
    (repeat (first|(refine aq rfl rfl ?_)|(refine ar rfl rfl ?_)|(refine aj nmd [] hng (by kernel_rfl) fun hf C S K hC1 hC hS hK=>?_;simp (disch:=first|omega|assumption) only [go_sem,cB,byA,e0];(repeat ((first|refine hC1 _ () (by simp (disch:=first|omega|assumption) only [go_sem]) ?_);simp (disch:=first|omega|assumption) only [go_sem]));refine hK ?_;clear hK hS hC hC1 K S C hf)|((first|refine zn ?_|refine ze ?_|refine zk ?_);with_reducible (constructor;repeat constructor);try refine zl ?_)))
    refine aj nmd [] hng (by kernel_rfl) fun hf C S K hC1 hC hS hK=>?_;simp (disch:=first|omega|assumption) only [go_sem,cB,byA,e0,hle,hts]
    refine hK ?_;clear hK hS hC hC1 K S C hf
    (repeat (first|(refine aq rfl rfl ?_)|(refine ar rfl rfl ?_)|(refine aj nmd [] hng (by kernel_rfl) fun hf C S K hC1 hC hS hK=>?_;simp (disch:=first|omega|assumption) only [go_sem];refine hK ?_;clear hK hS hC hC1 K S C hf)|((first|refine zn ?_|refine ze ?_|refine zk ?_);with_reducible (constructor;repeat constructor);try refine zl ?_)))
    exact ⟨_,_,by omega,fun _ _ h=>h,i+1,_,rfl,by omega,by omega,rfl⟩
   ·obtain rfl:i=(b9 b).length:=by omega
    (repeat (first|(refine aq rfl rfl ?_)|(refine ar rfl rfl ?_)|(refine aj nmd [] hng (by kernel_rfl) fun hf C S K hC1 hC hS hK=>?_;simp (disch:=first|omega|assumption) only [go_sem];refine hK ?_;clear hK hS hC hC1 K S C hf)|((first|refine zn ?_|refine ze ?_|refine zk ?_);with_reducible (constructor;repeat constructor);try refine zl ?_)))
    exact aT ⟨_,_,rfl,by omega,G4 _⟩
  ·obtain ⟨_,hb0,rfl,rfl⟩:=h.resolve_left fun hh=>hb hh.1
   (repeat (first|(refine aq rfl rfl ?_)|(refine ar rfl rfl ?_)|(refine aj nmd [] hng (by kernel_rfl) fun hf C S K hC1 hC hS hK=>?_;simp (disch:=first|omega|assumption) only [go_sem,px];(repeat ((first|refine hC1 _ (C7 a hal _) (by simp (disch:=first|omega|assumption) only [go_sem]) ?_);simp (disch:=first|omega|assumption) only [go_sem]));refine hK ?_;clear hK hS hC hC1 K S C hf)|((first|refine zn ?_|refine ze ?_|refine zk ?_);with_reducible (constructor;repeat constructor);try refine zl ?_)))
   refine bm [1,4,6,7,53,54,55] (fun k s'=>∃ (i c:Nat),k=(b9 a).length - i∧i≤(b9 a).length∧3≤c ∧
    s' = ⟨[(1,.str t),(4,.ptr (.sub 0 0 x.p) 0),(6,.ptr (.sub 2 0 x.p) 0),(7,.list 1 ((b9 b).map byA)),(53,.list 1 ((b9 a).map byA)),(54,.int .i64 (b9 a).length),(55,.int .i64 i)],
     Mem.of [(.sub 0 0 x.p,.cells [.int .i64 0,.str [],.str []]),(.sub 2 0 x.p,.cells (fR (sG (b9 a) (b9 b) i)))],c,[]⟩) _ ⟨0,6,rfl,Nat.zero_le _,by omega,rfl⟩ ?_
   rintro k s' ⟨i,c,rfl,hi,hc3,rfl⟩
   (repeat (first|(refine aq rfl rfl ?_)|(refine ar rfl rfl ?_)|(refine aj nmd [] hng (by kernel_rfl) fun hf C S K hC1 hC hS hK=>?_;simp (disch:=first|omega|assumption) only [go_sem];refine hK ?_;clear hK hS hC hC1 K S C hf)|((first|refine zn ?_|refine ze ?_|refine zk ?_);with_reducible (constructor;repeat constructor);try refine zl ?_)))
   refine aX rfl rfl (fun hb=>?_) (fun hb=>?_)
   ·have hlt:i < (b9 a).length:=by omega
    have hbp:=List.length_pos_iff.2 (xG hb0)
    have hy:=((b9 a).getD i 0).toNat_lt
    have hz:=((b9 b).getD (min i ((b9 b).length - 1)) 0).toNat_lt
    have e0:(default:UInt8)=0:=rfl
    have hmin:(if ((b9 b).length:Int) - 1 < (i:Int) then ((b9 b).length:Int) - 1 else (i:Int)).toNat=min i ((b9 b).length - 1):=by split<;>omega
    have hts:=xE (sG (b9 a) (b9 b) i) ((b9 a).getD i 0).toNat hy (1+(((b9 b).getD (min i ((b9 b).length - 1)) 0).toNat:Int))
    rw [zP,uC] at hts
    have hle:(0+((b9 a).getD i 0).toNat * 1≤255)=True:=eq_true (by omega)
    (repeat (first|(refine aq rfl rfl ?_)|(refine ar rfl rfl ?_)|(refine aj nmd [] hng (by kernel_rfl) fun hf C S K hC1 hC hS hK=>?_;simp (disch:=first|omega|assumption) only [go_sem,cB,byA,e0];(repeat ((first|refine hC1 _ () (by simp (disch:=first|omega|assumption) only [go_sem]) ?_);simp (disch:=first|omega|assumption) only [go_sem]));refine hK ?_;clear hK hS hC hC1 K S C hf)|((first|refine zn ?_|refine ze ?_|refine zk ?_);with_reducible (constructor;repeat constructor);try refine zl ?_)))
    refine aj nmd [] hng (by kernel_rfl) fun hf C S K hC1 hC hS hK=>?_;simp (disch:=first|omega|assumption) only [go_sem,cB,byA,hmin,e0,hle,hts]
    refine hK ?_;clear hK hS hC hC1 K S C hf
    (repeat (first|(refine aq rfl rfl ?_)|(refine ar rfl rfl ?_)|(refine aj nmd [] hng (by kernel_rfl) fun hf C S K hC1 hC hS hK=>?_;simp (disch:=first|omega|assumption) only [go_sem];refine hK ?_;clear hK hS hC hC1 K S C hf)|((first|refine zn ?_|refine ze ?_|refine zk ?_);with_reducible (constructor;repeat constructor);try refine zl ?_)))
    exact ⟨_,_,by omega,fun _ _ h=>h,i+1,_,rfl,by omega,by omega,rfl⟩
   ·obtain rfl:i=(b9 a).length:=by omega
    (repeat (first|(refine aq rfl rfl ?_)|(refine ar rfl rfl ?_)|(refine aj nmd [] hng (by kernel_rfl) fun hf C S K hC1 hC hS hK=>?_;simp (disch:=first|omega|assumption) only [go_sem];refine hK ?_;clear hK hS hC hC1 K S C hf)|((first|refine zn ?_|refine ze ?_|refine zk ?_);with_reducible (constructor;repeat constructor);try refine zl ?_)))
    exact aT ⟨_,_,rfl,by omega,G3 _ _ (xG hb0)⟩
 rintro s' ⟨T,c,rfl,hc3,hT⟩
 (repeat (first|(refine aq rfl rfl ?_)|(refine ar rfl rfl ?_)|(refine aj nmd [] hng (by kernel_rfl) fun hf C S K hC1 hC hS hK=>?_;simp (disch:=first|omega|assumption) only [go_sem];refine hK ?_;clear hK hS hC hC1 K S C hf)|((first|refine zn ?_|refine ze ?_|refine zk ?_);with_reducible (constructor;repeat constructor);try refine zl ?_)))
 refine bm [1,4,6,12,74,75] (fun k s'=>∃ (i c:Nat) (done:Str) (v:AV) (M:List (Oid × aw)),k=t.length - i∧i≤t.length∧3≤c∧done=(t.take i).flatMap (trB f g) ∧
   ((done=[]∧v = .nilSl∧M=[(.sub 0 0 x.p,.cells [.int .i64 0,.str [],.str []]),(.sub 2 0 x.p,.cells (fR T))])∨(¬ done=[]∧∃ d j,d < c∧v = .sl (.ty 5 (.sub d j x.p)) 1 done.length∧M=[(.sub 0 0 x.p,.cells [.int .i64 0,.str [],.str []]),(.sub 2 0 x.p,.cells (fR T)),(.ty 5 (.sub d j x.p),.arr 1 (done.map byA))])) ∧
   s' = ⟨[(1,.str t),(4,.ptr (.sub 0 0 x.p) 0),(6,.ptr (.sub 2 0 x.p) 0),(12,v),(74,.int .i64 t.length),(75,.int .i64 i)],Mem.of M,c,[]⟩) _ ⟨0,c+1+1,[],.nilSl,_,rfl,Nat.zero_le _,by omega,rfl,.inl ⟨rfl,rfl,rfl⟩,rfl⟩ ?_
 rintro k s' ⟨i,c,done,v,M,rfl,hi,hc3,hdn,hM,rfl⟩
 have hdl:done.length≤4000000:=by
  have:=uD (G5 f g) (t.take i)
  rw [← hdn,List.length_take] at this;omega
 rcases hM with ⟨rfl,rfl,rfl⟩|⟨hd0,d,j,hdc,rfl,rfl⟩
 ·(repeat (first|(refine aq rfl rfl ?_)|(refine ar rfl rfl ?_)|(refine aj nmd [] hng (by kernel_rfl) fun hf C S K hC1 hC hS hK=>?_;simp (disch:=first|omega|assumption) only [go_sem];refine hK ?_;clear hK hS hC hC1 K S C hf)|((first|refine zn ?_|refine ze ?_|refine zk ?_);with_reducible (constructor;repeat constructor);try refine zl ?_)))
  refine aX rfl rfl (fun hb=>?_) (fun hb=>?_)
  ·have hlt:i < t.length:=by omega
   have hft:=qY (h:=trB f g) hlt
   have hy:=(t.getD i 0).toNat_lt
   have hget:=xF T (t.getD i 0).toNat hy
   have hpos:(0 < 256 - (0+(t.getD i 0).toNat * 1))=True:=eq_true (by omega)
   rw [← hdn] at hft
   rcases hT (t.getD i 0) with ⟨ht,hT0⟩|⟨ht,hT0⟩|⟨y,ht,hT0⟩<;>rw [ht] at hft<;>rw [hT0] at hget
   ·(repeat (first|(refine aq rfl rfl ?_)|(refine ar rfl rfl ?_)|(refine aj nmd [] hng (by kernel_rfl) fun hf C S K hC1 hC hS hK=>?_;simp (disch:=first|omega|assumption) only [go_sem,cB,hget,hpos,lp,pS];(repeat ((first|refine hC1 _ () (by simp (disch:=first|omega|assumption) only [go_sem]) ?_);simp (disch:=first|omega|assumption) only [go_sem]));refine hK ?_;clear hK hS hC hC1 K S C hf)|((first|refine zn ?_|refine ze ?_|refine zk ?_);with_reducible (constructor;repeat constructor);try refine zl ?_)))
    refine ⟨_,_,by omega,fun _ _ h=>h,i+1,c+1+1+1+1+1+1+1,[]++[t.getD i 0],.sl (.ty 5 (.sub (c+1+1+1+1+1) 5 x.p)) 1 ([]++[t.getD i 0]).length,[(.sub 0 0 x.p,.cells [.int .i64 0,.str [],.str []]),(.sub 2 0 x.p,.cells (fR T)),(.ty 5 (.sub (c+1+1+1+1+1) 5 x.p),.arr 1 (([]++[t.getD i 0]).map byA))],rfl,by omega,by omega,hft.symm,.inr ⟨by simp,c+1+1+1+1+1,5,by omega,rfl,rfl⟩,?_⟩
    first|rfl|(rw [List.map_append,List.length_append];rfl)
   ·rw [List.append_nil] at hft
    (repeat (first|(refine aq rfl rfl ?_)|(refine ar rfl rfl ?_)|(refine aj nmd [] hng (by kernel_rfl) fun hf C S K hC1 hC hS hK=>?_;simp (disch:=first|omega|assumption) only [go_sem,cB,hget,hpos,lp,pS,Int.reduceEq,Int.reduceNeg,decide_false];(repeat ((first|refine hC1 _ () (by simp (disch:=first|omega|assumption) only [go_sem]) ?_);simp (disch:=first|omega|assumption) only [go_sem]));refine hK ?_;clear hK hS hC hC1 K S C hf)|((first|refine zn ?_|refine ze ?_|refine zk ?_);with_reducible (constructor;repeat constructor);try refine zl ?_)))
    exact ⟨_,_,by omega,fun _ _ h=>h,i+1,_,[],_,_,rfl,by omega,by omega,hft.symm,.inl ⟨rfl,rfl,rfl⟩,rfl⟩
   ·have hyy:=y.toNat_lt
    have hz0:(1+(y.toNat:Int)=0)=False:=eq_false (by omega)
    have hz1:(1+(y.toNat:Int) = -1)=False:=eq_false (by omega)
    have hw:IntKind.u8.wrap (1+(y.toNat:Int) - 1)=(y.toNat:Int):=by rw [show (1+(y.toNat:Int) - 1)=y.toNat by omega];exact Bx y
    (repeat (first|(refine aq rfl rfl ?_)|(refine ar rfl rfl ?_)|(refine aj nmd [] hng (by kernel_rfl) fun hf C S K hC1 hC hS hK=>?_;simp (disch:=first|omega|assumption) only [go_sem,cB,hget,hpos,lp,pS,hz0,hz1,hw,decide_false];(repeat ((first|refine hC1 _ () (by simp (disch:=first|omega|assumption) only [go_sem]) ?_);simp (disch:=first|omega|assumption) only [go_sem]));refine hK ?_;clear hK hS hC hC1 K S C hf)|((first|refine zn ?_|refine ze ?_|refine zk ?_);with_reducible (constructor;repeat constructor);try refine zl ?_)))
    refine ⟨_,_,by omega,fun _ _ h=>h,i+1,c+1+1+1+1+1+1+1+1,[]++[y],.sl (.ty 5 (.sub (c+1+1+1+1+1+1) 5 x.p)) 1 ([]++[y]).length,[(.sub 0 0 x.p,.cells [.int .i64 0,.str [],.str []]),(.sub 2 0 x.p,.cells (fR T)),(.ty 5 (.sub (c+1+1+1+1+1+1) 5 x.p),.arr 1 (([]++[y]).map byA))],rfl,by omega,by omega,hft.symm,.inr ⟨by simp,c+1+1+1+1+1+1,5,by omega,rfl,rfl⟩,?_⟩
    first|rfl|(rw [List.map_append,List.length_append];rfl)
  ·obtain rfl:i=t.length:=by omega
   rw [List.take_length] at hdn
   rw [← hdn]
   (repeat (first|(refine aq rfl rfl ?_)|(refine ar rfl rfl ?_)|(refine aj nmd [] hng (by kernel_rfl) fun hf C S K hC1 hC hS hK=>?_;simp (disch:=first|omega|assumption) only [go_sem,pS];(repeat ((first|refine hC1 _ (bY [] _) (by simp (disch:=first|omega|assumption) only [go_sem]) ?_);simp (disch:=first|omega|assumption) only [go_sem]));refine hK ?_;clear hK hS hC hC1 K S C hf)|((first|refine zn ?_|refine ze ?_|refine zk ?_);with_reducible (constructor;repeat constructor);try refine zl ?_)))
   exact aA (ay (by simp (disch:=first|omega|assumption) only [go_sem,Res.av,a6,bj,bh]))
 ·(repeat (first|(refine aq rfl rfl ?_)|(refine ar rfl rfl ?_)|(refine aj nmd [] hng (by kernel_rfl) fun hf C S K hC1 hC hS hK=>?_;simp (disch:=first|omega|assumption) only [go_sem];refine hK ?_;clear hK hS hC hC1 K S C hf)|((first|refine zn ?_|refine ze ?_|refine zk ?_);with_reducible (constructor;repeat constructor);try refine zl ?_)))
  refine aX rfl rfl (fun hb=>?_) (fun hb=>?_)
  ·have hlt:i < t.length:=by omega
   have hft:=qY (h:=trB f g) hlt
   have hy:=(t.getD i 0).toNat_lt
   have hget:=xF T (t.getD i 0).toNat hy
   have hpos:(0 < 256 - (0+(t.getD i 0).toNat * 1))=True:=eq_true (by omega)
   rw [← hdn] at hft
   rcases hT (t.getD i 0) with ⟨ht,hT0⟩|⟨ht,hT0⟩|⟨y,ht,hT0⟩<;>rw [ht] at hft<;>rw [hT0] at hget
   ·(repeat (first|(refine aq rfl rfl ?_)|(refine ar rfl rfl ?_)|(refine aj nmd [] hng (by kernel_rfl) fun hf C S K hC1 hC hS hK=>?_;simp (disch:=first|omega|assumption) only [go_sem,cB,hget,hpos,lp,pS];(repeat ((first|refine hC1 _ () (by simp (disch:=first|omega|assumption) only [go_sem]) ?_);simp (disch:=first|omega|assumption) only [go_sem]));refine hK ?_;clear hK hS hC hC1 K S C hf)|((first|refine zn ?_|refine ze ?_|refine zk ?_);with_reducible (constructor;repeat constructor);try refine zl ?_)))
    refine ⟨_,_,by omega,fun _ _ h=>h,i+1,c+1+1+1+1+1+1+1,done++[t.getD i 0],.sl (.ty 5 (.sub (c+1+1+1+1+1) 5 x.p)) 1 (done++[t.getD i 0]).length,[(.sub 0 0 x.p,.cells [.int .i64 0,.str [],.str []]),(.sub 2 0 x.p,.cells (fR T)),(.ty 5 (.sub (c+1+1+1+1+1) 5 x.p),.arr 1 ((done++[t.getD i 0]).map byA))],rfl,by omega,by omega,hft.symm,.inr ⟨by simp,c+1+1+1+1+1,5,by omega,rfl,rfl⟩,?_⟩
    first|rfl|(rw [List.map_append,List.length_append];rfl)
   ·rw [List.append_nil] at hft
    (repeat (first|(refine aq rfl rfl ?_)|(refine ar rfl rfl ?_)|(refine aj nmd [] hng (by kernel_rfl) fun hf C S K hC1 hC hS hK=>?_;simp (disch:=first|omega|assumption) only [go_sem,cB,hget,hpos,lp,pS,Int.reduceEq,Int.reduceNeg,decide_false];(repeat ((first|refine hC1 _ () (by simp (disch:=first|omega|assumption) only [go_sem]) ?_);simp (disch:=first|omega|assumption) only [go_sem]));refine hK ?_;clear hK hS hC hC1 K S C hf)|((first|refine zn ?_|refine ze ?_|refine zk ?_);with_reducible (constructor;repeat constructor);try refine zl ?_)))
    exact ⟨_,_,by omega,fun _ _ h=>h,i+1,_,done,_,_,rfl,by omega,by omega,hft.symm,.inr ⟨hd0,d,j,by omega,rfl,rfl⟩,rfl⟩
   ·have hyy:=y.toNat_lt
    have hz0:(1+(y.toNat:Int)=0)=False:=eq_false (by omega)
    have hz1:(1+(y.toNat:Int) = -1)=False:=eq_false (by omega)
    have hw:IntKind.u8.wrap (1+(y.toNat:Int) - 1)=(y.toNat:Int):=by rw [show (1+(y.toNat:Int) - 1)=y.toNat by omega];exact Bx y
    (repeat (first|(refine aq rfl rfl ?_)|(refine ar rfl rfl ?_)|(refine aj nmd [] hng (by kernel_rfl) fun hf C S K hC1 hC hS hK=>?_;simp (disch:=first|omega|assumption) only [go_sem,cB,hget,hpos,lp,pS,hz0,hz1,hw,decide_false];(repeat ((first|refine hC1 _ () (by simp (disch:=first|omega|assumption) only [go_sem]) ?_);simp (disch:=first|omega|assumption) only [go_sem]));refine hK ?_;clear hK hS hC hC1 K S C hf)|((first|refine zn ?_|refine ze ?_|refine zk ?_);with_reducible (constructor;repeat constructor);try refine zl ?_)))
    refine ⟨_,_,by omega,fun _ _ h=>h,i+1,c+1+1+1+1+1+1+1+1,done++[y],.sl (.ty 5 (.sub (c+1+1+1+1+1+1) 5 x.p)) 1 (done++[y]).length,[(.sub 0 0 x.p,.cells [.int .i64 0,.str [],.str []]),(.sub 2 0 x.p,.cells (fR T)),(.ty 5 (.sub (c+1+1+1+1+1+1) 5 x.p),.arr 1 ((done++[y]).map byA))],rfl,by omega,by omega,hft.symm,.inr ⟨by simp,c+1+1+1+1+1+1,5,by omega,rfl,rfl⟩,?_⟩
    first|rfl|(rw [List.map_append,List.length_append];rfl)
  ·obtain rfl:i=t.length:=by omega
   rw [List.take_length] at hdn
   have hdp:=List.length_pos_iff.2 hd0
   rw [← hdn]
   refine cI (.ty 5 (.sub d j x.p)) 1 (done.map byA) (by simp (disch:=first|omega|assumption) only [go_sem]) ?_
   simp (disch:=first|omega|assumption) only [go_sem]
   (repeat (first|(refine aq rfl rfl ?_)|(refine ar rfl rfl ?_)|(refine aj nmd [] hng (by kernel_rfl) fun hf C S K hC1 hC hS hK=>?_;simp (disch:=first|omega|assumption) only [go_sem];(repeat ((first|refine hC1 _ (bY done _) (by simp (disch:=first|omega|assumption) only [go_sem]) ?_);simp (disch:=first|omega|assumption) only [go_sem]));refine hK ?_;clear hK hS hC hC1 K S C hf)|((first|refine zn ?_|refine ze ?_|refine zk ?_);with_reducible (constructor;repeat constructor);try refine zl ?_)))
   exact aA (ay (by simp (disch:=first|omega|assumption) only [go_sem,Res.av,a6,bj,bh]))
end Go.Proofs.YtfbnaalhioogoaaGreatDoor
namespace Go.Proofs.YtfbnaalhioogoaaGreatDoor
open Go Go.Ab
set_option maxRecDepth 20000
set_option maxHeartbeats 4000000
theorem Ld (args:List Str) (t:Str) (h:¬ args.length=2∨∃ a,args=[a,[]]∧¬ a=[45,100]) (p:Oid) :
  af Tryz.prog 149 [.list 1 (args.map AV.str),.str t] (Oid.under p) ⟨[],.tuple [bj.av,.bool false],[]⟩:=by
 rcases h with h|⟨a,rfl,ha⟩
 ·have hz2:((args.length:Int)=2)=False:=eq_false (by omega)
  refine aJ (n:=106) (rs:=[.cell 4 45,.tmp 5]) Tryz.func149 rfl rfl (by decide) rfl rfl rfl ?_;rintro x rfl hrd hng
  (try ((first|refine zn ?_|refine ze ?_|refine zk ?_);with_reducible (constructor;repeat constructor));try refine zl ?_)
  refine aj nmd [] hng (by kernel_rfl) fun hf C S K hC1 hC hS hK=>?_;simp (disch:=first|omega|assumption) only [go_sem]
  refine hK ?_;clear hK hS hC hC1 K S C hf
  (try ((first|refine zn ?_|refine ze ?_|refine zk ?_);with_reducible (constructor;repeat constructor));try refine zl ?_)
  refine aj nmd [(3,18),(8,23)] hng (by kernel_rfl) fun hf C S K hC1 hC hS hK=>?_;simp (disch:=first|omega|assumption) only [go_sem,List.length_map,hz2,decide_true,decide_false,ne_eq,not_true_eq_false,not_false_eq_true]
  (repeat' (first|(refine aD (fun hv=>?_) (fun hv=>?_)<;>(try simp only [zb1,zb2,zb3,zb4,zb5] at hv)<;>simp (disch:=first|omega|assumption) only [go_sem,hv,List.length_map,hz2,decide_true,decide_false,ne_eq,not_true_eq_false,not_false_eq_true])|(refine hK ?_;clear hK hS hC hC1 K S C hf)))
  all_goals first|contradiction|skip
  (repeat (first|(refine aq rfl rfl ?_)|(refine ar rfl rfl ?_)|(refine aj nmd [] hng (by kernel_rfl) fun hf C S K hC1 hC hS hK=>?_;simp (disch:=first|omega|assumption) only [go_sem];(repeat ((first|refine hC1 _ (eN _) (by simp (disch:=first|omega|assumption) only [go_sem]) ?_);simp (disch:=first|omega|assumption) only [go_sem]));refine hK ?_;clear hK hS hC hC1 K S C hf)|((first|refine zn ?_|refine ze ?_|refine zk ?_);with_reducible (constructor;repeat constructor);try refine zl ?_)))
  exact aA (ay (by simp (disch:=first|omega|assumption) only [go_sem,Res.av,bj]))
 ·refine aJ (n:=106) (rs:=[.cell 4 45,.tmp 5]) Tryz.func149 rfl rfl (by decide) rfl rfl rfl ?_;rintro x rfl hrd hng
  (try ((first|refine zn ?_|refine ze ?_|refine zk ?_);with_reducible (constructor;repeat constructor));try refine zl ?_)
  refine aj nmd [] hng (by kernel_rfl) fun hf C S K hC1 hC hS hK=>?_;simp (disch:=first|omega|assumption) only [go_sem]
  refine hK ?_;clear hK hS hC hC1 K S C hf
  (try ((first|refine zn ?_|refine ze ?_|refine zk ?_);with_reducible (constructor;repeat constructor));try refine zl ?_)
  refine aj nmd [(3,18),(8,23)] hng (by kernel_rfl) fun hf C S K hC1 hC hS hK=>?_;simp (disch:=first|omega|assumption) only [go_sem,ha,decide_true,decide_false,ne_eq,not_true_eq_false,not_false_eq_true]
  (repeat' (first|(refine aD (fun hv=>?_) (fun hv=>?_)<;>(try simp only [zb1,zb2,zb3,zb4,zb5] at hv)<;>simp (disch:=first|omega|assumption) only [go_sem,hv,ha,decide_true,decide_false,ne_eq,not_true_eq_false,not_false_eq_true])|(refine hK ?_;clear hK hS hC hC1 K S C hf)))
  all_goals first|exact absurd rfl hv|skip
  (repeat (first|(refine aq rfl rfl ?_)|(refine ar rfl rfl ?_)|(refine aj nmd [] hng (by kernel_rfl) fun hf C S K hC1 hC hS hK=>?_;simp (disch:=first|omega|assumption) only [go_sem];(repeat ((first|refine hC1 _ (eN _) (by simp (disch:=first|omega|assumption) only [go_sem]) ?_);simp (disch:=first|omega|assumption) only [go_sem]));refine hK ?_;clear hK hS hC hC1 K S C hf)|((first|refine zn ?_|refine ze ?_|refine zk ?_);with_reducible (constructor;repeat constructor);try refine zl ?_)))
  exact aA (ay (by simp (disch:=first|omega|assumption) only [go_sem,Res.av,bj]))
end Go.Proofs.YtfbnaalhioogoaaGreatDoor
namespace Go.Proofs.YtfbnaalhioogoaaGreatDoor
open Go Go.Ab
set_option maxRecDepth 20000
set_option maxHeartbeats 2000000
def pB (rv:Bool) (x y:Str):Bool:=(decide (y < x) != rv) || decide (y=x)
def rel (rv:Bool) (a b:Str):Prop:=if rv=true then b≤a else a≤b
theorem Le {a b:Str}:a≤b↔a < b∨a=b:=by
 constructor
 ·intro h
  by_cases he:a=b
  ·exact .inr he
  ·exact .inl (Std.lt_of_le_of_ne h he)
 ·rintro (h|rfl)
  ·exact List.le_of_lt h
  ·exact List.le_refl _
theorem Da {rv:Bool} {x y:Str}:pB rv x y=true↔rel rv y x:=by
 unfold pB rel
 cases rv with
 | false=>simp [Le]
 | true =>
  have hd:(decide (y < x) != true)=decide (¬ y < x):=by by_cases h:y < x<;>simp [h]
  rw [hd,Bool.or_eq_true,decide_eq_true_eq,decide_eq_true_eq,List.not_lt,if_pos rfl]
  constructor
  ·rintro (h|rfl)
   ·exact h
   ·exact List.le_refl _
  ·intro h;exact .inl h
theorem zR (rv:Bool) (a b:Str):rel rv a b∨rel rv b a:=by
 unfold rel;cases rv
 ·exact (List.le_total _ _)
 ·exact (List.le_total _ _)
theorem rel_trans {rv:Bool} {a b c:Str} (h1:rel rv a b) (h2:rel rv b c):rel rv a c:=by
 unfold rel at *;cases rv
 ·exact List.le_trans h1 h2
 ·exact List.le_trans h2 h1
theorem Db {rv:Bool} {a b:Str} (h1:rel rv a b) (h2:rel rv b a):a=b:=by
 unfold rel at *;cases rv
 ·exact List.le_antisymm h1 h2
 ·exact List.le_antisymm h2 h1
theorem rel_refl (rv:Bool) (a:Str):rel rv a a:=by
 unfold rel;cases rv
 ·exact List.le_refl _
 ·exact List.le_refl _
def kI (rv:Bool) (x:Str) (o:List Str):Nat:=(o.takeWhile (pB rv x)).length
theorem Dc (q:Str→Bool):∀ (o:List Str),∀ y ∈ o.takeWhile q,q y=true
 | [],_,h=>by cases h
 | a::o,y,h=>by
  rw [List.takeWhile_cons] at h
  split at h
  ·rename_i ha
   rcases List.mem_cons.1 h with rfl|h
   ·exact ha
   ·exact Dc q o y h
  ·cases h
theorem xH (q:Str→Bool):∀ (o:List Str) z w,o.dropWhile q=z::w→¬ q z=true
 | [],_,_,h=>by cases h
 | a::o,z,w,h=>by
  rw [List.dropWhile_cons] at h
  split at h
  ·exact xH q o z w h
  ·rename_i ha
   rw [List.cons.injEq] at h
   rw [← h.1];exact ha
theorem behind {rv:Bool} {x:Str} {o:List Str} (h:o.Pairwise (rel rv)):∀ y ∈ o.dropWhile (pB rv x),rel rv x y∧¬ rel rv y x:=by
 cases hd:o.dropWhile (pB rv x) with
 | nil=>intro y hy;cases hy
 | cons z w =>
  have hz:=xH _ _ _ _ hd
  rw [Da] at hz
  have hxz:rel rv x z:=(zR rv x z).resolve_right hz
  have hp:(z::w).Pairwise (rel rv):=by
   rw [← hd];exact h.sublist (List.dropWhile_sublist _)
  intro y hy
  rcases List.mem_cons.1 hy with rfl|hy
  ·exact ⟨hxz,hz⟩
  ·have hzy:=(List.pairwise_cons.1 hp).1 y hy
   exact ⟨rel_trans hxz hzy,fun hyx=>hz (rel_trans hzy hyx)⟩
def strict (rv:Bool) (o:List Str):Prop:=o.Pairwise (rel rv)∧o.Nodup
theorem there {rv:Bool} {x:Str} {o:List Str} (h:strict rv o):(0 < kI rv x o∧o.getD (kI rv x o - 1) default=x)↔x ∈ o:=by
 unfold kI
 have hsp:o.takeWhile (pB rv x)++o.dropWhile (pB rv x)=o:=List.takeWhile_append_dropWhile
 constructor
 ·rintro ⟨h0,he⟩
  have hl:(o.takeWhile (pB rv x)).length≤o.length:=(List.takeWhile_sublist _).length_le
  rw [← he,List.getD_eq_getElem?_getD,List.getElem?_eq_getElem (by omega)]
  exact List.getElem_mem _
 ·intro hx
  have hx1:x ∈ o.takeWhile (pB rv x):=by
   rw [← hsp] at hx
   rcases List.mem_append.1 hx with hx|hx
   ·exact hx
   ·exact absurd (rel_refl rv x) (behind h.1 x hx).2
  obtain ⟨a,b,hab⟩:=List.append_of_mem hx1
  have hb:b=[]:=by
   cases b with
   | nil=>rfl
   | cons y b =>
    have h2:strict rv (o.takeWhile (pB rv x)):=⟨h.1.sublist (List.takeWhile_sublist _),h.2.sublist (List.takeWhile_sublist _)⟩
    have hyx:=Da.1 (Dc (pB rv x) o y (by rw [hab];simp))
    rw [hab] at h2
    have h3:=(List.pairwise_cons.1 (List.pairwise_append.1 h2.1).2.1).1 y List.mem_cons_self
    have h4:=(List.nodup_cons.1 (List.nodup_append.1 h2.2).2.1).1
    exact absurd (by rw [Db hyx h3];exact List.mem_cons_self) h4
  subst hb
  have hlen:(o.takeWhile (pB rv x)).length=a.length+1:=by rw [hab];simp
  refine ⟨by omega,?_⟩
  rw [hlen,Nat.add_sub_cancel]
  conv=>lhs;rw [← hsp,hab]
  simp
end Go.Proofs.YtfbnaalhioogoaaGreatDoor
namespace Go.Proofs.YtfbnaalhioogoaaGreatDoor
open Go Go.Ab
set_option maxRecDepth 20000
set_option maxHeartbeats 4000000
end Go.Proofs.YtfbnaalhioogoaaGreatDoor
namespace Go.Proofs.YtfbnaalhioogoaaGreatDoor
open Go Go.Ab
set_option maxRecDepth 20000
set_option maxHeartbeats 4000000
def jE (s:Str):Str:=if bN (bF s) 47 (bF s).length < 0 then [46] else if bX (bF s) (bN (bF s) 47 (bF s).length).toNat=0 then [47] else (bF s).take (bX (bF s) (bN (bF s) 47 (bF s).length).toNat)
theorem wh (s:Str):(jE s).length≤s.length+1:=by
 have:=j0 s
 unfold jE;split
 ·simp
 ·split
  ·simp
  ·rw [List.length_take];omega
theorem mX (s:Str) (n:Nat):∀ k,k≤n→bX (s.take n) k=bX s k
 | 0,_=>rfl
 | k+1,h=>by
  have hg:(s.take n).getD k 0=s.getD k 0:=by simp [List.getD_eq_getElem?_getD,List.getElem?_take,show k < n by omega]
  rw [bX,bX,hg,mX s n k (by omega)]
theorem wi (b:Str) (k:Nat) (hk:k < b.length) (h:b.getD k 0=47):bF (b.take (k+1))=if bX b k=0 then [47] else b.take (bX b k):=by
 have hl:(b.take (k+1)).length=k+1:=by rw [List.length_take];omega
 have hs:bX (b.take (k+1)) (k+1)=bX b k:=by rw [mX b (k+1) (k+1) (Nat.le_refl _),bX,if_pos h]
 have hle:=jZ b k
 rw [uk,pc,hl,hs,List.take_take,Nat.min_eq_left (by omega)]
 by_cases h0:bX b k=0
 ·rw [if_pos h0,h0,List.take_zero,if_neg (fun hh=>hh.elim (fun h=>h rfl) (fun e=>by rw [e] at hl;simp at hl))]
 ·rw [if_neg h0,if_pos (.inl fun e=>by have:=congrArg List.length e;rw [List.length_take,List.length_nil] at this;omega)]
theorem uE (s t:Str) (hl:s.length≤4000000000) (p:Oid):af Tryz.prog 151 [.list 1 [.str s],.str t] (Oid.under p) ⟨[],.tuple [(a6 (lG s++[10])).av,.bool true],[]⟩:=by
 have hbl:=qU s
 refine aJ (n:=20) (rs:=[.cell 4 45,.tmp 5]) Tryz.func151 rfl rfl (by decide) rfl rfl rfl ?_;rintro x rfl hrd hng
 (repeat (first|(refine aq rfl rfl ?_)|(refine ar rfl rfl ?_)|(refine aj nmd [] hng (by kernel_rfl) fun hf C S K hC1 hC hS hK=>?_;simp (disch:=first|omega|assumption) only [go_sem];(repeat ((first|refine hC1 _ (xx s hl _) (by simp (disch:=first|omega|assumption) only [go_sem]) ?_|refine hC1 _ (bY (lG s++[10]) _) (by simp (disch:=first|omega|assumption) only [go_sem]) ?_);simp (disch:=first|omega|assumption) only [go_sem]));refine hK ?_;clear hK hS hC hC1 K S C hf)|((first|refine zn ?_|refine ze ?_|refine zk ?_);with_reducible (constructor;repeat constructor);try refine zl ?_)))
 exact aA (ay (by simp (disch:=first|omega|assumption) only [go_sem,Res.av,a6,bj,bh]))
theorem wj (s t:Str) (hl:s.length≤4000000000) (p:Oid):af Tryz.prog 152 [.list 1 [.str s],.str t] (Oid.under p) ⟨[],.tuple [(a6 (jE s++[10])).av,.bool true],[]⟩:=by
 have hbl:=j0 s
 have hal:=wh s
 have hk:=ly (bF s) 47 (bF s).length
 refine aJ (n:=33) (rs:=[.cell 4 45,.tmp 5]) Tryz.func152 rfl rfl (by decide) rfl rfl rfl ?_;rintro x rfl hrd hng
 (repeat (first|(refine aq rfl rfl ?_)|(refine ar rfl rfl ?_)|(refine aj nmd [] hng (by kernel_rfl) fun hf C S K hC1 hC hS hK=>?_;simp (disch:=first|omega|assumption) only [go_sem];(repeat ((first|refine hC1 _ (sC s hl _) (by simp (disch:=first|omega|assumption) only [go_sem]) ?_|refine hC1 _ (kM (bF s) 47 (by omega) _) (by simp (disch:=first|omega|assumption) only [go_sem]) ?_);simp (disch:=first|omega|assumption) only [go_sem]));refine hK ?_;clear hK hS hC hC1 K S C hf)|((first|refine zn ?_|refine ze ?_|refine zk ?_);with_reducible (constructor;repeat constructor);try refine zl ?_)))
 refine aX rfl rfl (fun hb=>?_) (fun hb=>?_)
 ·have hx:jE s=[46]:=by rw [jE,if_pos hb]
  rw [hx]
  (repeat (first|(refine aq rfl rfl ?_)|(refine ar rfl rfl ?_)|(refine aj nmd [] hng (by kernel_rfl) fun hf C S K hC1 hC hS hK=>?_;simp (disch:=first|omega|assumption) only [go_sem,pS];(repeat ((first|refine hC1 _ (bY [46,10] _) (by simp (disch:=first|omega|assumption) only [go_sem]) ?_);simp (disch:=first|omega|assumption) only [go_sem]));refine hK ?_;clear hK hS hC hC1 K S C hf)|((first|refine zn ?_|refine ze ?_|refine zk ?_);with_reducible (constructor;repeat constructor);try refine zl ?_)))
  exact aA (ay (by simp (disch:=first|omega|assumption) only [go_sem,Res.av,a6,bj,bh]))
 ·have h0:¬ bN (bF s) 47 (bF s).length < 0:=hb
  have hx:jE s=bF ((bF s).take (bN (bF s) 47 (bF s).length+1).toNat):=by
   rw [jE,if_neg h0,show (bN (bF s) 47 (bF s).length+1).toNat=(bN (bF s) 47 (bF s).length).toNat+1 by omega,wi _ _ (by omega) (qJ _ _ _ (by omega))]
  have htl:((bF s).take (bN (bF s) 47 (bF s).length+1).toNat).length≤4000000000:=by rw [List.length_take];omega
  rw [hx] at hal ⊢
  (repeat (first|(refine aq rfl rfl ?_)|(refine ar rfl rfl ?_)|(refine aj nmd [] hng (by kernel_rfl) fun hf C S K hC1 hC hS hK=>?_;simp (disch:=first|omega|assumption) only [go_sem];(repeat ((first|refine hC1 _ (sC ((bF s).take (bN (bF s) 47 (bF s).length+1).toNat) htl _) (by simp (disch:=first|omega|assumption) only [go_sem]) ?_|refine hC1 _ (bY (bF ((bF s).take (bN (bF s) 47 (bF s).length+1).toNat)++[10]) _) (by simp (disch:=first|omega|assumption) only [go_sem]) ?_);simp (disch:=first|omega|assumption) only [go_sem]));refine hK ?_;clear hK hS hC hC1 K S C hf)|((first|refine zn ?_|refine ze ?_|refine zk ?_);with_reducible (constructor;repeat constructor);try refine zl ?_)))
  exact aA (ay (by simp (disch:=first|omega|assumption) only [go_sem,Res.av,a6,bj,bh]))
end Go.Proofs.YtfbnaalhioogoaaGreatDoor
namespace Go.Proofs.YtfbnaalhioogoaaGreatDoor
open Go Go.Ab
set_option maxRecDepth 20000
set_option maxHeartbeats 4000000
end Go.Proofs.YtfbnaalhioogoaaGreatDoor
namespace Go.Proofs.YtfbnaalhioogoaaGreatDoor
open Go Go.Ab
set_option maxRecDepth 20000
set_option maxHeartbeats 4000000
def manyN (args:List Str):Int :=
 match args with
 | []=>10
 | [a,b]=>if a=[45,110] then dN b else -1
 | _=>-1
def mY (args:List Str):Int :=
 match args with
 | []=>10
 | [a,b]=>if a=[45,110] then bI b else 0
 | _=>0
theorem uF {args:List Str} (h:0≤manyN args):mY args=manyN args:=by
 unfold manyN at h
 unfold manyN mY
 split
 ·rfl
 ·rename_i a b
  simp only at h
  by_cases ha:a=[45,110]
  ·rw [if_pos ha] at h;rw [if_pos ha,if_pos ha]
   exact (dG b).2 (by rw [(dG b).1,decide_eq_true h])
  ·rw [if_neg ha] at h;omega
 ·rename_i h1 h2
  split at h
  ·exact absurd rfl h1
  ·exact absurd rfl (h2 _ _)
  ·omega
theorem xI (s:Str):dN s≤9223372036854775807:=by
 have:=dG s
 have hb:=lu s
 by_cases h:0≤dN s
 ·rw [decide_eq_true h] at this;rw [← this.2 this.1];exact hb.2
 ·omega
theorem uG (args:List Str):manyN args≤9223372036854775807:=by
 unfold manyN
 split
 ·omega
 ·split
  ·exact xI _
  ·omega
 ·omega
theorem wm (args:List Str):args=[]∨(∃ a b,args=[a,b])∨(¬ args.length=0∧¬ args.length=2∧manyN args = -1∧mY args=0):=by
 match args with
 | []=>exact .inl rfl
 | [a]=>exact .inr (.inr ⟨by simp,by simp,rfl,rfl⟩)
 | [a,b]=>exact .inr (.inl ⟨a,b,rfl⟩)
 | a::b::c::r=>exact .inr (.inr ⟨by simp,by simp,rfl,rfl⟩)
theorem nE (args:List Str) (ha:∀ s ∈ args,s.length≤4000000) (p:Oid) (hp:p.mono=false) :
  af Tryz.prog 218 [.list 1 (args.map AV.str)] (Oid.under p) ⟨[],.tuple [.int .i64 (mY args),.bool (decide (0≤manyN args))],[]⟩:=by
 rcases wm args with rfl|⟨a,b,rfl⟩|⟨h0,h2,hn,hv0⟩
 ·refine aJ (n:=24) (rs:=[.tmp 2,.tmp 3]) Tryz.func218 rfl rfl (by decide) rfl rfl rfl ?_;rintro x rfl hrd hng
  (repeat (first|(refine aq rfl rfl ?_)|(refine ar rfl rfl ?_)|(refine aj nmd [] hng (by kernel_rfl) fun hf C S K hC1 hC hS hK=>?_;simp (disch:=first|omega|assumption) only [go_sem];refine hK ?_;clear hK hS hC hC1 K S C hf)|((first|refine zn ?_|refine ze ?_|refine zk ?_);with_reducible (constructor;repeat constructor);try refine zl ?_)))
  exact aA (ay rfl)
 ·have hbl:=ha b (by simp)
  have hd:decide (0≤dN b)=eM b:=(dG b).1.symm
  refine aJ (n:=24) (rs:=[.tmp 2,.tmp 3]) Tryz.func218 rfl rfl (by decide) rfl rfl rfl ?_;rintro x rfl hrd hng
  (repeat (first|(refine aq rfl rfl ?_)|(refine ar rfl rfl ?_)|(refine aj nmd [] hng (by kernel_rfl) fun hf C S K hC1 hC hS hK=>?_;simp (disch:=first|omega|assumption) only [go_sem];refine hK ?_;clear hK hS hC hC1 K S C hf)|((first|refine zn ?_|refine ze ?_|refine zk ?_);with_reducible (constructor;repeat constructor);try refine zl ?_)))
  refine cQ [0,8] (fun s'=>s' = ⟨[(0,.list 1 [.str a,.str b]),(8,.bool (decide (a=[45,110])))],Mem.of [],0+1+1+1,[]⟩) ?_ ?_
  ·refine aj nmd [(3,12)] hng (by kernel_rfl) fun hf C S K hC1 hC hS hK=>?_;simp (disch:=first|omega|assumption) only [go_sem,decide_true,decide_false,ne_eq,not_true_eq_false,not_false_eq_true]
   (repeat' (first|(refine aD (fun hv=>?_) (fun hv=>?_)<;>(try simp only [zb1,zb2,zb3,zb4,zb5] at hv)<;>simp (disch:=first|omega|assumption) only [go_sem,hv,decide_true,decide_false,ne_eq,not_true_eq_false,not_false_eq_true])|(refine hK ?_;clear hK hS hC hC1 K S C hf)))
   all_goals first|exact absurd rfl hv|exact aT rfl
  rintro s' rfl
  refine aX rfl rfl (fun hb=>?_) (fun hb=>?_)
  ·rw [show mY [a,b]=bI b by simp only [mY,if_pos hb],show manyN [a,b]=dN b by simp only [manyN,if_pos hb],hd]
   (repeat (first|(refine aq rfl rfl ?_)|(refine ar rfl rfl ?_)|(refine aj nmd [] hng (by kernel_rfl) fun hf C S K hC1 hC hS hK=>?_;simp (disch:=first|omega|assumption) only [go_sem];(repeat ((first|refine hC1 _ (jS b (by omega) _ (ax rfl hp)) (by simp (disch:=first|omega|assumption) only [go_sem]) ?_);simp (disch:=first|omega|assumption) only [go_sem]));refine hK ?_;clear hK hS hC hC1 K S C hf)|((first|refine zn ?_|refine ze ?_|refine zk ?_);with_reducible (constructor;repeat constructor);try refine zl ?_)))
   exact aA (ay rfl)
  ·rw [show mY [a,b]=0 by simp only [mY,if_neg hb],show manyN [a,b] = -1 by simp only [manyN,if_neg hb]]
   (repeat (first|(refine aq rfl rfl ?_)|(refine ar rfl rfl ?_)|(refine aj nmd [] hng (by kernel_rfl) fun hf C S K hC1 hC hS hK=>?_;simp (disch:=first|omega|assumption) only [go_sem];refine hK ?_;clear hK hS hC hC1 K S C hf)|((first|refine zn ?_|refine ze ?_|refine zk ?_);with_reducible (constructor;repeat constructor);try refine zl ?_)))
   exact aA (ay rfl)
 ·rw [hn,hv0]
  have hz:((args.length:Int)=0)=False:=eq_false (by omega)
  have hz2:((args.length:Int)=2)=False:=eq_false (by omega)
  refine aJ (n:=24) (rs:=[.tmp 2,.tmp 3]) Tryz.func218 rfl rfl (by decide) rfl rfl rfl ?_;rintro x rfl hrd hng
  (repeat (first|(refine aq rfl rfl ?_)|(refine ar rfl rfl ?_)|(refine aj nmd [] hng (by kernel_rfl) fun hf C S K hC1 hC hS hK=>?_;simp (disch:=first|omega|assumption) only [go_sem,List.length_map,hz,decide_true,decide_false,ne_eq,not_true_eq_false,not_false_eq_true];(repeat ((first|refine hC1 _ () (by simp (disch:=first|omega|assumption) only [go_sem]) ?_);simp (disch:=first|omega|assumption) only [go_sem]));refine hK ?_;clear hK hS hC hC1 K S C hf)|((first|refine zn ?_|refine ze ?_|refine zk ?_);with_reducible (constructor;repeat constructor);try refine zl ?_)))
  refine aj nmd [(3,12)] hng (by kernel_rfl) fun hf C S K hC1 hC hS hK=>?_;simp (disch:=first|omega|assumption) only [go_sem,List.length_map,hz2,decide_true,decide_false,ne_eq,not_true_eq_false,not_false_eq_true]
  (repeat' (first|(refine aD (fun hv=>?_) (fun hv=>?_)<;>(try simp only [zb1,zb2,zb3,zb4,zb5] at hv)<;>simp (disch:=first|omega|assumption) only [go_sem,hv,List.length_map,hz2,decide_true,decide_false,ne_eq,not_true_eq_false,not_false_eq_true])|(refine hK ?_;clear hK hS hC hC1 K S C hf)))
  all_goals first|exact absurd rfl hv|((repeat (first|(refine aq rfl rfl ?_)|(refine ar rfl rfl ?_)|(refine aj nmd [] hng (by kernel_rfl) fun hf C S K hC1 hC hS hK=>?_;simp (disch:=first|omega|assumption) only [go_sem];refine hK ?_;clear hK hS hC hC1 K S C hf)|((first|refine zn ?_|refine ze ?_|refine zk ?_);with_reducible (constructor;repeat constructor);try refine zl ?_)));exact aA (ay rfl))
def py (n:Int) (l:List Str):List Str:=l.take n.toNat
def qZ (n:Int) (l:List Str):List Str:=l.drop (l.length - n.toNat)
theorem pz (l:List Str) (n:Nat):(aQ (l.take n)).length≤(aQ l).length:=j5 (List.take_sublist _ _)
theorem pA (l:List Str) (n:Nat):(aQ (l.drop n)).length≤(aQ l).length:=j5 (List.drop_sublist _ _)
theorem G6 (args:List Str) (ha:∀ s ∈ args,s.length≤4000000) (t:Str) (htl:t.length≤4000000) (h:0≤manyN args) (p:Oid) (hp:p.mono=false) :
  af Tryz.prog 143 [.list 1 (args.map AV.str),.str t] (Oid.under p) ⟨[],.tuple [(a6 (aQ (py (manyN args) (aC t)))).av,.bool true],[]⟩:=by
 have hjl:=dC t
 have hjn:=eB (aC t)
 have hm:=fun p hp=>nE args ha p hp
 rw [uF h,decide_eq_true h] at hm
 have hml:=uG args
 generalize manyN args=n at hm h hml
 have hj:(aQ (py n (aC t))).length≤(aQ (aC t)).length:=pz (aC t) n.toNat
 have hmin:(if ((aC t).length:Int) < n then ((aC t).length:Int) else n).toNat=min n.toNat (aC t).length:=by split<;>omega
 have htk:(aC t).take (min n.toNat (aC t).length)=py n (aC t):=by rw [py];simp [List.take_eq_take_iff]
 refine aJ (n:=31) (rs:=[.cell 4 45,.tmp 5]) Tryz.func143 rfl rfl (by decide) rfl rfl rfl ?_;rintro x rfl hrd hng
 (repeat (first|(refine aq rfl rfl ?_)|(refine ar rfl rfl ?_)|(refine aj nmd [] hng (by kernel_rfl) fun hf C S K hC1 hC hS hK=>?_;simp (disch:=first|omega|assumption) only [go_sem,List.length_map,hmin,← List.map_take,htk];(repeat ((first|refine hC1 _ (hm _ (ax rfl hp)) (by simp (disch:=first|omega|assumption) only [go_sem]) ?_|refine hC1 _ (pd t (by omega) _) (by simp (disch:=first|omega|assumption) only [go_sem]) ?_|refine hC1 _ (cS (py n (aC t)) (by omega) _) (by simp (disch:=first|omega|assumption) only [go_sem]) ?_|refine hC1 _ (bY (aQ (py n (aC t))) _) (by simp (disch:=first|omega|assumption) only [go_sem]) ?_);simp (disch:=first|omega|assumption) only [go_sem]));refine hK ?_;clear hK hS hC hC1 K S C hf)|((first|refine zn ?_|refine ze ?_|refine zk ?_);with_reducible (constructor;repeat constructor);try refine zl ?_)))
 exact aA (ay (by simp (disch:=first|omega|assumption) only [go_sem,Res.av,a6,bj,bh]))
theorem G7 (args:List Str) (ha:∀ s ∈ args,s.length≤4000000) (t:Str) (htl:t.length≤4000000) (h:0≤manyN args) (p:Oid) (hp:p.mono=false) :
  af Tryz.prog 144 [.list 1 (args.map AV.str),.str t] (Oid.under p) ⟨[],.tuple [(a6 (aQ (qZ (manyN args) (aC t)))).av,.bool true],[]⟩:=by
 have hjl:=dC t
 have hjn:=eB (aC t)
 have hm:=fun p hp=>nE args ha p hp
 rw [uF h,decide_eq_true h] at hm
 have hml:=uG args
 generalize manyN args=n at hm h hml
 have hj:(aQ (qZ n (aC t))).length≤(aQ (aC t)).length:=pA (aC t) _
 have hmax:(if (0:Int) < ((aC t).length:Int) - n then ((aC t).length:Int) - n else 0).toNat=(aC t).length - n.toNat:=by split<;>omega
 have htk:(aC t).drop ((aC t).length - n.toNat)=qZ n (aC t):=rfl
 refine aJ (n:=32) (rs:=[.cell 4 45,.tmp 5]) Tryz.func144 rfl rfl (by decide) rfl rfl rfl ?_;rintro x rfl hrd hng
 (repeat (first|(refine aq rfl rfl ?_)|(refine ar rfl rfl ?_)|(refine aj nmd [] hng (by kernel_rfl) fun hf C S K hC1 hC hS hK=>?_;simp (disch:=first|omega|assumption) only [go_sem,List.length_map,hmax,← List.map_drop,htk];(repeat ((first|refine hC1 _ (hm _ (ax rfl hp)) (by simp (disch:=first|omega|assumption) only [go_sem]) ?_|refine hC1 _ (pd t (by omega) _) (by simp (disch:=first|omega|assumption) only [go_sem]) ?_|refine hC1 _ (cS (qZ n (aC t)) (by omega) _) (by simp (disch:=first|omega|assumption) only [go_sem]) ?_|refine hC1 _ (bY (aQ (qZ n (aC t))) _) (by simp (disch:=first|omega|assumption) only [go_sem]) ?_);simp (disch:=first|omega|assumption) only [go_sem]));refine hK ?_;clear hK hS hC hC1 K S C hf)|((first|refine zn ?_|refine ze ?_|refine zk ?_);with_reducible (constructor;repeat constructor);try refine zl ?_)))
 exact aA (ay (by simp (disch:=first|omega|assumption) only [go_sem,Res.av,a6,bj,bh]))
theorem Dd (args:List Str) (ha:∀ s ∈ args,s.length≤4000000) (t:Str) (h:¬ 0≤manyN args) (p:Oid) (hp:p.mono=false) :
  af Tryz.prog 143 [.list 1 (args.map AV.str),.str t] (Oid.under p) ⟨[],.tuple [bj.av,.bool false],[]⟩:=by
 have hm:=fun p hp=>nE args ha p hp
 rw [decide_eq_false h] at hm
 refine aJ (n:=31) (rs:=[.cell 4 45,.tmp 5]) Tryz.func143 rfl rfl (by decide) rfl rfl rfl ?_;rintro x rfl hrd hng
 (repeat (first|(refine aq rfl rfl ?_)|(refine ar rfl rfl ?_)|(refine aj nmd [] hng (by kernel_rfl) fun hf C S K hC1 hC hS hK=>?_;simp (disch:=first|omega|assumption) only [go_sem];(repeat ((first|refine hC1 _ (hm _ (ax rfl hp)) (by simp (disch:=first|omega|assumption) only [go_sem]) ?_|refine hC1 _ (eN _) (by simp (disch:=first|omega|assumption) only [go_sem]) ?_);simp (disch:=first|omega|assumption) only [go_sem]));refine hK ?_;clear hK hS hC hC1 K S C hf)|((first|refine zn ?_|refine ze ?_|refine zk ?_);with_reducible (constructor;repeat constructor);try refine zl ?_)))
 exact aA (ay (by simp (disch:=first|omega|assumption) only [go_sem,Res.av,bj]))
theorem De (args:List Str) (ha:∀ s ∈ args,s.length≤4000000) (t:Str) (h:¬ 0≤manyN args) (p:Oid) (hp:p.mono=false) :
  af Tryz.prog 144 [.list 1 (args.map AV.str),.str t] (Oid.under p) ⟨[],.tuple [bj.av,.bool false],[]⟩:=by
 have hm:=fun p hp=>nE args ha p hp
 rw [decide_eq_false h] at hm
 refine aJ (n:=32) (rs:=[.cell 4 45,.tmp 5]) Tryz.func144 rfl rfl (by decide) rfl rfl rfl ?_;rintro x rfl hrd hng
 (repeat (first|(refine aq rfl rfl ?_)|(refine ar rfl rfl ?_)|(refine aj nmd [] hng (by kernel_rfl) fun hf C S K hC1 hC hS hK=>?_;simp (disch:=first|omega|assumption) only [go_sem];(repeat ((first|refine hC1 _ (hm _ (ax rfl hp)) (by simp (disch:=first|omega|assumption) only [go_sem]) ?_|refine hC1 _ (eN _) (by simp (disch:=first|omega|assumption) only [go_sem]) ?_);simp (disch:=first|omega|assumption) only [go_sem]));refine hK ?_;clear hK hS hC hC1 K S C hf)|((first|refine zn ?_|refine ze ?_|refine zk ?_);with_reducible (constructor;repeat constructor);try refine zl ?_)))
 exact aA (ay (by simp (disch:=first|omega|assumption) only [go_sem,Res.av,bj]))
end Go.Proofs.YtfbnaalhioogoaaGreatDoor
namespace Go.Proofs.YtfbnaalhioogoaaGreatDoor
open Go Go.Ab
set_option maxRecDepth 20000
set_option maxHeartbeats 2000000
def cT (c:UInt8) (n:Nat) (s:Str):Str:=if (aU c s).length=1 then s else if n≤(aU c s).length then (aU c s).getD (n - 1) [] else []
def fp (n:Nat) (x:Str):List (Nat × Str)→List (Nat × Str)
 | []=>[(n,x)]
 | q::g=>if q.2=x then (q.1+n,x)::g else (n,x)::q::g
def grp:List Str→List (Nat × Str)
 | []=>[]
 | x::r=>fp 1 x (grp r)
theorem Df (n m:Nat) (x:Str) (g:List (Nat × Str)):fp n x (fp m x g)=fp (n+m) x g:=by
 cases g with
 | nil=>rw [fp,fp,fp,if_pos rfl,Nat.add_comm]
 | cons q g =>
  by_cases he:q.2=x
  ·rw [fp,if_pos he,fp,if_pos rfl,fp,if_pos he,show q.1+m+n=q.1+(n+m) by omega]
  ·rw [fp,if_neg he,fp,if_pos rfl,fp,if_neg he,Nat.add_comm m n]
def gA (counts:Bool):List (Nat × Str)→Str
 | []=>[]
 | q::g=>(if counts=true then Lib.decDigits q.1++[32] else [])++(q.2++[10])++gA counts g
theorem Dg {n:Nat} {x:Str} {l:List Str} (h:∀ y r,l=y::r→¬ y=x):fp n x (grp l)=(n,x)::grp l:=by
 cases l with
 | nil=>rfl
 | cons y r =>
  have hy:=h y r rfl
  rw [grp]
  cases grp r with
  | nil=>rw [fp,fp,if_neg hy]
  | cons q g =>
   rw [fp]
   split
   ·rw [fp,if_neg hy]
   ·rw [fp,if_neg hy]
theorem Dh (n m:Nat) (hm:0 < m):(Lib.decDigits (m+n)).length≤(Lib.decDigits m).length+n:=by
 induction n with
 | zero=>exact Nat.le_refl _
 | succ n ih =>
  have h1:∀ k,(Lib.decDigits (k+1)).length≤(Lib.decDigits k).length+1:=by
   intro k
   induction k using Nat.strongRecOn with
   | ind k ih =>
    by_cases h:k+1 < 10
    ·rw [bw h];simp
    ·rw [dz h,List.length_append,List.length_singleton]
     by_cases hk:k < 10
     ·have:k=9:=by omega
      subst this
      rw [bw (by decide),bw (by decide)];simp
     ·rw [dz hk,List.length_append,List.length_singleton]
      by_cases he:(k+1) / 10=k / 10
      ·rw [he];omega
      ·rw [show (k+1) / 10=k / 10+1 by omega]
       have:=ih (k / 10) (by omega)
       omega
  have:=h1 (m+n)
  rw [show m+(n+1)=m+n+1 by omega];omega
theorem wo (counts:Bool) (x:Str) (g:List (Nat × Str)) (hg:∀ q ∈ g,0 < q.1):(gA counts (fp 1 x g)).length≤(gA counts g).length+x.length+3:=by
 have h1:(Lib.decDigits 1).length=1:=by rw [bw (by decide)];rfl
 cases g with
 | nil =>
  simp only [fp,gA,List.append_nil,List.length_append,List.length_singleton,List.length_nil]
  split
  ·rw [List.length_append,h1,List.length_singleton];omega
  ·simp only [List.length_nil];omega
 | cons q g =>
  have hq:=hg q List.mem_cons_self
  rw [fp]
  split
  ·rename_i he
   have:=Dh 1 q.1 hq
   simp only [gA,List.length_append,List.length_singleton]
   rw [he]
   split
   ·simp only [List.length_append,List.length_singleton];omega
   ·simp only [List.length_nil];omega
  ·simp only [gA,List.length_append,List.length_singleton]
   split
   ·simp only [List.length_append,List.length_singleton,h1];omega
   ·simp only [List.length_nil];omega
theorem xJ:∀ (l:List Str),∀ q ∈ grp l,0 < q.1
 | [],_,h=>by cases h
 | x::r,q,h=>by
  have ih:=xJ r
  rw [grp] at h
  cases hg:grp r with
  | nil=>rw [hg] at h;simp only [fp,List.mem_singleton] at h;rw [h];exact Nat.one_pos
  | cons p g =>
   rw [hg] at h ih
   rw [fp] at h
   split at h
   ·rcases List.mem_cons.1 h with rfl|h
    ·exact Nat.succ_pos _
    ·exact ih q (List.mem_cons_of_mem _ h)
   ·rcases List.mem_cons.1 h with rfl|h
    ·exact Nat.one_pos
    ·exact ih q h
theorem q7 (counts:Bool):∀ l:List Str,(gA counts (grp l)).length≤3 * (aQ l).length
 | []=>Nat.le_refl _
 | x::r=>by
  have ih:=q7 counts r
  have:=wo counts x (grp r) (xJ r)
  rw [grp]
  simp only [aQ,List.length_append,List.length_singleton]
  omega
end Go.Proofs.YtfbnaalhioogoaaGreatDoor
namespace Go.Proofs.YtfbnaalhioogoaaGreatDoor
open Go Go.Ab
set_option maxRecDepth 20000
set_option maxHeartbeats 4000000
def jF (f:Str→Str) (l:List Str) (i:Nat):List Str:=(l.take i).map f++l.drop i
theorem jG (f:Str→Str) (l:List Str) (i:Nat):(jF f l i).length=l.length:=by
 simp only [jF,List.length_append,List.length_map,List.length_take,List.length_drop];omega
theorem uH {f:Str→Str} {l:List Str} {i:Nat} (h:i < l.length):(jF f l i).getD i default=l.getD i default:=by
 simp only [jF,List.getD_eq_getElem?_getD]
 rw [List.getElem?_append_right (by simp;omega)]
 simp only [List.length_map,List.length_take,List.getElem?_drop]
 congr 2;omega
theorem zS {f:Str→Str} {l:List Str} {i:Nat} (h:i < l.length):((jF f l i).map AV.str).getD i .undef = .str (l.getD i default):=by
 have h1:=uH (f:=f) h
 have hl:i < (jF f l i).length:=by rw [jG];exact h
 rw [List.getD_eq_getElem?_getD,List.getElem?_eq_getElem hl] at h1
 rw [List.getD_eq_getElem?_getD,List.getElem?_map,List.getElem?_eq_getElem hl,← h1];rfl
theorem uI {f:Str→Str} {l:List Str} {i:Nat} (h:i < l.length):(jF f l i).set i (f (l.getD i default))=jF f l (i+1):=by
 simp only [jF]
 have hlen:((l.take i).map f).length=i:=by simp;omega
 have hd:=List.drop_eq_getElem_cons h
 have hg:l.getD i default=l[i]:=by rw [List.getD_eq_getElem?_getD,List.getElem?_eq_getElem h];rfl
 rw [List.set_append_right _ _ (by omega),hlen,Nat.sub_self,hd,List.set_cons_zero,List.take_add_one,List.map_append,List.append_assoc,List.getElem?_eq_getElem h,hg]
 rfl
theorem q8 {f:Str→Str} {l:List Str} {i:Nat} (h:i < l.length):((jF f l i).map AV.str).set i (.str (f (l.getD i default)))=(jF f l (i+1)).map AV.str:=by
 rw [← uI h,List.map_set]
theorem zT {f:Str→Str} {l:List Str} {i:Nat} (h:i < l.length) (hf:f (l.getD i default)=l.getD i default):jF f l i=jF f l (i+1):=by
 rw [← uI h,hf]
 apply List.ext_getElem?
 intro j
 rw [List.getElem?_set]
 split
 ·rename_i e
  subst e
  have:=uH (f:=f) h
  rw [List.getD_eq_getElem?_getD] at this
  have hl:i < (jF f l i).length:=by rw [jG];exact h
  rw [List.getElem?_eq_getElem hl] at this ⊢
  rw [if_pos (by omega),← this];rfl
 ·rfl
theorem wq (c:UInt8) (n:Nat) (s:Str):(cT c n s).length≤s.length:=by
 have hsum:∀ s:Str,((aU c s).map List.length).sum≤s.length:=by
  intro s
  induction s with
  | nil=>simp [aU]
  | cons b s ih =>
   rw [aU]
   split
   ·simp only [List.map_cons,List.sum_cons,List.length_nil,List.length_cons];omega
   ·cases hs:aU c s with
    | nil=>exact absurd hs (fY c s)
    | cons l r =>
     rw [hs] at ih
     simp only [List.map_cons,List.sum_cons,List.length_cons] at ih ⊢;omega
 have hmem:∀ (l:List Str) (a:Str),a ∈ l→a.length≤(l.map List.length).sum:=by
  intro l
  induction l with
  | nil=>intro a h;cases h
  | cons x l ih =>
   intro a h
   simp only [List.map_cons,List.sum_cons]
   rcases List.mem_cons.1 h with rfl|h
   ·omega
   ·have:=ih a h;omega
 unfold cT
 split
 ·exact Nat.le_refl _
 ·split
  ·rw [List.getD_eq_getElem?_getD]
   cases h:(aU c s)[n - 1]? with
   | none=>exact Nat.zero_le _
   | some a=>exact Nat.le_trans (hmem _ a (List.mem_of_getElem? h)) (hsum s)
  ·exact Nat.zero_le _
theorem sI {f:Str→Str} (hf:∀ s,(f s).length≤s.length) (l:List Str):(aQ (l.map f)).length≤(aQ l).length:=by
 induction l with
 | nil=>exact Nat.le_refl _
 | cons s l ih=>have:=hf s;simp only [List.map_cons,aQ,List.length_append];omega
theorem zU (l:List Str) (i:Nat):(l.getD i default).length≤(aQ l).length:=by
 rw [List.getD_eq_getElem?_getD]
 induction l generalizing i with
 | nil=>simp;exact Nat.zero_le _
 | cons s l ih =>
  cases i with
  | zero=>simp only [List.getElem?_cons_zero,Option.getD_some,aQ,List.length_append];omega
  | succ i=>have:=ih i;simp only [List.getElem?_cons_succ,aQ,List.length_append];omega
theorem G8 (c:UInt8) (b t:Str) (hbl:b.length≤4000000) (htl:t.length≤4000000) (h:1≤dN b) (p:Oid) (hp:p.mono=false) :
  af Tryz.prog 148 [.list 1 [.str [45,100],.str [c],.str [45,102],.str b],.str t] (Oid.under p) ⟨[],.tuple [(a6 (aQ ((aC t).map (cT c (dN b).toNat)))).av,.bool true],[]⟩:=by
 have hjl:=dC t
 have hjn:=eB (aC t)
 have hjm:=sI (wq c (dN b).toNat) (aC t)
 have hnum:=fun p hp=>jS b (by omega) p hp
 rw [(dG b).2 (by rw [(dG b).1,decide_eq_true (by omega)]),(dG b).1,decide_eq_true (show 0≤dN b by omega)] at hnum
 have hrl:=xI b
 obtain ⟨N,hN⟩:∃ N:Nat,dN b=N:=⟨(dN b).toNat,by omega⟩
 rw [hN] at h hnum hrl hjm ⊢
 rw [Int.toNat_natCast] at hjm ⊢
 have hz:((N:Int) < 1)=False:=eq_false (by omega)
 refine aJ (n:=93) (rs:=[.cell 4 45,.tmp 5]) Tryz.func148 rfl rfl (by decide) rfl rfl rfl ?_;rintro x rfl hrd hng
 (try ((first|refine zn ?_|refine ze ?_|refine zk ?_);with_reducible (constructor;repeat constructor));try refine zl ?_)
 refine aj nmd [] hng (by kernel_rfl) fun hf C S K hC1 hC hS hK=>?_;simp (disch:=first|omega|assumption) only [go_sem]
 refine hK ?_;clear hK hS hC hC1 K S C hf
 (try ((first|refine zn ?_|refine ze ?_|refine zk ?_);with_reducible (constructor;repeat constructor));try refine zl ?_)
 refine aj nmd [(3,15),(9,21),(16,28)] hng (by kernel_rfl) fun hf C S K hC1 hC hS hK=>?_;simp (disch:=first|omega|assumption) only [go_sem,decide_true,decide_false,ne_eq,not_true_eq_false,not_false_eq_true]
 (repeat' (first|(refine aD (fun hv=>?_) (fun hv=>?_)<;>(try simp only [zb1,zb2,zb3,zb4,zb5] at hv)<;>simp (disch:=first|omega|assumption) only [go_sem,hv,decide_true,decide_false,ne_eq,not_true_eq_false,not_false_eq_true])|(refine hK ?_;clear hK hS hC hC1 K S C hf)))
 all_goals first|exact absurd rfl hv|skip
 (repeat (first|(refine aq rfl rfl ?_)|(refine ar rfl rfl ?_)|(refine aj nmd [] hng (by kernel_rfl) fun hf C S K hC1 hC hS hK=>?_;simp (disch:=first|omega|assumption) only [go_sem];(repeat ((first|refine hC1 _ (hnum _ (ax rfl hp)) (by simp (disch:=first|omega|assumption) only [go_sem]) ?_);simp (disch:=first|omega|assumption) only [go_sem]));refine hK ?_;clear hK hS hC hC1 K S C hf)|((first|refine zn ?_|refine ze ?_|refine zk ?_);with_reducible (constructor;repeat constructor);try refine zl ?_)))
 refine aj nmd [(2,46)] hng (by kernel_rfl) fun hf C S K hC1 hC hS hK=>?_;simp (disch:=first|omega|assumption) only [go_sem,hz,decide_true,decide_false,ne_eq,not_true_eq_false,not_false_eq_true]
 (repeat' (first|(refine aD (fun hv=>?_) (fun hv=>?_)<;>(try simp only [zb1,zb2,zb3,zb4,zb5] at hv)<;>simp (disch:=first|omega|assumption) only [go_sem,hv,hz,decide_true,decide_false,ne_eq,not_true_eq_false,not_false_eq_true])|(refine hK ?_;clear hK hS hC hC1 K S C hf)))
 all_goals first|contradiction|skip
 by_cases h0:t=[]
 ·subst h0
  have hJ:∀ p,af Tryz.prog 221 [.nilSl] (Oid.under p) ⟨[],.str [],[]⟩:=fun p=>(cS [] (Nat.zero_le _) p).yr (dy.cons (ln.nil 1) dy.nil)
  rw [show aQ ((aC []).map (cT c N))=[] from rfl]
  (repeat (first|(refine aq rfl rfl ?_)|(refine ar rfl rfl ?_)|(refine aj nmd [] hng (by kernel_rfl) fun hf C S K hC1 hC hS hK=>?_;simp (disch:=first|omega|assumption) only [go_sem];(repeat ((first|refine hC1 _ (eX _) (by simp (disch:=first|omega|assumption) only [go_sem]) ?_);simp (disch:=first|omega|assumption) only [go_sem]));refine hK ?_;clear hK hS hC hC1 K S C hf)|((first|refine zn ?_|refine ze ?_|refine zk ?_);with_reducible (constructor;repeat constructor);try refine zl ?_)))
  refine bm [4,8,56,57] (fun k s'=>∃ c:Nat,k=0∧s' = ⟨[(4,.ptr (.sub 0 0 x.p) 0),(8,.nilSl),(56,.int .i64 0),(57,.int .i64 0)],Mem.of [(.sub 0 0 x.p,.cells [.int .i64 0,.str [],.str []])],c,[]⟩) _ ⟨_,rfl,rfl⟩ ?_
  rintro k s' ⟨c,rfl,rfl⟩
  (repeat (first|(refine aq rfl rfl ?_)|(refine ar rfl rfl ?_)|(refine aj nmd [] hng (by kernel_rfl) fun hf C S K hC1 hC hS hK=>?_;simp (disch:=first|omega|assumption) only [go_sem];(repeat ((first|refine hC1 _ (hJ _) (by simp (disch:=first|omega|assumption) only [go_sem]) ?_|refine hC1 _ (bY [] _) (by simp (disch:=first|omega|assumption) only [go_sem]) ?_);simp (disch:=first|omega|assumption) only [go_sem]));refine hK ?_;clear hK hS hC hC1 K S C hf)|((first|refine zn ?_|refine ze ?_|refine zk ?_);with_reducible (constructor;repeat constructor);try refine zl ?_)))
  exact aA (ay (by simp (disch:=first|omega|assumption) only [go_sem,Res.av,a6,bj,bh]))
 ·have hne:=j6 h0
  (repeat (first|(refine aq rfl rfl ?_)|(refine ar rfl rfl ?_)|(refine aj nmd [] hng (by kernel_rfl) fun hf C S K hC1 hC hS hK=>?_;simp (disch:=first|omega|assumption) only [go_sem];(repeat ((first|refine hC1 _ (gz t h0 (by omega) _) (by simp (disch:=first|omega|assumption) only [go_sem]) ?_);simp (disch:=first|omega|assumption) only [go_sem]));refine hK ?_;clear hK hS hC hC1 K S C hf)|((first|refine zn ?_|refine ze ?_|refine zk ?_);with_reducible (constructor;repeat constructor);try refine zl ?_)))
  generalize hL:aC t=L at hjl hjn hjm hne ⊢
  have hmem:∀ i,(L.getD i default).length≤4000001:=fun i=>by
   have h1:=zU L i
   omega
  refine bm [0,4,6,8,55,56,57] (fun k s'=>∃ i d:Nat,k=L.length - i∧i≤L.length∧5≤d ∧
   s' = ⟨[(0,.list 1 [.str [45,100],.str [c],.str [45,102],.str b]),(4,.ptr (.sub 0 0 x.p) 0),(6,.int .i64 (N:Int)),(8,.sl (nj (.sub 4 1 x.p)) 1 L.length),(55,.sl (nj (.sub 4 1 x.p)) 1 L.length),(56,.int .i64 L.length),(57,.int .i64 i)],
    Mem.of [(.sub 0 0 x.p,.cells [.int .i64 0,.str [],.str []]),(nj (.sub 4 1 x.p),.arr 1 ((jF (cT c N) L i).map AV.str))],d,[]⟩) _ ⟨0,_,rfl,Nat.zero_le _,by omega,rfl⟩ ?_
  rintro k s' ⟨i,d,rfl,hi,hd5,rfl⟩
  (repeat (first|(refine aq rfl rfl ?_)|(refine ar rfl rfl ?_)|(refine aj nmd [] hng (by kernel_rfl) fun hf C S K hC1 hC hS hK=>?_;simp (disch:=first|omega|assumption) only [go_sem];refine hK ?_;clear hK hS hC hC1 K S C hf)|((first|refine zn ?_|refine ze ?_|refine zk ?_);with_reducible (constructor;repeat constructor);try refine zl ?_)))
  refine aX rfl rfl (fun hb=>?_) (fun hb=>?_)
  ·have hlt:i < L.length:=by omega
   have hgi:=zS (f:=cT c N) hlt
   have hml:=hmem i
   generalize hq:L.getD i default=q at hgi hml
   (repeat (first|(refine aq rfl rfl ?_)|(refine ar rfl rfl ?_)|(refine aj nmd [] hng (by kernel_rfl) fun hf C S K hC1 hC hS hK=>?_;simp (disch:=first|omega|assumption) only [go_sem,jG,hgi,List.length_map,hlt];(repeat ((first|refine hC1 _ (oK q c (by omega) _) (by simp (disch:=first|omega|assumption) only [go_sem]) ?_);simp (disch:=first|omega|assumption) only [go_sem]));refine hK ?_;clear hK hS hC hC1 K S C hf)|((first|refine zn ?_|refine ze ?_|refine zk ?_);with_reducible (constructor;repeat constructor);try refine zl ?_)))
   refine cI (.sub 0 0 (.sub (d+1+1) 4 x.p)) 1 ((aU c q).map AV.str) (by simp (disch:=first|omega|assumption) only [go_sem]) ?_
   simp (disch:=first|omega|assumption) only [go_sem]
   refine aX rfl rfl (fun hb=>?_) (fun hb=>?_)
   ·have hsame:cT c N (L.getD i default)=L.getD i default:=by rw [hq,cT,if_pos (by omega)]
    have hrs:=zT hlt hsame
    (repeat (first|(refine aq rfl rfl ?_)|(refine ar rfl rfl ?_)|(refine aj nmd [] hng (by kernel_rfl) fun hf C S K hC1 hC hS hK=>?_;simp (disch:=first|omega|assumption) only [go_sem];refine hK ?_;clear hK hS hC hC1 K S C hf)|((first|refine zn ?_|refine ze ?_|refine zk ?_);with_reducible (constructor;repeat constructor);try refine zl ?_)))
    exact ⟨_,_,by omega,fun _ _ h=>h,i+1,d+1+1+1+1+1,rfl,by omega,by omega,by rw [← hrs];rfl⟩
   ·have hb1:=hb
    (repeat (first|(refine aq rfl rfl ?_)|(refine ar rfl rfl ?_)|(refine aj nmd [] hng (by kernel_rfl) fun hf C S K hC1 hC hS hK=>?_;simp (disch:=first|omega|assumption) only [go_sem,List.length_map];(repeat ((first|refine hC1 _ () (by simp (disch:=first|omega|assumption) only [go_sem]) ?_);simp (disch:=first|omega|assumption) only [go_sem]));refine hK ?_;clear hK hS hC hC1 K S C hf)|((first|refine zn ?_|refine ze ?_|refine zk ?_);with_reducible (constructor;repeat constructor);try refine zl ?_)))
    refine aX rfl rfl (fun hb=>?_) (fun hb=>?_)
    ·have hn1:((N:Int) - 1).toNat=N - 1:=by omega
     have hset:=q8 (f:=cT c N) hlt
     have hfq:cT c N q=(aU c q).getD (N - 1) default:=by rw [cT,if_neg (by omega),if_pos (by omega)];rfl
     rw [hq,hfq] at hset
     (repeat (first|(refine aq rfl rfl ?_)|(refine ar rfl rfl ?_)|(refine aj nmd [] hng (by kernel_rfl) fun hf C S K hC1 hC hS hK=>?_;simp (disch:=first|omega|assumption) only [go_sem,hn1,List.length_map,jG,hlt,hset];(repeat ((first|refine hC1 _ () (by simp (disch:=first|omega|assumption) only [go_sem]) ?_);simp (disch:=first|omega|assumption) only [go_sem]));refine hK ?_;clear hK hS hC hC1 K S C hf)|((first|refine zn ?_|refine ze ?_|refine zk ?_);with_reducible (constructor;repeat constructor);try refine zl ?_)))
     exact ⟨_,_,by omega,fun _ _ h=>h,i+1,_,rfl,by omega,by omega,rfl⟩
    ·have hset:=q8 (f:=cT c N) hlt
     have hfq:cT c N q=[]:=by rw [cT,if_neg (by omega),if_neg (by omega)]
     rw [hq,hfq] at hset
     (repeat (first|(refine aq rfl rfl ?_)|(refine ar rfl rfl ?_)|(refine aj nmd [] hng (by kernel_rfl) fun hf C S K hC1 hC hS hK=>?_;simp (disch:=first|omega|assumption) only [go_sem,List.length_map,jG,hlt,hset];(repeat ((first|refine hC1 _ () (by simp (disch:=first|omega|assumption) only [go_sem]) ?_);simp (disch:=first|omega|assumption) only [go_sem]));refine hK ?_;clear hK hS hC hC1 K S C hf)|((first|refine zn ?_|refine ze ?_|refine zk ?_);with_reducible (constructor;repeat constructor);try refine zl ?_)))
     exact ⟨_,_,by omega,fun _ _ h=>h,i+1,_,rfl,by omega,by omega,rfl⟩
  ·obtain rfl:i=L.length:=by omega
   have hend:jF (cT c N) L L.length=L.map (cT c N):=by rw [jF,List.take_length,List.drop_length,List.append_nil]
   rw [hend]
   (try ((first|refine zn ?_|refine ze ?_|refine zk ?_);with_reducible (constructor;repeat constructor));try refine zl ?_)
   refine cI (nj (.sub 4 1 x.p)) 1 ((L.map (cT c N)).map AV.str) (by simp (disch:=first|omega|assumption) only [go_sem]) ?_
   simp (disch:=first|omega|assumption) only [go_sem,List.length_map]
   (repeat (first|(refine aq rfl rfl ?_)|(refine ar rfl rfl ?_)|(refine aj nmd [] hng (by kernel_rfl) fun hf C S K hC1 hC hS hK=>?_;simp (disch:=first|omega|assumption) only [go_sem];(repeat ((first|refine hC1 _ (cS (L.map (cT c N)) (by omega) _) (by simp (disch:=first|omega|assumption) only [go_sem]) ?_|refine hC1 _ (bY (aQ (L.map (cT c N))) _) (by simp (disch:=first|omega|assumption) only [go_sem]) ?_);simp (disch:=first|omega|assumption) only [go_sem]));refine hK ?_;clear hK hS hC hC1 K S C hf)|((first|refine zn ?_|refine ze ?_|refine zk ?_);with_reducible (constructor;repeat constructor);try refine zl ?_)))
   exact aA (ay (by simp (disch:=first|omega|assumption) only [go_sem,Res.av,a6,bj,bh]))
end Go.Proofs.YtfbnaalhioogoaaGreatDoor
namespace Go.Proofs.YtfbnaalhioogoaaGreatDoor
open Go Go.Ab
set_option maxRecDepth 20000
set_option maxHeartbeats 4000000
theorem zV (args:List Str):(∃ c b,args=[[45,100],[c],[45,102],b])∨¬ args.length=4∨∃ a s f b,args=[a,s,f,b]∧(¬ a=[45,100]∨(a=[45,100]∧¬ s.length=1)∨(a=[45,100]∧s.length=1∧¬ f=[45,102])):=by
 match args with
 | []=>exact .inr (.inl (by simp))
 | [a]=>exact .inr (.inl (by simp))
 | [a,b]=>exact .inr (.inl (by simp))
 | [a,b,c]=>exact .inr (.inl (by simp))
 | a::b::c::d::e::r=>exact .inr (.inl (by simp))
 | [a,s,f,b] =>
  by_cases h1:a=[45,100]
  ·by_cases h2:s.length=1
   ·by_cases h3:f=[45,102]
    ·match s,h2 with
     | [c],_=>exact .inl ⟨c,b,by rw [h1,h3]⟩
    ·exact .inr (.inr ⟨a,s,f,b,rfl,.inr (.inr ⟨h1,h2,h3⟩)⟩)
   ·exact .inr (.inr ⟨a,s,f,b,rfl,.inr (.inl ⟨h1,h2⟩)⟩)
  ·exact .inr (.inr ⟨a,s,f,b,rfl,.inl h1⟩)
theorem G9 (args:List Str) (t:Str) (h:¬ args.length=4∨∃ a s f b,args=[a,s,f,b]∧(¬ a=[45,100]∨(a=[45,100]∧¬ s.length=1)∨(a=[45,100]∧s.length=1∧¬ f=[45,102]))) (p:Oid) :
  af Tryz.prog 148 [.list 1 (args.map AV.str),.str t] (Oid.under p) ⟨[],.tuple [bj.av,.bool false],[]⟩:=by
 rcases h with h|⟨a,s,f,b,rfl,h|⟨rfl,h⟩|⟨rfl,h1,h⟩⟩
 ·have hz:((args.length:Int)=4)=False:=eq_false (by omega)
  refine aJ (n:=93) (rs:=[.cell 4 45,.tmp 5]) Tryz.func148 rfl rfl (by decide) rfl rfl rfl ?_;rintro x rfl hrd hng
  (try ((first|refine zn ?_|refine ze ?_|refine zk ?_);with_reducible (constructor;repeat constructor));try refine zl ?_)
  refine aj nmd [] hng (by kernel_rfl) fun hf C S K hC1 hC hS hK=>?_;simp (disch:=first|omega|assumption) only [go_sem]
  refine hK ?_;clear hK hS hC hC1 K S C hf
  (try ((first|refine zn ?_|refine ze ?_|refine zk ?_);with_reducible (constructor;repeat constructor));try refine zl ?_)
  refine aj nmd [(3,15),(9,21),(16,28)] hng (by kernel_rfl) fun hf C S K hC1 hC hS hK=>?_;simp (disch:=first|omega|assumption) only [go_sem,List.length_map,hz,decide_true,decide_false,ne_eq,not_true_eq_false,not_false_eq_true]
  (repeat' (first|(refine aD (fun hv=>?_) (fun hv=>?_)<;>(try simp only [zb1,zb2,zb3,zb4,zb5] at hv)<;>simp (disch:=first|omega|assumption) only [go_sem,hv,List.length_map,hz,decide_true,decide_false,ne_eq,not_true_eq_false,not_false_eq_true])|(refine hK ?_;clear hK hS hC hC1 K S C hf)))
  all_goals first|contradiction|(exact absurd rfl hv)|(exact absurd hv (by omega))|skip
  (repeat (first|(refine aq rfl rfl ?_)|(refine ar rfl rfl ?_)|(refine aj nmd [] hng (by kernel_rfl) fun hf C S K hC1 hC hS hK=>?_;simp (disch:=first|omega|assumption) only [go_sem];(repeat ((first|refine hC1 _ (eN _) (by simp (disch:=first|omega|assumption) only [go_sem]) ?_);simp (disch:=first|omega|assumption) only [go_sem]));refine hK ?_;clear hK hS hC hC1 K S C hf)|((first|refine zn ?_|refine ze ?_|refine zk ?_);with_reducible (constructor;repeat constructor);try refine zl ?_)))
  exact aA (ay (by simp (disch:=first|omega|assumption) only [go_sem,Res.av,bj]))
 ·have hz:(a=[45,100])=False:=eq_false h
  refine aJ (n:=93) (rs:=[.cell 4 45,.tmp 5]) Tryz.func148 rfl rfl (by decide) rfl rfl rfl ?_;rintro x rfl hrd hng
  (try ((first|refine zn ?_|refine ze ?_|refine zk ?_);with_reducible (constructor;repeat constructor));try refine zl ?_)
  refine aj nmd [] hng (by kernel_rfl) fun hf C S K hC1 hC hS hK=>?_;simp (disch:=first|omega|assumption) only [go_sem]
  refine hK ?_;clear hK hS hC hC1 K S C hf
  (try ((first|refine zn ?_|refine ze ?_|refine zk ?_);with_reducible (constructor;repeat constructor));try refine zl ?_)
  refine aj nmd [(3,15),(9,21),(16,28)] hng (by kernel_rfl) fun hf C S K hC1 hC hS hK=>?_;simp (disch:=first|omega|assumption) only [go_sem,hz,decide_true,decide_false,ne_eq,not_true_eq_false,not_false_eq_true]
  (repeat' (first|(refine aD (fun hv=>?_) (fun hv=>?_)<;>(try simp only [zb1,zb2,zb3,zb4,zb5] at hv)<;>simp (disch:=first|omega|assumption) only [go_sem,hv,hz,decide_true,decide_false,ne_eq,not_true_eq_false,not_false_eq_true])|(refine hK ?_;clear hK hS hC hC1 K S C hf)))
  all_goals first|contradiction|(exact absurd rfl hv)|(exact absurd hv (by omega))|skip
  (repeat (first|(refine aq rfl rfl ?_)|(refine ar rfl rfl ?_)|(refine aj nmd [] hng (by kernel_rfl) fun hf C S K hC1 hC hS hK=>?_;simp (disch:=first|omega|assumption) only [go_sem];(repeat ((first|refine hC1 _ (eN _) (by simp (disch:=first|omega|assumption) only [go_sem]) ?_);simp (disch:=first|omega|assumption) only [go_sem]));refine hK ?_;clear hK hS hC hC1 K S C hf)|((first|refine zn ?_|refine ze ?_|refine zk ?_);with_reducible (constructor;repeat constructor);try refine zl ?_)))
  exact aA (ay (by simp (disch:=first|omega|assumption) only [go_sem,Res.av,bj]))
 ·have hz:((s.length:Int)=1)=False:=eq_false (by omega)
  refine aJ (n:=93) (rs:=[.cell 4 45,.tmp 5]) Tryz.func148 rfl rfl (by decide) rfl rfl rfl ?_;rintro x rfl hrd hng
  (try ((first|refine zn ?_|refine ze ?_|refine zk ?_);with_reducible (constructor;repeat constructor));try refine zl ?_)
  refine aj nmd [] hng (by kernel_rfl) fun hf C S K hC1 hC hS hK=>?_;simp (disch:=first|omega|assumption) only [go_sem]
  refine hK ?_;clear hK hS hC hC1 K S C hf
  (try ((first|refine zn ?_|refine ze ?_|refine zk ?_);with_reducible (constructor;repeat constructor));try refine zl ?_)
  refine aj nmd [(3,15),(9,21),(16,28)] hng (by kernel_rfl) fun hf C S K hC1 hC hS hK=>?_;simp (disch:=first|omega|assumption) only [go_sem,hz,decide_true,decide_false,ne_eq,not_true_eq_false,not_false_eq_true]
  (repeat' (first|(refine aD (fun hv=>?_) (fun hv=>?_)<;>(try simp only [zb1,zb2,zb3,zb4,zb5] at hv)<;>simp (disch:=first|omega|assumption) only [go_sem,hv,hz,decide_true,decide_false,ne_eq,not_true_eq_false,not_false_eq_true])|(refine hK ?_;clear hK hS hC hC1 K S C hf)))
  all_goals first|contradiction|(exact absurd rfl hv)|(exact absurd hv (by omega))|skip
  (repeat (first|(refine aq rfl rfl ?_)|(refine ar rfl rfl ?_)|(refine aj nmd [] hng (by kernel_rfl) fun hf C S K hC1 hC hS hK=>?_;simp (disch:=first|omega|assumption) only [go_sem];(repeat ((first|refine hC1 _ (eN _) (by simp (disch:=first|omega|assumption) only [go_sem]) ?_);simp (disch:=first|omega|assumption) only [go_sem]));refine hK ?_;clear hK hS hC hC1 K S C hf)|((first|refine zn ?_|refine ze ?_|refine zk ?_);with_reducible (constructor;repeat constructor);try refine zl ?_)))
  exact aA (ay (by simp (disch:=first|omega|assumption) only [go_sem,Res.av,bj]))
 ·have hz:(f=[45,102])=False:=eq_false h
  have hs:((s.length:Int)=1)=True:=eq_true (by omega)
  refine aJ (n:=93) (rs:=[.cell 4 45,.tmp 5]) Tryz.func148 rfl rfl (by decide) rfl rfl rfl ?_;rintro x rfl hrd hng
  (try ((first|refine zn ?_|refine ze ?_|refine zk ?_);with_reducible (constructor;repeat constructor));try refine zl ?_)
  refine aj nmd [] hng (by kernel_rfl) fun hf C S K hC1 hC hS hK=>?_;simp (disch:=first|omega|assumption) only [go_sem]
  refine hK ?_;clear hK hS hC hC1 K S C hf
  (try ((first|refine zn ?_|refine ze ?_|refine zk ?_);with_reducible (constructor;repeat constructor));try refine zl ?_)
  refine aj nmd [(3,15),(9,21),(16,28)] hng (by kernel_rfl) fun hf C S K hC1 hC hS hK=>?_;simp (disch:=first|omega|assumption) only [go_sem,hz,hs,decide_true,decide_false,ne_eq,not_true_eq_false,not_false_eq_true]
  (repeat' (first|(refine aD (fun hv=>?_) (fun hv=>?_)<;>(try simp only [zb1,zb2,zb3,zb4,zb5] at hv)<;>simp (disch:=first|omega|assumption) only [go_sem,hv,hz,hs,decide_true,decide_false,ne_eq,not_true_eq_false,not_false_eq_true])|(refine hK ?_;clear hK hS hC hC1 K S C hf)))
  all_goals first|contradiction|(exact absurd rfl hv)|(exact absurd hv (by omega))|skip
  (repeat (first|(refine aq rfl rfl ?_)|(refine ar rfl rfl ?_)|(refine aj nmd [] hng (by kernel_rfl) fun hf C S K hC1 hC hS hK=>?_;simp (disch:=first|omega|assumption) only [go_sem];(repeat ((first|refine hC1 _ (eN _) (by simp (disch:=first|omega|assumption) only [go_sem]) ?_);simp (disch:=first|omega|assumption) only [go_sem]));refine hK ?_;clear hK hS hC hC1 K S C hf)|((first|refine zn ?_|refine ze ?_|refine zk ?_);with_reducible (constructor;repeat constructor);try refine zl ?_)))
  exact aA (ay (by simp (disch:=first|omega|assumption) only [go_sem,Res.av,bj]))
theorem Ha (c:UInt8) (b t:Str) (hbl:b.length≤4000000) (h:¬ 1≤dN b) (p:Oid) (hp:p.mono=false) :
  af Tryz.prog 148 [.list 1 [.str [45,100],.str [c],.str [45,102],.str b],.str t] (Oid.under p) ⟨[],.tuple [bj.av,.bool false],[]⟩:=by
 have hnum:=fun p hp=>jS b (by omega) p hp
 have hz:(dN b < 1)=True:=eq_true (by omega)
 cases hg:eM b with
 | false =>
  rw [hg] at hnum
  refine aJ (n:=93) (rs:=[.cell 4 45,.tmp 5]) Tryz.func148 rfl rfl (by decide) rfl rfl rfl ?_;rintro x rfl hrd hng
  (try ((first|refine zn ?_|refine ze ?_|refine zk ?_);with_reducible (constructor;repeat constructor));try refine zl ?_)
  refine aj nmd [] hng (by kernel_rfl) fun hf C S K hC1 hC hS hK=>?_;simp (disch:=first|omega|assumption) only [go_sem]
  refine hK ?_;clear hK hS hC hC1 K S C hf
  (try ((first|refine zn ?_|refine ze ?_|refine zk ?_);with_reducible (constructor;repeat constructor));try refine zl ?_)
  refine aj nmd [(3,15),(9,21),(16,28)] hng (by kernel_rfl) fun hf C S K hC1 hC hS hK=>?_;simp (disch:=first|omega|assumption) only [go_sem,decide_true,decide_false,ne_eq,not_true_eq_false,not_false_eq_true]
  (repeat' (first|(refine aD (fun hv=>?_) (fun hv=>?_)<;>(try simp only [zb1,zb2,zb3,zb4,zb5] at hv)<;>simp (disch:=first|omega|assumption) only [go_sem,hv,decide_true,decide_false,ne_eq,not_true_eq_false,not_false_eq_true])|(refine hK ?_;clear hK hS hC hC1 K S C hf)))
  all_goals first|exact absurd rfl hv|skip
  (repeat (first|(refine aq rfl rfl ?_)|(refine ar rfl rfl ?_)|(refine aj nmd [] hng (by kernel_rfl) fun hf C S K hC1 hC hS hK=>?_;simp (disch:=first|omega|assumption) only [go_sem];(repeat ((first|refine hC1 _ (hnum _ (ax rfl hp)) (by simp (disch:=first|omega|assumption) only [go_sem]) ?_);simp (disch:=first|omega|assumption) only [go_sem]));refine hK ?_;clear hK hS hC hC1 K S C hf)|((first|refine zn ?_|refine ze ?_|refine zk ?_);with_reducible (constructor;repeat constructor);try refine zl ?_)))
  refine aj nmd [(2,46)] hng (by kernel_rfl) fun hf C S K hC1 hC hS hK=>?_;simp (disch:=first|omega|assumption) only [go_sem,decide_true,decide_false,ne_eq,not_true_eq_false,not_false_eq_true]
  (repeat' (first|(refine aD (fun hv=>?_) (fun hv=>?_)<;>(try simp only [zb1,zb2,zb3,zb4,zb5] at hv)<;>simp (disch:=first|omega|assumption) only [go_sem,hv,decide_true,decide_false,ne_eq,not_true_eq_false,not_false_eq_true])|(refine hK ?_;clear hK hS hC hC1 K S C hf)))
  all_goals first|contradiction|skip
  (repeat (first|(refine aq rfl rfl ?_)|(refine ar rfl rfl ?_)|(refine aj nmd [] hng (by kernel_rfl) fun hf C S K hC1 hC hS hK=>?_;simp (disch:=first|omega|assumption) only [go_sem];(repeat ((first|refine hC1 _ (eN _) (by simp (disch:=first|omega|assumption) only [go_sem]) ?_);simp (disch:=first|omega|assumption) only [go_sem]));refine hK ?_;clear hK hS hC hC1 K S C hf)|((first|refine zn ?_|refine ze ?_|refine zk ?_);with_reducible (constructor;repeat constructor);try refine zl ?_)))
  exact aA (ay (by simp (disch:=first|omega|assumption) only [go_sem,Res.av,bj]))
 | true =>
  rw [(dG b).2 hg,hg] at hnum
  refine aJ (n:=93) (rs:=[.cell 4 45,.tmp 5]) Tryz.func148 rfl rfl (by decide) rfl rfl rfl ?_;rintro x rfl hrd hng
  (try ((first|refine zn ?_|refine ze ?_|refine zk ?_);with_reducible (constructor;repeat constructor));try refine zl ?_)
  refine aj nmd [] hng (by kernel_rfl) fun hf C S K hC1 hC hS hK=>?_;simp (disch:=first|omega|assumption) only [go_sem]
  refine hK ?_;clear hK hS hC hC1 K S C hf
  (try ((first|refine zn ?_|refine ze ?_|refine zk ?_);with_reducible (constructor;repeat constructor));try refine zl ?_)
  refine aj nmd [(3,15),(9,21),(16,28)] hng (by kernel_rfl) fun hf C S K hC1 hC hS hK=>?_;simp (disch:=first|omega|assumption) only [go_sem,decide_true,decide_false,ne_eq,not_true_eq_false,not_false_eq_true]
  (repeat' (first|(refine aD (fun hv=>?_) (fun hv=>?_)<;>(try simp only [zb1,zb2,zb3,zb4,zb5] at hv)<;>simp (disch:=first|omega|assumption) only [go_sem,hv,decide_true,decide_false,ne_eq,not_true_eq_false,not_false_eq_true])|(refine hK ?_;clear hK hS hC hC1 K S C hf)))
  all_goals first|exact absurd rfl hv|skip
  (repeat (first|(refine aq rfl rfl ?_)|(refine ar rfl rfl ?_)|(refine aj nmd [] hng (by kernel_rfl) fun hf C S K hC1 hC hS hK=>?_;simp (disch:=first|omega|assumption) only [go_sem];(repeat ((first|refine hC1 _ (hnum _ (ax rfl hp)) (by simp (disch:=first|omega|assumption) only [go_sem]) ?_);simp (disch:=first|omega|assumption) only [go_sem]));refine hK ?_;clear hK hS hC hC1 K S C hf)|((first|refine zn ?_|refine ze ?_|refine zk ?_);with_reducible (constructor;repeat constructor);try refine zl ?_)))
  refine aj nmd [(2,46)] hng (by kernel_rfl) fun hf C S K hC1 hC hS hK=>?_;simp (disch:=first|omega|assumption) only [go_sem,hz,decide_true,decide_false,ne_eq,not_true_eq_false,not_false_eq_true]
  (repeat' (first|(refine aD (fun hv=>?_) (fun hv=>?_)<;>(try simp only [zb1,zb2,zb3,zb4,zb5] at hv)<;>simp (disch:=first|omega|assumption) only [go_sem,hv,hz,decide_true,decide_false,ne_eq,not_true_eq_false,not_false_eq_true])|(refine hK ?_;clear hK hS hC hC1 K S C hf)))
  all_goals first|contradiction|skip
  (repeat (first|(refine aq rfl rfl ?_)|(refine ar rfl rfl ?_)|(refine aj nmd [] hng (by kernel_rfl) fun hf C S K hC1 hC hS hK=>?_;simp (disch:=first|omega|assumption) only [go_sem];(repeat ((first|refine hC1 _ (eN _) (by simp (disch:=first|omega|assumption) only [go_sem]) ?_);simp (disch:=first|omega|assumption) only [go_sem]));refine hK ?_;clear hK hS hC hC1 K S C hf)|((first|refine zn ?_|refine ze ?_|refine zk ?_);with_reducible (constructor;repeat constructor);try refine zl ?_)))
  exact aA (ay (by simp (disch:=first|omega|assumption) only [go_sem,Res.av,bj]))
end Go.Proofs.YtfbnaalhioogoaaGreatDoor
namespace Go.Proofs.YtfbnaalhioogoaaGreatDoor
open Go Go.Ab
set_option maxRecDepth 20000
set_option maxHeartbeats 4000000
theorem bR (n:Nat) (hn:(n:Int)≤9223372036854775807) (p:Oid) (hp:p.mono=false):af Tryz.prog 98 [.int .i64 n] (Oid.under p) ⟨[],.str (Lib.decDigits n),[]⟩:=by
 have:=gJ (n:Int) (by omega) hn p hp
 rwa [Lib.itoa_nonneg] at this
theorem uJ (l1 l2:List Str) (h1:l1.length≤4000000000) (p:Oid) :
  af Tryz.prog 230 [.list 1 (l1.map AV.str),.list 1 (l2.map AV.str)] (Oid.under p) ⟨[],.bool (decide (l1=l2)),[]⟩:=by
 refine aJ (n:=26) (rs:=[.tmp 4]) Tryz.func230 rfl rfl (by decide) rfl rfl rfl ?_;rintro x rfl hrd hng
 (repeat (first|(refine aq rfl rfl ?_)|(refine ar rfl rfl ?_)|(refine aj nmd [] hng (by kernel_rfl) fun hf C S K hC1 hC hS hK=>?_;simp (disch:=first|omega|assumption) only [go_sem,List.length_map];(repeat ((first|refine hC1 _ () (by simp (disch:=first|omega|assumption) only [go_sem]) ?_);simp (disch:=first|omega|assumption) only [go_sem]));refine hK ?_;clear hK hS hC hC1 K S C hf)|((first|refine zn ?_|refine ze ?_|refine zk ?_);with_reducible (constructor;repeat constructor);try refine zl ?_)))
 refine aX rfl rfl (fun hb=>?_) (fun hb=>?_)
 ·have hne:¬ l1=l2:=fun e=>hb (by rw [e])
  rw [decide_eq_false hne]
  (repeat (first|(refine aq rfl rfl ?_)|(refine ar rfl rfl ?_)|(refine aj nmd [] hng (by kernel_rfl) fun hf C S K hC1 hC hS hK=>?_;simp (disch:=first|omega|assumption) only [go_sem];refine hK ?_;clear hK hS hC hC1 K S C hf)|((first|refine zn ?_|refine ze ?_|refine zk ?_);with_reducible (constructor;repeat constructor);try refine zl ?_)))
  exact aA (bd rfl)
 ·have hlen:l1.length=l2.length:=by omega
  (repeat (first|(refine aq rfl rfl ?_)|(refine ar rfl rfl ?_)|(refine aj nmd [] hng (by kernel_rfl) fun hf C S K hC1 hC hS hK=>?_;simp (disch:=first|omega|assumption) only [go_sem,List.length_map];(repeat ((first|refine hC1 _ () (by simp (disch:=first|omega|assumption) only [go_sem]) ?_);simp (disch:=first|omega|assumption) only [go_sem]));refine hK ?_;clear hK hS hC hC1 K S C hf)|((first|refine zn ?_|refine ze ?_|refine zk ?_);with_reducible (constructor;repeat constructor);try refine zl ?_)))
  refine bm [0,1,12,13] (fun k s'=>∃ i c:Nat,k=l1.length - i∧i≤l1.length∧l1.take i=l2.take i ∧
   s' = ⟨[(0,.list 1 (l1.map AV.str)),(1,.list 1 (l2.map AV.str)),(12,.int .i64 l1.length),(13,.int .i64 i)],Mem.of [],c,[]⟩) _ ⟨0,_,rfl,Nat.zero_le _,by simp,rfl⟩ ?_
  rintro k s' ⟨i,c,rfl,hi,heq,rfl⟩
  (repeat (first|(refine aq rfl rfl ?_)|(refine ar rfl rfl ?_)|(refine aj nmd [] hng (by kernel_rfl) fun hf C S K hC1 hC hS hK=>?_;simp (disch:=first|omega|assumption) only [go_sem];refine hK ?_;clear hK hS hC hC1 K S C hf)|((first|refine zn ?_|refine ze ?_|refine zk ?_);with_reducible (constructor;repeat constructor);try refine zl ?_)))
  refine aX rfl rfl (fun hb=>?_) (fun hb=>?_)
  ·have hlt:i < l1.length:=by omega
   have hlt2:i < l2.length:=by omega
   (repeat (first|(refine aq rfl rfl ?_)|(refine ar rfl rfl ?_)|(refine aj nmd [] hng (by kernel_rfl) fun hf C S K hC1 hC hS hK=>?_;simp (disch:=first|omega|assumption) only [go_sem];refine hK ?_;clear hK hS hC hC1 K S C hf)|((first|refine zn ?_|refine ze ?_|refine zk ?_);with_reducible (constructor;repeat constructor);try refine zl ?_)))
   refine cX nmd [] [] mixed hng (by kernel_rfl) [0,1,12,13,24] fun hf C S K hC hS hK=>?_;simp (disch:=first|omega|assumption) only [go_sem,List.length_map,decide_true,decide_false,ne_eq,not_true_eq_false,not_false_eq_true]
   (repeat' (first|(refine aD (fun hv=>?_) (fun hv=>?_)<;>(try simp only [zb1,zb2,zb3,zb4,zb5] at hv)<;>simp (disch:=first|omega|assumption) only [go_sem,hv,List.length_map,decide_true,decide_false,ne_eq,not_true_eq_false,not_false_eq_true])|((first|refine hK (aV rfl) ?_|refine hK (by simp (disch:=first|omega|assumption) only [go_sem,List.reverse_cons,List.reverse_nil,ne_eq,not_false_eq_true,implies_true]) ?_);clear hK hS hC K S C hf)))
   (try ((first|refine zn ?_|refine ze ?_|refine zk ?_);with_reducible (constructor;repeat constructor));try refine zl ?_)
   refine aX rfl rfl (fun hb=>?_) (fun hb=>?_)
   ·have hne:¬ l1=l2:=fun e=>hb (by rw [e])
    rw [decide_eq_false hne]
    (repeat (first|(refine aq rfl rfl ?_)|(refine ar rfl rfl ?_)|(refine aj nmd [] hng (by kernel_rfl) fun hf C S K hC1 hC hS hK=>?_;simp (disch:=first|omega|assumption) only [go_sem];refine hK ?_;clear hK hS hC hC1 K S C hf)|((first|refine zn ?_|refine ze ?_|refine zk ?_);with_reducible (constructor;repeat constructor);try refine zl ?_)))
    exact aA (bd rfl)
   ·have he:l1.getD i default=l2.getD i default:=Classical.not_not.1 hb
    (repeat (first|(refine aq rfl rfl ?_)|(refine ar rfl rfl ?_)|(refine aj nmd [] hng (by kernel_rfl) fun hf C S K hC1 hC hS hK=>?_;simp (disch:=first|omega|assumption) only [go_sem];refine hK ?_;clear hK hS hC hC1 K S C hf)|((first|refine zn ?_|refine ze ?_|refine zk ?_);with_reducible (constructor;repeat constructor);try refine zl ?_)))
    refine ⟨_,_,?_,fun _ _ h=>h,i+1,_,rfl,by omega,?_,rfl⟩
    ·omega
    ·rw [List.take_add_one,List.take_add_one,heq,List.getElem?_eq_getElem hlt,List.getElem?_eq_getElem hlt2]
     rw [List.getD_eq_getElem?_getD,List.getD_eq_getElem?_getD,List.getElem?_eq_getElem hlt,List.getElem?_eq_getElem hlt2] at he
     simp only [Option.getD_some] at he
     rw [he]
  ·obtain rfl:i=l1.length:=by omega
   have he:l1=l2:=by rwa [List.take_length,hlen,List.take_length] at heq
   rw [decide_eq_true he]
   (repeat (first|(refine aq rfl rfl ?_)|(refine ar rfl rfl ?_)|(refine aj nmd [] hng (by kernel_rfl) fun hf C S K hC1 hC hS hK=>?_;simp (disch:=first|omega|assumption) only [go_sem];refine hK ?_;clear hK hS hC hC1 K S C hf)|((first|refine zn ?_|refine ze ?_|refine zk ?_);with_reducible (constructor;repeat constructor);try refine zl ?_)))
   exact aA (bd rfl)
end Go.Proofs.YtfbnaalhioogoaaGreatDoor
namespace Go.Proofs.YtfbnaalhioogoaaGreatDoor
open Go Go.Ab
set_option maxRecDepth 20000
set_option maxHeartbeats 4000000
def Ic (args:List Str) (cnt:Bool):Prop:=(args=[]∧cnt=false)∨(args=[[45,99]]∧cnt=true)
theorem wu (args:List Str):(∃ cnt,Ic args cnt)∨(¬ args.length=0∧¬ args=[[45,99]]):=by
 by_cases h0:args=[]
 ·exact .inl ⟨false,.inl ⟨h0,rfl⟩⟩
 ·by_cases h1:args=[[45,99]]
  ·exact .inl ⟨true,.inr ⟨h1,rfl⟩⟩
  ·exact .inr ⟨fun e=>h0 (List.eq_nil_of_length_eq_zero e),h1⟩
theorem gZ {l:List Str} {i:Nat} (h:i < l.length):l.drop i=l.getD i default::l.drop (i+1):=by
 rw [List.drop_eq_getElem_cons h,List.getD_eq_getElem?_getD,List.getElem?_eq_getElem h];rfl
end Go.Proofs.YtfbnaalhioogoaaGreatDoor
namespace Go.Proofs.YtfbnaalhioogoaaGreatDoor
open Go Go.Ab
set_option maxRecDepth 20000
set_option maxHeartbeats 4000000
theorem iS {c e j k:Nat} {t:Nat} {p:Oid} (h:¬ c=e):¬ Oid.under (.sub c k p) (.ty t (.sub 2 6 (.sub e j p))):=by
 have hself:¬ Oid.under (.sub c k p) p:=fun h=>by have:=Oid.cG h;simp [Oid.depth] at this;omega
 have h':¬ e=c:=fun e=>h e.symm
 simp only [Oid.under,reduceCtorEq,false_or,Oid.sub.injEq,h,h',false_and,and_false,hself,or_false,not_false_eq_true]
 intro hh
 have:=congrArg Oid.depth hh.2.2
 simp [Oid.depth] at this
theorem Hb (args:List Str) (cnt:Bool) (h:Ic args cnt) (t:Str) (htl:t.length≤4000000) (p:Oid) (hp:p.mono=false) :
  af Tryz.prog 147 [.list 1 (args.map AV.str),.str t] (Oid.under p) ⟨[],.tuple [(a6 (gA cnt (grp (aC t)))).av,.bool true],[]⟩:=by
 have hjl:=dC t
 have hjn:=eB (aC t)
 have hrl:=q7 cnt (aC t)
 have hal:args.length≤4000000000:=by rcases h with ⟨rfl,_⟩|⟨rfl,_⟩<;>simp
 have heq:=fun p=>uJ args [[45,99]] hal p
 have hcnt:decide (args=[[45,99]])=cnt:=by rcases h with ⟨rfl,rfl⟩|⟨rfl,rfl⟩<;>rfl
 rw [hcnt] at heq
 have hlr:=fun p=>pd t (by omega) p
 generalize hL:aC t=L at hjl hjn hrl hlr ⊢
 generalize hT:gA cnt (grp L)=tot at hrl ⊢
 simp only [List.map_cons,List.map_nil] at heq
 refine aJ (n:=61) (rs:=[.cell 4 45,.tmp 5]) Tryz.func147 rfl rfl (by decide) rfl rfl rfl ?_;rintro x rfl hrd hng
 (repeat (first|(refine aq rfl rfl ?_)|(refine ar rfl rfl ?_)|(refine aj nmd [] hng (by kernel_rfl) fun hf C S K hC1 hC hS hK=>?_;simp (disch:=first|omega|assumption) only [go_sem];(repeat ((first|refine hC1 _ (heq _) (by simp (disch:=first|omega|assumption) only [go_sem]) ?_);simp (disch:=first|omega|assumption) only [go_sem]));refine hK ?_;clear hK hS hC hC1 K S C hf)|((first|refine zn ?_|refine ze ?_|refine zk ?_);with_reducible (constructor;repeat constructor);try refine zl ?_)))
 refine cQ [1,4,6,19] (fun s'=>∃ c:Nat,s' = ⟨[(1,.str t),(4,.ptr (.sub 0 0 x.p) 0),(6,.bool cnt),(19,.bool false)],Mem.of [(.sub 0 0 x.p,.cells [.int .i64 0,.str [],.str []])],c,[]⟩∧1 < c) ?_ ?_
 ·rcases h with ⟨rfl,rfl⟩|⟨rfl,rfl⟩
  ·refine aj nmd [(3,16)] hng (by kernel_rfl) fun hf C S K hC1 hC hS hK=>?_;simp (disch:=first|omega|assumption) only [go_sem,decide_true,decide_false,ne_eq,not_true_eq_false,not_false_eq_true]
   (repeat' (first|(refine aD (fun hv=>?_) (fun hv=>?_)<;>(try simp only [zb1,zb2,zb3,zb4,zb5] at hv)<;>simp (disch:=first|omega|assumption) only [go_sem,hv,decide_true,decide_false,ne_eq,not_true_eq_false,not_false_eq_true])|(refine hK ?_;clear hK hS hC hC1 K S C hf)))
   all_goals first|contradiction|exact aT ⟨_,rfl,by omega⟩
  ·refine aj nmd [(3,16)] hng (by kernel_rfl) fun hf C S K hC1 hC hS hK=>?_;simp (disch:=first|omega|assumption) only [go_sem,decide_true,decide_false,ne_eq,not_true_eq_false,not_false_eq_true]
   (repeat' (first|(refine aD (fun hv=>?_) (fun hv=>?_)<;>(try simp only [zb1,zb2,zb3,zb4,zb5] at hv)<;>simp (disch:=first|omega|assumption) only [go_sem,hv,decide_true,decide_false,ne_eq,not_true_eq_false,not_false_eq_true])|(refine hK ?_;clear hK hS hC hC1 K S C hf)))
   all_goals first|contradiction|exact absurd rfl hv|exact aT ⟨_,rfl,by omega⟩
 rintro s' ⟨c0,rfl,hc0⟩
 (repeat (first|(refine aq rfl rfl ?_)|(refine ar rfl rfl ?_)|(refine aj nmd [] hng (by kernel_rfl) fun hf C S K hC1 hC hS hK=>?_;simp (disch:=first|omega|assumption) only [go_sem];(repeat ((first|refine hC1 _ (hlr _) (by simp (disch:=first|omega|assumption) only [go_sem]) ?_);simp (disch:=first|omega|assumption) only [go_sem]));refine hK ?_;clear hK hS hC hC1 K S C hf)|((first|refine zn ?_|refine ze ?_|refine zk ?_);with_reducible (constructor;repeat constructor);try refine zl ?_)))
 refine bm [4,6,7,8] (fun k s'=>∃ (R:List Str) (u:Str) (M:List (Oid × aw)) (c:Nat),R.length=k∧c0+1 < c∧R.length≤4000001∧tot=u++gA cnt (grp R) ∧
  ((u=[]∧M=[(.sub 0 0 x.p,.cells [.int .i64 0,.str [],.str []]),(.ty 194 (.sub c0 0 x.p),.cells [.nilPtr,.nilSl])])∨(¬ u=[]∧∃ e j,c0 < e∧e < c∧M=[(.sub 0 0 x.p,.cells [.int .i64 0,.str [],.str []]),(.ty 194 (.sub c0 0 x.p),.cells [.ptr (.ty 194 (.sub c0 0 x.p)) 0,.sl (.ty 5 (.sub 2 6 (.sub e j x.p))) 1 u.length]),(.ty 5 (.sub 2 6 (.sub e j x.p)),.arr 1 (u.map byA))])) ∧
  s' = ⟨[(4,.ptr (.sub 0 0 x.p) 0),(6,.bool cnt),(7,.ptr (.ty 194 (.sub c0 0 x.p)) 0),(8,.list 1 (R.map AV.str))],Mem.of M,c,[]⟩) _ ⟨L,[],_,_,rfl,by omega,by omega,hT.symm,.inl ⟨rfl,rfl⟩,rfl⟩ ?_
 rintro k s' ⟨R,u,M,c,rfl,hcc,hRl,htot,hM,rfl⟩
 have hul:u.length≤12000003:=by have:=congrArg List.length htot;rw [List.length_append] at this;omega
 (repeat (first|(refine aq rfl rfl ?_)|(refine ar rfl rfl ?_)|(refine aj nmd [] hng (by kernel_rfl) fun hf C S K hC1 hC hS hK=>?_;simp (disch:=first|omega|assumption) only [go_sem,List.length_map];(repeat ((first|refine hC1 _ () (by simp (disch:=first|omega|assumption) only [go_sem]) ?_);simp (disch:=first|omega|assumption) only [go_sem]));refine hK ?_;clear hK hS hC hC1 K S C hf)|((first|refine zn ?_|refine ze ?_|refine zk ?_);with_reducible (constructor;repeat constructor);try refine zl ?_)))
 refine aX rfl rfl (fun hb=>?_) (fun hb=>?_)
 ·have hR0:0 < R.length:=by omega
  generalize hq:R.getD 0 default=q
  (repeat (first|(refine aq rfl rfl ?_)|(refine ar rfl rfl ?_)|(refine aj nmd [] hng (by kernel_rfl) fun hf C S K hC1 hC hS hK=>?_;simp (disch:=first|omega|assumption) only [go_sem];refine hK ?_;clear hK hS hC hC1 K S C hf)|((first|refine zn ?_|refine ze ?_|refine zk ?_);with_reducible (constructor;repeat constructor);try refine zl ?_)))
  refine bm [4,6,7,8,9] (fun k s'=>∃ (m c':Nat),k=R.length - m∧1≤m∧m≤R.length∧c < c'∧grp R=fp m q (grp (R.drop m)) ∧
   s' = ⟨[(4,.ptr (.sub 0 0 x.p) 0),(6,.bool cnt),(7,.ptr (.ty 194 (.sub c0 0 x.p)) 0),(8,.list 1 (R.map AV.str)),(9,.int .i64 (m:Int))],Mem.of M,c',[]⟩) _ ⟨1,_,rfl,Nat.le_refl _,hR0,by omega,by
    have h1:=gZ (l:=R) (i:=0) hR0
    rw [List.drop_zero,hq] at h1
    conv=>lhs;rw [h1]
    rw [grp],rfl⟩ ?_
  rintro k s' ⟨m,c',rfl,hm1,hmR,hc',hg,rfl⟩
  (try ((first|refine zn ?_|refine ze ?_|refine zk ?_);with_reducible (constructor;repeat constructor));try refine zl ?_)
  refine cQ [4,6,7,8,9,41] (fun s'=>∃ (b:Bool) (d:Nat),s' = ⟨[(4,.ptr (.sub 0 0 x.p) 0),(6,.bool cnt),(7,.ptr (.ty 194 (.sub c0 0 x.p)) 0),(8,.list 1 (R.map AV.str)),(9,.int .i64 (m:Int)),(41,.bool b)],Mem.of M,d,[]⟩∧c < d∧(b=true↔(m < R.length∧R.getD m default=q))) ?_ ?_
  ·refine cX nmd [(4,32)] [] mixed hng (by kernel_rfl) [4,6,7,8,9,41] fun hf C S K hC hS hK=>?_;simp (disch:=first|omega|assumption) only [go_sem,List.length_map,hq,decide_true,decide_false,ne_eq,not_true_eq_false,not_false_eq_true]
   (repeat' (first|(refine aD (fun hv=>?_) (fun hv=>?_)<;>(try simp only [zb1,zb2,zb3,zb4,zb5] at hv)<;>simp (disch:=first|omega|assumption) only [go_sem,hv,List.length_map,hq,decide_true,decide_false,ne_eq,not_true_eq_false,not_false_eq_true])|((first|refine hK (aV rfl) ?_|refine hK (by simp (disch:=first|omega|assumption) only [go_sem,List.reverse_cons,List.reverse_nil,ne_eq,not_false_eq_true,implies_true]) ?_);clear hK hS hC K S C hf)))
   all_goals first
    | contradiction
    | exact aT ⟨_,_,rfl,by omega,by simp only [decide_eq_true_eq];exact ⟨fun h=>⟨by omega,h⟩,fun h=>h.2⟩⟩
    | exact aT ⟨_,_,rfl,by omega,by simp only [Bool.false_eq_true,false_iff];omega⟩
  rintro s' ⟨b,d,rfl,hcd,hiff⟩
  refine jr rfl rfl (fun hb=>?_) (fun hb=>?_)
  ·obtain ⟨h1,h2⟩:=hiff.1 hb
   have hd2:=gZ h1
   rw [h2] at hd2
   rw [hd2,grp,Df] at hg
   (repeat (first|(refine aq rfl rfl ?_)|(refine ar rfl rfl ?_)|(refine aj nmd [] hng (by kernel_rfl) fun hf C S K hC1 hC hS hK=>?_;simp (disch:=first|omega|assumption) only [go_sem];refine hK ?_;clear hK hS hC hC1 K S C hf)|((first|refine zn ?_|refine ze ?_|refine zk ?_);with_reducible (constructor;repeat constructor);try refine zl ?_)))
   refine ⟨_,_,?_,fun _ _ h=>h,m+1,d+1,rfl,by omega,by omega,by omega,hg,rfl⟩
   omega
  ·have hne:∀ y r,R.drop m=y::r→¬ y=q:=fun y r hy e=>by
    have h1:m < R.length:=by
     have:=congrArg List.length hy
     rw [List.length_drop,List.length_cons] at this;omega
    rw [gZ h1,List.cons.injEq] at hy
    rw [hiff.2 ⟨h1,by rw [hy.1,e]⟩] at hb;cases hb
   rw [Dg hne] at hg
   rw [hg] at htot
   have hlen:=congrArg List.length htot
   have hdm:(R.drop m).length < R.length:=by rw [List.length_drop];omega
   have hdl:(R.drop m).length≤4000001:=by omega
   cases cnt with
   | true =>
    simp only [gA,if_true] at htot hlen
    simp only [List.length_append,List.length_singleton] at hlen
    have htot2:tot=(u++(Lib.decDigits m++[32]))++(q++[10])++gA true (grp (R.drop m)):=by rw [htot];simp
    have hw1:(Lib.decDigits m++[32]).length≤140737488355328:=by rw [List.length_append,List.length_singleton];omega
    have hw2:u.length+(Lib.decDigits m++[32]).length≤140737488355328:=by rw [List.length_append,List.length_singleton];omega
    have hw3:(u++(Lib.decDigits m++[32])).length+(q++[10]).length≤140737488355328:=by simp only [List.length_append,List.length_singleton];omega
    rcases hM with ⟨rfl,rfl⟩|⟨hu0,e,j,he1,he2,rfl⟩
    ·(repeat (first|(refine aq rfl rfl ?_)|(refine ar rfl rfl ?_)|(refine aj nmd [] hng (by kernel_rfl) fun hf C S K hC1 hC hS hK=>?_;simp (disch:=first|omega|assumption) only [go_sem,List.length_map,hq,← List.map_drop];(repeat ((first|refine hC1 _ (bR m (by omega) _ (ax rfl hp)) (by simp (disch:=first|omega|assumption) only [go_sem]) ?_|refine hC1 _ (lq (.sub c0 0 x.p) (Lib.decDigits m++[32]) hw1 _ (cY (by omega))) (by simp (disch:=first|omega|assumption) only [go_sem]) ?_|refine hC1 _ (jR (.sub c0 0 x.p) (.sub 2 6 (.sub (d+1) 3 x.p)) (Lib.decDigits m++[32]) (q++[10]) hw3 _ (cY (by omega)) (iS (by omega))) (by simp (disch:=first|omega|assumption) only [go_sem]) ?_);simp (disch:=first|omega|assumption) only [go_sem]));refine hK ?_;clear hK hS hC hC1 K S C hf)|((first|refine zn ?_|refine ze ?_|refine zk ?_);with_reducible (constructor;repeat constructor);try refine zl ?_)))
     refine ⟨_,_,?_,fun _ _ h=>h,R.drop m,Lib.decDigits m++[32]++(q++[10]),[(.sub 0 0 x.p,.cells [.int .i64 0,.str [],.str []]),(.ty 194 (.sub c0 0 x.p),.cells [.ptr (.ty 194 (.sub c0 0 x.p)) 0,.sl (.ty 5 (.sub 2 6 (.sub (d+1+1) 4 x.p))) 1 (Lib.decDigits m++[32]++(q++[10])).length]),((.ty 5 (.sub 2 6 (.sub (d+1+1) 4 x.p))),.arr 1 ((Lib.decDigits m++[32]++(q++[10])).map byA))],d+1+1+1+1,rfl,by omega,hdl,by rw [htot];simp,.inr ⟨by simp,d+1+1,4,by omega,by omega,rfl⟩,?_⟩
     ·exact hdm
     ·first|rfl|(simp only [List.length_append,List.length_singleton,List.length_cons,List.length_nil,Nat.zero_add,← Nat.add_assoc];rfl)
    ·(repeat (first|(refine aq rfl rfl ?_)|(refine ar rfl rfl ?_)|(refine aj nmd [] hng (by kernel_rfl) fun hf C S K hC1 hC hS hK=>?_;simp (disch:=first|omega|assumption) only [go_sem,List.length_map,hq,← List.map_drop];(repeat ((first|refine hC1 _ (bR m (by omega) _ (ax rfl hp)) (by simp (disch:=first|omega|assumption) only [go_sem]) ?_|refine hC1 _ (jR (.sub c0 0 x.p) (.sub 2 6 (.sub e j x.p)) u (Lib.decDigits m++[32]) hw2 _ (cY (by omega)) (iS (by omega))) (by simp (disch:=first|omega|assumption) only [go_sem]) ?_|refine hC1 _ (jR (.sub c0 0 x.p) (.sub 2 6 (.sub (d+1) 3 x.p)) (u++(Lib.decDigits m++[32])) (q++[10]) hw3 _ (cY (by omega)) (iS (by omega))) (by simp (disch:=first|omega|assumption) only [go_sem]) ?_);simp (disch:=first|omega|assumption) only [go_sem]));refine hK ?_;clear hK hS hC hC1 K S C hf)|((first|refine zn ?_|refine ze ?_|refine zk ?_);with_reducible (constructor;repeat constructor);try refine zl ?_)))
     refine ⟨_,_,?_,fun _ _ h=>h,R.drop m,u++(Lib.decDigits m++[32])++(q++[10]),[(.sub 0 0 x.p,.cells [.int .i64 0,.str [],.str []]),(.ty 194 (.sub c0 0 x.p),.cells [.ptr (.ty 194 (.sub c0 0 x.p)) 0,.sl (.ty 5 (.sub 2 6 (.sub (d+1+1) 4 x.p))) 1 (u++(Lib.decDigits m++[32])++(q++[10])).length]),((.ty 5 (.sub 2 6 (.sub (d+1+1) 4 x.p))),.arr 1 ((u++(Lib.decDigits m++[32])++(q++[10])).map byA))],d+1+1+1+1,rfl,by omega,hdl,by rw [htot];simp,.inr ⟨by simp,d+1+1,4,by omega,by omega,rfl⟩,?_⟩
     ·exact hdm
     ·first|rfl|(simp only [List.length_append,List.length_singleton,List.length_cons,List.length_nil,Nat.zero_add,← Nat.add_assoc];rfl)
   | false =>
    simp only [gA,Bool.false_eq_true,if_false,List.nil_append] at htot hlen
    simp only [List.length_append,List.length_singleton] at hlen
    have hw2:u.length+(q++[10]).length≤140737488355328:=by simp only [List.length_append,List.length_singleton];omega
    rcases hM with ⟨rfl,rfl⟩|⟨hu0,e,j,he1,he2,rfl⟩
    ·(repeat (first|(refine aq rfl rfl ?_)|(refine ar rfl rfl ?_)|(refine aj nmd [] hng (by kernel_rfl) fun hf C S K hC1 hC hS hK=>?_;simp (disch:=first|omega|assumption) only [go_sem,List.length_map,hq,← List.map_drop];(repeat ((first|refine hC1 _ (lq (.sub c0 0 x.p) (q++[10]) (by simp only [List.length_append,List.length_singleton];omega) _ (cY (by omega))) (by simp (disch:=first|omega|assumption) only [go_sem]) ?_);simp (disch:=first|omega|assumption) only [go_sem]));refine hK ?_;clear hK hS hC hC1 K S C hf)|((first|refine zn ?_|refine ze ?_|refine zk ?_);with_reducible (constructor;repeat constructor);try refine zl ?_)))
     refine ⟨_,_,?_,fun _ _ h=>h,R.drop m,q++[10],[(.sub 0 0 x.p,.cells [.int .i64 0,.str [],.str []]),(.ty 194 (.sub c0 0 x.p),.cells [.ptr (.ty 194 (.sub c0 0 x.p)) 0,.sl (.ty 5 (.sub 2 6 (.sub (d+1) 4 x.p))) 1 (q++[10]).length]),((.ty 5 (.sub 2 6 (.sub (d+1) 4 x.p))),.arr 1 ((q++[10]).map byA))],d+1+1+1,rfl,by omega,hdl,by rw [htot];simp,.inr ⟨by simp,d+1,4,by omega,by omega,rfl⟩,?_⟩
     ·exact hdm
     ·first|rfl|(simp only [List.length_append,List.length_singleton,List.length_cons,List.length_nil,Nat.zero_add,← Nat.add_assoc];rfl)
    ·(repeat (first|(refine aq rfl rfl ?_)|(refine ar rfl rfl ?_)|(refine aj nmd [] hng (by kernel_rfl) fun hf C S K hC1 hC hS hK=>?_;simp (disch:=first|omega|assumption) only [go_sem,List.length_map,hq,← List.map_drop];(repeat ((first|refine hC1 _ (jR (.sub c0 0 x.p) (.sub 2 6 (.sub e j x.p)) u (q++[10]) hw2 _ (cY (by omega)) (iS (by omega))) (by simp (disch:=first|omega|assumption) only [go_sem]) ?_);simp (disch:=first|omega|assumption) only [go_sem]));refine hK ?_;clear hK hS hC hC1 K S C hf)|((first|refine zn ?_|refine ze ?_|refine zk ?_);with_reducible (constructor;repeat constructor);try refine zl ?_)))
     refine ⟨_,_,?_,fun _ _ h=>h,R.drop m,u++(q++[10]),[(.sub 0 0 x.p,.cells [.int .i64 0,.str [],.str []]),(.ty 194 (.sub c0 0 x.p),.cells [.ptr (.ty 194 (.sub c0 0 x.p)) 0,.sl (.ty 5 (.sub 2 6 (.sub (d+1) 4 x.p))) 1 (u++(q++[10])).length]),((.ty 5 (.sub 2 6 (.sub (d+1) 4 x.p))),.arr 1 ((u++(q++[10])).map byA))],d+1+1+1,rfl,by omega,hdl,by rw [htot];simp,.inr ⟨by simp,d+1,4,by omega,by omega,rfl⟩,?_⟩
     ·exact hdm
     ·first|rfl|(simp only [List.length_append,List.length_singleton,List.length_cons,List.length_nil,Nat.zero_add,← Nat.add_assoc];rfl)
 ·have hR:R=[]:=List.eq_nil_of_length_eq_zero (by omega)
  subst hR
  simp only [grp,gA,List.append_nil] at htot
  subst htot
  rcases hM with ⟨rfl,rfl⟩|⟨hu0,e,j,he1,he2,rfl⟩
  ·(repeat (first|(refine aq rfl rfl ?_)|(refine ar rfl rfl ?_)|(refine aj nmd [] hng (by kernel_rfl) fun hf C S K hC1 hC hS hK=>?_;simp (disch:=first|omega|assumption) only [go_sem];(repeat ((first|refine hC1 _ (kJ (.sub c0 0 _) _) (by simp (disch:=first|omega|assumption) only [go_sem]) ?_|refine hC1 _ (bY [] _) (by simp (disch:=first|omega|assumption) only [go_sem]) ?_);simp (disch:=first|omega|assumption) only [go_sem]));refine hK ?_;clear hK hS hC hC1 K S C hf)|((first|refine zn ?_|refine ze ?_|refine zk ?_);with_reducible (constructor;repeat constructor);try refine zl ?_)))
   exact aA (ay (by simp (disch:=first|omega|assumption) only [go_sem,Res.av,a6,bj,bh]))
  ·have hup:=List.length_pos_iff.2 hu0
   (repeat (first|(refine aq rfl rfl ?_)|(refine ar rfl rfl ?_)|(refine aj nmd [] hng (by kernel_rfl) fun hf C S K hC1 hC hS hK=>?_;simp (disch:=first|omega|assumption) only [go_sem];(repeat ((first|refine hC1 _ (l7 (.sub c0 0 _) (.sub 2 6 (.sub e j x.p)) tot hup (by omega) _) (by simp (disch:=first|omega|assumption) only [go_sem]) ?_|refine hC1 _ (bY tot _) (by simp (disch:=first|omega|assumption) only [go_sem]) ?_);simp (disch:=first|omega|assumption) only [go_sem]));refine hK ?_;clear hK hS hC hC1 K S C hf)|((first|refine zn ?_|refine ze ?_|refine zk ?_);with_reducible (constructor;repeat constructor);try refine zl ?_)))
   exact aA (ay (by simp (disch:=first|omega|assumption) only [go_sem,Res.av,a6,bj,bh]))
theorem Di (args:List Str) (h:¬ args.length=0∧¬ args=[[45,99]]) (hal:args.length≤4000000000) (t:Str) (p:Oid) :
  af Tryz.prog 147 [.list 1 (args.map AV.str),.str t] (Oid.under p) ⟨[],.tuple [bj.av,.bool false],[]⟩:=by
 have heq:=fun p=>uJ args [[45,99]] hal p
 rw [decide_eq_false h.2] at heq
 simp only [List.map_cons,List.map_nil] at heq
 have hz0:(0 < (args.length:Int))=True:=eq_true (by omega)
 refine aJ (n:=61) (rs:=[.cell 4 45,.tmp 5]) Tryz.func147 rfl rfl (by decide) rfl rfl rfl ?_;rintro x rfl hrd hng
 (repeat (first|(refine aq rfl rfl ?_)|(refine ar rfl rfl ?_)|(refine aj nmd [] hng (by kernel_rfl) fun hf C S K hC1 hC hS hK=>?_;simp (disch:=first|omega|assumption) only [go_sem];(repeat ((first|refine hC1 _ (heq _) (by simp (disch:=first|omega|assumption) only [go_sem]) ?_);simp (disch:=first|omega|assumption) only [go_sem]));refine hK ?_;clear hK hS hC hC1 K S C hf)|((first|refine zn ?_|refine ze ?_|refine zk ?_);with_reducible (constructor;repeat constructor);try refine zl ?_)))
 refine aj nmd [(3,16)] hng (by kernel_rfl) fun hf C S K hC1 hC hS hK=>?_;simp (disch:=first|omega|assumption) only [go_sem,List.length_map,hz0,decide_true,decide_false,ne_eq,not_true_eq_false,not_false_eq_true]
 (repeat' (first|(refine aD (fun hv=>?_) (fun hv=>?_)<;>(try simp only [zb1,zb2,zb3,zb4,zb5] at hv)<;>simp (disch:=first|omega|assumption) only [go_sem,hv,List.length_map,hz0,decide_true,decide_false,ne_eq,not_true_eq_false,not_false_eq_true])|(refine hK ?_;clear hK hS hC hC1 K S C hf)))
 all_goals first|contradiction|skip
 (repeat (first|(refine aq rfl rfl ?_)|(refine ar rfl rfl ?_)|(refine aj nmd [] hng (by kernel_rfl) fun hf C S K hC1 hC hS hK=>?_;simp (disch:=first|omega|assumption) only [go_sem];(repeat ((first|refine hC1 _ (eN _) (by simp (disch:=first|omega|assumption) only [go_sem]) ?_);simp (disch:=first|omega|assumption) only [go_sem]));refine hK ?_;clear hK hS hC hC1 K S C hf)|((first|refine zn ?_|refine ze ?_|refine zk ?_);with_reducible (constructor;repeat constructor);try refine zl ?_)))
 exact aA (ay (by simp (disch:=first|omega|assumption) only [go_sem,Res.av,bj]))
end Go.Proofs.YtfbnaalhioogoaaGreatDoor
namespace Go.Proofs.YtfbnaalhioogoaaGreatDoor
open Go Go.Ab Go.RowKit Go.Sort
set_option maxRecDepth 100000
theorem wv (s t:ByteArray) (B1 B2 a o k cap:Nat) (no:Bool) (m:Int) (W:World) (hn:k≤4000000) (hs:s.size < 4294967281)
  (h1:W.cell? ⟨B1,0,none⟩=some (.slice (some ⟨a,o,none⟩) (k+1) cap)) (h2:W.cell? ⟨a,o+k,none⟩=some (.string t)) (h3:W.cell? ⟨B2,0,none⟩=some (.bool no)) (h4:W.cell? ⟨0,0,none⟩=some (.int .i64 m)) :
  FnGives Tryz.prog 232 #[.pointer (some ⟨B1,0,none⟩),.pointer (some ⟨B2,0,none⟩)] #[.string s] (.bool (Lib.contains s.data.toList t.data.toList == no)) W:=by
 show Calls Tryz.prog 232 #[.string s,.pointer (some ⟨B1,0,none⟩),.pointer (some ⟨B2,0,none⟩)] W _
 have hwr:IntKind.i64.wrap (k:Int)=(k:Int):=by rw [IntKind.wrap_i64];omega
 have hix0:(0:Int)≤(k:Int):=by omega
 have hix1:(k:Int) < (k:Int)+1:=by omega
 have hix2:(k:Int) < ((k+1:Nat):Int):=by omega
 have hix3:k < k+1:=by omega
 go_enter Tryz.func232,Tryz.ntmps232
 go_wp2
 go_quiet ((go_at_call 233;exact Calls.quiet_of_same (Tryz.strings_Contains s t m _ hs h4)))
 go_wp2
 go_ret
 exact ⟨rfl,_,rfl⟩
abbrev ia:={ s:Str // s.length < 4294967281 }
instance:Inhabited ia:=⟨⟨[],by decide⟩⟩
def uK (s:ia):Value:=encStr s.1
theorem uL:∀ l:List Str,(∀ s ∈ l,s.length < 4294967281)→∃ ds:List ia,ds.map (·.1)=l
 | [],_=>⟨[],rfl⟩
 | s::l,h=>by
  obtain ⟨ds,hd⟩:=uL l fun t ht=>h t (List.mem_cons_of_mem _ ht)
  exact ⟨⟨s,h s List.mem_cons_self⟩::ds,by rw [List.map_cons,hd]⟩
theorem q9 (ds:List ia) (j:Nat) (hj:j < ds.length):uK ds.toArray[j]! = encStr (ds.map (·.1)).toArray[j]! := by
 have h2:j < (ds.map (·.1)).length:=by simpa using hj
 unfold uK
 rw [getElem!_pos ds.toArray j (by simpa using hj),getElem!_pos (ds.map (·.1)).toArray j (by simpa using hj)]
 simp
theorem uM (ds:List ia) (c:Array Value):putCells uK 0 ds.toArray c=putCells encStr 0 (ds.map (·.1)).toArray c:=by
 unfold putCells
 congr 1
 funext k v
 simp only [Nat.zero_le,true_and,Nat.zero_add,List.size_toArray,List.length_map,Nat.sub_zero]
 split
 ·rename_i hk;exact q9 ds k hk
 ·rfl
theorem zW (w:World) (b:Nat) (ds:List ia):putRow uK w b 0 ds.toArray=putRow encStr w b 0 (ds.map (·.1)).toArray:=by
 unfold putRow
 congr 1
 funext c
 exact uM ds c
def Ie (no:Bool) (u s:Str):Bool:=Lib.contains s u == no
theorem eL {w:World} {b o:Nat} {v:Value} (h:w.cell? ⟨b,o,none⟩=some v):b < w.heap.size:=by
 simp only [World.cell?] at h
 cases hb:w.heap[b]? with
 | none=>rw [hb] at h;simp at h
 | some ob=>exact (Array.getElem?_eq_some_iff.1 hb).1
theorem xK (l:List Str) (hl:¬ l=[]) (hls:l.length≤9223372036854775807) (hlm:∀ s ∈ l,s.length < 4294967281) (args:List Str) (k:Nat) (hk:args.length=k+1) (hk2:k≤4000000) (no:Bool) (id bx bn p:Oid) (hix:¬ id=bx) (hin:¬ id=bn) :
  af Tryz.prog 186 [.sl id 1 l.length,.fn (.func 232) [] [.ptr bx 0,.ptr bn 0]] (Oid.under p)
   ⟨[(id,.arr 1 (l.map .str)),(bx,.cells [.list 1 (args.map .str)]),(bn,.cells [.bool no])],.sl id 1 (l.filter fun s=>!Ie no (args.getD k []) s).length,[(id,some (.arr 1 ((l.filter fun s=>!Ie no (args.getD k []) s).map .str)))]⟩:=by
 have hfl:(l.filter fun s=>!Ie no (args.getD k []) s).length≤l.length:=List.length_filter_le _ _
 refine qK l (l.filter fun s=>!Ie no (args.getD k []) s) (List.replicate (l.length - (l.filter fun s=>!Ie no (args.getD k []) s).length) []) _ (by kernel_rfl) hl (by rw [List.length_replicate];omega) id p _
  (fun b cap=>.slice (some ⟨b,0,none⟩) (l.filter fun s=>!Ie no (args.getD k []) s).length cap) _ _ (fun g b cap h1 h2 h3=>.sl _ _ _ _ _ h1 (Nat.le_trans hfl h2) h3) ?_
 intro x g m av b cap w hm hx hn hmi hloc hcom hargs hv0 hH hb hcap
 have ht:=hm.told hx
 obtain ⟨mx,hmx⟩:=Cf ht
 have a1:=hargs.2 1 (by simp)
 simp only [List.getD_cons_succ,List.getD_cons_zero] at a1
 obtain ⟨fa,fb,hf,hfs,hbs,_,hfv⟩:=a1.iE
 have hfa:fa=#[]:=Array.eq_empty_of_size_eq_zero hfs
 have c0:=hfv 0 (by simp)
 have c1:=hfv 1 (by simp)
 simp only [List.getD_cons_succ,List.getD_cons_zero] at c0 c1
 obtain ⟨b1,hb1,l1⟩:=c0.dU
 obtain ⟨b2,hb2,l2⟩:=c1.dU
 have hfb:fb=#[.pointer (some ⟨b1,0,none⟩),.pointer (some ⟨b2,0,none⟩)]:=by
  have h2:fb.size=2:=hbs
  apply Array.ext
  ·rw [h2];rfl
  ·intro j h3 h4
   have h3':j < 2:=by omega
   rw [Array.getD_eq_getD_getElem?,Array.getElem?_eq_getElem (by omega)] at hb1 hb2
   match j,h3' with
   | 0,_=>simpa using hb1
   | 1,_=>simpa using hb2
 have hav:av=#[.slice (some ⟨b,0,none⟩) l.length cap,.func (.func 232) #[] #[.pointer (some ⟨b1,0,none⟩),.pointer (some ⟨b2,0,none⟩)]]:=by
  have h2:av.size=2:=hargs.1
  apply Array.ext
  ·rw [h2];rfl
  ·intro j h3 h4
   have h3':j < 2:=by omega
   rw [Array.getD_eq_getD_getElem?,Array.getElem?_eq_getElem (by omega)] at hv0
   rw [Array.getD_eq_getD_getElem?,Array.getElem?_eq_getElem (by omega)] at hf
   match j,h3' with
   | 0,_=>simpa using hv0
   | 1,_=>rw [hfa,hfb] at hf;simpa using hf
 have n1:=hn (bx,.cells [.list 1 (args.map .str)]) (by simp)
 have n2:=hn (bn,.cells [.bool no]) (by simp)
 obtain ⟨b1',e1,cm1,_,ob1⟩:=hm.gP n1 l1
 rw [l1] at e1;simp only [Option.some.injEq] at e1;subst e1
 obtain ⟨b2',e2,cm2,_,ob2⟩:=hm.gP n2 l2
 rw [l2] at e2;simp only [Option.some.injEq] at e2;subst e2
 have d1:b1≠b:=fun e=>hix (hm.inj _ _ _ _ b hmi n1 hloc (e ▸ l1))
 have d2:b2≠b:=fun e=>hin (hm.inj _ _ _ _ b hmi n2 hloc (e ▸ l2))
 obtain ⟨q1,t1,f1,g1,s1,_,v1⟩:=ob1
 obtain ⟨q2,t2,f2,g2,s2,_,v2⟩:=ob2
 have w1:=v1 0 (by simp)
 have w2:=v2 0 (by simp)
 simp only [List.getD_cons_zero] at w1 w2
 have hq2:w.cell? ⟨b2,0,none⟩=some (.bool no):=by
  have hs:q2.size=1:=s2
  have e:q2.getD 0 undef = .bool no:=by generalize q2.getD 0 undef=z at w2;cases w2;rfl
  rw [Array.getD_eq_getD_getElem?,Array.getElem?_eq_getElem (by omega),Option.getD_some] at e
  simp only [World.cell?,g2,Option.isSome_none,Bool.false_eq_true,if_false]
  rw [Array.getElem?_eq_getElem (by omega),e]
 rcases w1.eD with ⟨h0,_⟩|⟨a,o,cp,cs,e1,_,_,hc,hcv⟩
 ·exact absurd (congrArg List.length h0) (by rw [List.length_map,hk];simp)
 rw [List.length_map,hk] at e1 hc hcv
 have hq1:w.cell? ⟨b1,0,none⟩=some (.slice (some ⟨a,o,none⟩) (k+1) cp):=by
  have hs:q1.size=1:=s1
  rw [Array.getD_eq_getD_getElem?,Array.getElem?_eq_getElem (by omega),Option.getD_some] at e1
  simp only [World.cell?,g1,Option.isSome_none,Bool.false_eq_true,if_false]
  rw [Array.getElem?_eq_getElem (by omega),e1]
 have hgk:=hc k 0 (by omega) (by omega)
 have hvk:=hcv k 0 (by omega) (by omega)
 have hgd:(args.map AV.str).getD k .undef = .str (args.getD k []):=by simp [List.getD_eq_getElem?_getD,List.getElem?_map,List.getElem?_eq_getElem (show k < args.length by omega)]
 rw [hgd] at hvk
 simp only [AV.cells,List.getD_cons_zero] at hvk
 rw [Nat.mul_one,Nat.add_zero] at hgk
 have hck:=ht.com _ _ _ hgk
 rw [iN.1 hvk] at hck
 have da:a≠b:=fun e=>by rw [e,hcom] at hgk;cases hgk
 have dm:0≠b:=fun e=>by
  obtain ⟨_,_,⟨m',h7⟩,_⟩:=ht.facts
  rw [e,hcom] at h7;cases h7
 have gives:∀ (W:World) (y:ia),W.cell? ⟨b1,0,none⟩=w.cell? ⟨b1,0,none⟩→W.cell? ⟨a,o+k,none⟩=w.cell? ⟨a,o+k,none⟩→W.cell? ⟨b2,0,none⟩=w.cell? ⟨b2,0,none⟩→W.cell? ⟨0,0,none⟩=w.cell? ⟨0,0,none⟩ →
   FnGives Tryz.prog 232 #[.pointer (some ⟨b1,0,none⟩),.pointer (some ⟨b2,0,none⟩)] #[uK y] (.bool (Ie no (args.getD k []) y.1)) W:=fun W y h1 h2 h3 h4 =>
  wv ⟨y.1.toArray⟩ ⟨(args.getD k []).toArray⟩ b1 b2 a o k cp no mx W hk2 (by show y.1.toArray.size < _;simpa using y.2) (h1.trans hq1) (h2.trans hck) (h3.trans hq2) (h4.trans hmx)
 obtain ⟨ds,rfl⟩:=uL l hlm
 have eg:∀ args w,(callFunc 232 args).run Tryz.prog w = .ok (.enter 232 args) w:=enters_of Tryz.func232 (by kernel_rfl) rfl
 have hHs:Holds uK w b 0 ds.toArray:=fun j hj=>by
  have hj':j < ds.length:=by simpa using hj
  have:=hH j (by simpa using hj)
  rwa [← q9 ds j hj'] at this
 have con:=AnyE.slices_DeleteFunc Tryz.Del uK (fun _=>rfl) (fun y:ia=>Ie no (args.getD k []) y.1) 232 #[.pointer (some ⟨b1,0,none⟩),.pointer (some ⟨b2,0,none⟩)] eg default Tryz.zeroValue9 b 0 cap ds.toArray w
  (fun W y hb=>gives W y (hb.cell (eL hq1)) (hb.cell (eL hck)) (hb.cell (eL hq2)) (hb.cell (eL hmx)))
  (fun n os dk y _=>by
   have same:∀ b' o',b'≠b→b' < w.heap.size→(sortWorld uK w b 0 n dk os).cell? ⟨b',o',none⟩=w.cell? ⟨b',o',none⟩:=fun b' o' h1 h2=>by
    unfold sortWorld
    rw [cell?_grow _ _ _ (by show b' < (putRow _ _ _ _ _).heap.size;rw [size_putRow];exact h2),cell?_putRow_other _ _ b 0 _ _ (Or.inl h1)]
    rfl
   exact gives _ y (same _ _ d1 (eL hq1)) (same _ _ da (eL hck)) (same _ _ d2 (eL hq2)) (same _ _ dm (eL hmx)))
  hHs (by simpa using hls) (by simpa using hcap)
 change Calls Tryz.prog 186 _ _ _ at con
 rw [hav]
 have hsz:ds.toArray.size=(ds.map (·.1)).length:=by simp
 rw [hsz] at con
 refine con.mono ?_
 rintro e w' ⟨rfl,q,rfl⟩
 have hfm:(ds.filter fun y:ia=>!Ie no (args.getD k []) y.1).map (·.1)=(ds.map (·.1)).filter fun s=>!Ie no (args.getD k []) s:=by rw [List.filter_map];rfl
 have hfl2:(ds.filter fun y:ia=>!Ie no (args.getD k []) y.1).length=((ds.map (·.1)).filter fun s=>!Ie no (args.getD k []) s).length:=by rw [← hfm,List.length_map]
 refine ⟨by rw [← hfl2],q,#[],?_⟩
 rw [zW,jV,List.map_append,List.map_replicate]
 simp only [hfl2]
 rw [hfm];rfl
end Go.Proofs.YtfbnaalhioogoaaGreatDoor
namespace Go.Proofs.YtfbnaalhioogoaaGreatDoor
open Go Go.Ab
set_option maxRecDepth 20000
set_option maxHeartbeats 4000000
def Ig (args:List Str) (no:Bool) (u:Str):Prop:=(args=[u]∧no=false)∨(args=[[45,118],u]∧no=true)
def fS (no:Bool) (u t:Str):List Str:=(aC t).filter fun s=>!Ie no u s
def rb (no:Bool) (u t:Str):Res:=if fS no u t=[] then ⟨1,[],[]⟩ else a6 (aQ (fS no u t))
theorem wx (args:List Str):(∃ no u,Ig args no u)∨(¬ args.length=1∧∀ u,¬ args=[[45,118],u]):=by
 match args with
 | []=>exact .inr ⟨by simp,fun u h=>by cases h⟩
 | [u]=>exact .inl ⟨false,u,.inl ⟨rfl,rfl⟩⟩
 | [a,u] =>
  by_cases ha:a=[45,118]
  ·exact .inl ⟨true,u,.inr ⟨by rw [ha],rfl⟩⟩
  ·exact .inr ⟨by simp,fun u h=>ha (by rw [List.cons.injEq] at h;exact h.1)⟩
 | a::b::c::r=>exact .inr ⟨by simp,fun u h=>by simp at h⟩
theorem Lf (f:AV) (p:Oid):af Tryz.prog 259 [.nilSl,f] (Oid.under p) ⟨[],.int .i64 (-1),[]⟩:=by
 refine aJ (n:=19) (rs:=[.tmp 4]) Tryz.func259 rfl rfl (by decide) rfl rfl rfl ?_;rintro x rfl hrd hng
 (repeat (first|(refine aq rfl rfl ?_)|(refine ar rfl rfl ?_)|(refine aj nmd [] hng (by kernel_rfl) fun hf C S K hC1 hC hS hK=>?_;simp (disch:=first|omega|assumption) only [go_sem];refine hK ?_;clear hK hS hC hC1 K S C hf)|((first|refine zn ?_|refine ze ?_|refine zk ?_);with_reducible (constructor;repeat constructor);try refine zl ?_)))
 refine bm [7,8] (fun k s'=>∃ c:Nat,k=0∧s' = ⟨[(7,.int .i64 0),(8,.int .i64 0)],Mem.of [],c,[]⟩) _ ⟨_,rfl,rfl⟩ ?_
 rintro k s' ⟨c,rfl,rfl⟩
 (repeat (first|(refine aq rfl rfl ?_)|(refine ar rfl rfl ?_)|(refine aj nmd [] hng (by kernel_rfl) fun hf C S K hC1 hC hS hK=>?_;simp (disch:=first|omega|assumption) only [go_sem];refine hK ?_;clear hK hS hC hC1 K S C hf)|((first|refine zn ?_|refine ze ?_|refine zk ?_);with_reducible (constructor;repeat constructor);try refine zl ?_)))
 exact aA (bd rfl)
theorem xL (f:AV) (p:Oid):af Tryz.prog 186 [.nilSl,f] (Oid.under p) ⟨[],.nilSl,[]⟩:=by
 refine aJ (n:=42) (rs:=[.tmp 4]) Tryz.func186 rfl rfl (by decide) rfl rfl rfl ?_;rintro x rfl hrd hng
 (repeat (first|(refine aq rfl rfl ?_)|(refine ar rfl rfl ?_)|(refine aj nmd [] hng (by kernel_rfl) fun hf C S K hC1 hC hS hK=>?_;simp (disch:=first|omega|assumption) only [go_sem];(repeat ((first|refine hC1 _ (Lf _ _) (by simp (disch:=first|omega|assumption) only [go_sem]) ?_);simp (disch:=first|omega|assumption) only [go_sem]));refine hK ?_;clear hK hS hC hC1 K S C hf)|((first|refine zn ?_|refine ze ?_|refine zk ?_);with_reducible (constructor;repeat constructor);try refine zl ?_)))
 exact aA (bd rfl)
theorem wy (l:List Str) (i:Nat):(l.getD i default).length≤(aQ l).length:=by
 rw [List.getD_eq_getElem?_getD]
 induction l generalizing i with
 | nil=>simp;exact Nat.zero_le _
 | cons s l ih =>
  cases i with
  | zero=>simp only [List.getElem?_cons_zero,Option.getD_some,aQ,List.length_append];omega
  | succ i=>have:=ih i;simp only [List.getElem?_cons_succ,aQ,List.length_append];omega
theorem Hc (args:List Str) (no:Bool) (u:Str) (h:Ig args no u) (t:Str) (htl:t.length≤4000000) (p:Oid) :
  af Tryz.prog 150 [.list 1 (args.map AV.str),.str t] (Oid.under p) ⟨[],.tuple [(rb no u t).av,.bool true],[]⟩:=by
 have hjl:=dC t
 have hjn:=eB (aC t)
 have hlm:∀ s ∈ aC t,s.length < 4294967281:=fun s hs=>by
  obtain ⟨i,hi,he⟩:=List.mem_iff_getElem.1 hs
  have h1:=wy (aC t) i
  rw [List.getD_eq_getElem?_getD,List.getElem?_eq_getElem hi,he] at h1
  simp only [Option.getD_some] at h1
  omega
 have hrw:(aQ (fS no u t)).length≤(aQ (aC t)).length:=j5 List.filter_sublist
 rcases h with ⟨rfl,rfl⟩|⟨rfl,rfl⟩
 ·by_cases h0:t=[]
  ·subst h0
   rw [show rb false u []=⟨1,[],[]⟩ from rfl]
   refine aJ (n:=40) (rs:=[.cell 4 45,.tmp 5]) Tryz.func150 rfl rfl (by decide) rfl rfl rfl ?_;rintro x rfl hrd hng
   (try ((first|refine zn ?_|refine ze ?_|refine zk ?_);with_reducible (constructor;repeat constructor));try refine zl ?_)
   refine aj nmd [] hng (by kernel_rfl) fun hf C S K hC1 hC hS hK=>?_;simp (disch:=first|omega|assumption) only [go_sem]
   refine hK ?_;clear hK hS hC hC1 K S C hf
   (try ((first|refine zn ?_|refine ze ?_|refine zk ?_);with_reducible (constructor;repeat constructor));try refine zl ?_)
   refine aj nmd [(3,11)] hng (by kernel_rfl) fun hf C S K hC1 hC hS hK=>?_;simp (disch:=first|omega|assumption) only [go_sem,decide_true,decide_false,ne_eq,not_true_eq_false,not_false_eq_true]
   (repeat' (first|(refine aD (fun hv=>?_) (fun hv=>?_)<;>(try simp only [zb1,zb2,zb3,zb4,zb5] at hv)<;>simp (disch:=first|omega|assumption) only [go_sem,hv,decide_true,decide_false,ne_eq,not_true_eq_false,not_false_eq_true])|(refine hK ?_;clear hK hS hC hC1 K S C hf)))
   all_goals first|contradiction|exact absurd rfl hv|skip
   (try ((first|refine zn ?_|refine ze ?_|refine zk ?_);with_reducible (constructor;repeat constructor));try refine zl ?_)
   refine aj nmd [(3,20)] hng (by kernel_rfl) fun hf C S K hC1 hC hS hK=>?_;simp (disch:=first|omega|assumption) only [go_sem,decide_true,decide_false,ne_eq,not_true_eq_false,not_false_eq_true]
   (repeat' (first|(refine aD (fun hv=>?_) (fun hv=>?_)<;>(try simp only [zb1,zb2,zb3,zb4,zb5] at hv)<;>simp (disch:=first|omega|assumption) only [go_sem,hv,decide_true,decide_false,ne_eq,not_true_eq_false,not_false_eq_true])|(refine hK ?_;clear hK hS hC hC1 K S C hf)))
   all_goals first|contradiction|exact absurd rfl hv|skip
   (repeat (first|(refine aq rfl rfl ?_)|(refine ar rfl rfl ?_)|(refine aj nmd [] hng (by kernel_rfl) fun hf C S K hC1 hC hS hK=>?_;simp (disch:=first|omega|assumption) only [go_sem];(repeat ((first|refine hC1 _ (eX _) (by simp (disch:=first|omega|assumption) only [go_sem]) ?_|refine hC1 _ (xL _ _) (by simp (disch:=first|omega|assumption) only [go_sem]) ?_);simp (disch:=first|omega|assumption) only [go_sem]));refine hK ?_;clear hK hS hC hC1 K S C hf)|((first|refine zn ?_|refine ze ?_|refine zk ?_);with_reducible (constructor;repeat constructor);try refine zl ?_)))
   exact aA (ay (by simp (disch:=first|omega|assumption) only [go_sem,Res.av,a6,bj,bh]))
  ·have hne:=j6 h0
   have hD:∀ id bx bn p,¬ id=bx→¬ id=bn→af Tryz.prog 186 [.sl id 1 (aC t).length,.fn (.func 232) [] [.ptr bx 0,.ptr bn 0]] (Oid.under p)
     ⟨[(id,.arr 1 ((aC t).map .str)),(bx,.cells [.list 1 [.str u]]),(bn,.cells [.bool false])],.sl id 1 (fS false u t).length,[(id,some (.arr 1 ((fS false u t).map .str)))]⟩ :=
    fun id bx bn p h1 h2=>xK (aC t) hne (by omega) hlm [u] 0 rfl (by omega) false id bx bn p h1 h2
   unfold rb
   generalize fS false u t=row at hD hrw
   refine aJ (n:=40) (rs:=[.cell 4 45,.tmp 5]) Tryz.func150 rfl rfl (by decide) rfl rfl rfl ?_;rintro x rfl hrd hng
   (try ((first|refine zn ?_|refine ze ?_|refine zk ?_);with_reducible (constructor;repeat constructor));try refine zl ?_)
   refine aj nmd [] hng (by kernel_rfl) fun hf C S K hC1 hC hS hK=>?_;simp (disch:=first|omega|assumption) only [go_sem]
   refine hK ?_;clear hK hS hC hC1 K S C hf
   (try ((first|refine zn ?_|refine ze ?_|refine zk ?_);with_reducible (constructor;repeat constructor));try refine zl ?_)
   refine aj nmd [(3,11)] hng (by kernel_rfl) fun hf C S K hC1 hC hS hK=>?_;simp (disch:=first|omega|assumption) only [go_sem,decide_true,decide_false,ne_eq,not_true_eq_false,not_false_eq_true]
   (repeat' (first|(refine aD (fun hv=>?_) (fun hv=>?_)<;>(try simp only [zb1,zb2,zb3,zb4,zb5] at hv)<;>simp (disch:=first|omega|assumption) only [go_sem,hv,decide_true,decide_false,ne_eq,not_true_eq_false,not_false_eq_true])|(refine hK ?_;clear hK hS hC hC1 K S C hf)))
   all_goals first|contradiction|exact absurd rfl hv|skip
   (try ((first|refine zn ?_|refine ze ?_|refine zk ?_);with_reducible (constructor;repeat constructor));try refine zl ?_)
   refine aj nmd [(3,20)] hng (by kernel_rfl) fun hf C S K hC1 hC hS hK=>?_;simp (disch:=first|omega|assumption) only [go_sem,decide_true,decide_false,ne_eq,not_true_eq_false,not_false_eq_true]
   (repeat' (first|(refine aD (fun hv=>?_) (fun hv=>?_)<;>(try simp only [zb1,zb2,zb3,zb4,zb5] at hv)<;>simp (disch:=first|omega|assumption) only [go_sem,hv,decide_true,decide_false,ne_eq,not_true_eq_false,not_false_eq_true])|(refine hK ?_;clear hK hS hC hC1 K S C hf)))
   all_goals first|contradiction|exact absurd rfl hv|skip
   (repeat (first|(refine aq rfl rfl ?_)|(refine ar rfl rfl ?_)|(refine aj nmd [] hng (by kernel_rfl) fun hf C S K hC1 hC hS hK=>?_;simp (disch:=first|omega|assumption) only [go_sem];(repeat ((first|refine hC1 _ (gz t h0 (by omega) _) (by simp (disch:=first|omega|assumption) only [go_sem]) ?_|refine hC1 _ (hD _ _ _ _ (by simp [lL]) (by simp [lL])) (by simp (disch:=first|omega|assumption) only [go_sem]) ?_);simp (disch:=first|omega|assumption) only [go_sem]));refine hK ?_;clear hK hS hC hC1 K S C hf)|((first|refine zn ?_|refine ze ?_|refine zk ?_);with_reducible (constructor;repeat constructor);try refine zl ?_)))
   refine aX rfl rfl (fun hb=>?_) (fun hb=>?_)
   ·have hr:row=[]:=List.eq_nil_of_length_eq_zero (by omega)
    subst hr
    rw [if_pos rfl]
    (repeat (first|(refine aq rfl rfl ?_)|(refine ar rfl rfl ?_)|(refine aj nmd [] hng (by kernel_rfl) fun hf C S K hC1 hC hS hK=>?_;simp (disch:=first|omega|assumption) only [go_sem];refine hK ?_;clear hK hS hC hC1 K S C hf)|((first|refine zn ?_|refine ze ?_|refine zk ?_);with_reducible (constructor;repeat constructor);try refine zl ?_)))
    exact aA (ay (by simp (disch:=first|omega|assumption) only [go_sem,Res.av,a6,bj,bh]))
   ·have hr:¬ row=[]:=fun e=>hb (by rw [e];rfl)
    rw [if_neg hr]
    (try ((first|refine zn ?_|refine ze ?_|refine zk ?_);with_reducible (constructor;repeat constructor));try refine zl ?_)
    refine cI (nj (.sub 3 1 x.p)) 1 (row.map AV.str) (by simp (disch:=first|omega|assumption) only [go_sem]) ?_
    simp (disch:=first|omega|assumption) only [go_sem,List.length_map]
    (repeat (first|(refine aq rfl rfl ?_)|(refine ar rfl rfl ?_)|(refine aj nmd [] hng (by kernel_rfl) fun hf C S K hC1 hC hS hK=>?_;simp (disch:=first|omega|assumption) only [go_sem];(repeat ((first|refine hC1 _ (cS row (by omega) _) (by simp (disch:=first|omega|assumption) only [go_sem]) ?_|refine hC1 _ (bY (aQ row) _) (by simp (disch:=first|omega|assumption) only [go_sem]) ?_);simp (disch:=first|omega|assumption) only [go_sem]));refine hK ?_;clear hK hS hC hC1 K S C hf)|((first|refine zn ?_|refine ze ?_|refine zk ?_);with_reducible (constructor;repeat constructor);try refine zl ?_)))
    exact aA (ay (by simp (disch:=first|omega|assumption) only [go_sem,Res.av,a6,bj,bh]))
 ·by_cases h0:t=[]
  ·subst h0
   rw [show rb true u []=⟨1,[],[]⟩ from rfl]
   refine aJ (n:=40) (rs:=[.cell 4 45,.tmp 5]) Tryz.func150 rfl rfl (by decide) rfl rfl rfl ?_;rintro x rfl hrd hng
   (try ((first|refine zn ?_|refine ze ?_|refine zk ?_);with_reducible (constructor;repeat constructor));try refine zl ?_)
   refine aj nmd [] hng (by kernel_rfl) fun hf C S K hC1 hC hS hK=>?_;simp (disch:=first|omega|assumption) only [go_sem]
   refine hK ?_;clear hK hS hC hC1 K S C hf
   (try ((first|refine zn ?_|refine ze ?_|refine zk ?_);with_reducible (constructor;repeat constructor));try refine zl ?_)
   refine aj nmd [(3,11)] hng (by kernel_rfl) fun hf C S K hC1 hC hS hK=>?_;simp (disch:=first|omega|assumption) only [go_sem,decide_true,decide_false,ne_eq,not_true_eq_false,not_false_eq_true]
   (repeat' (first|(refine aD (fun hv=>?_) (fun hv=>?_)<;>(try simp only [zb1,zb2,zb3,zb4,zb5] at hv)<;>simp (disch:=first|omega|assumption) only [go_sem,hv,decide_true,decide_false,ne_eq,not_true_eq_false,not_false_eq_true])|(refine hK ?_;clear hK hS hC hC1 K S C hf)))
   all_goals first|contradiction|exact absurd rfl hv|skip
   (try ((first|refine zn ?_|refine ze ?_|refine zk ?_);with_reducible (constructor;repeat constructor));try refine zl ?_)
   refine aj nmd [(3,20)] hng (by kernel_rfl) fun hf C S K hC1 hC hS hK=>?_;simp (disch:=first|omega|assumption) only [go_sem,decide_true,decide_false,ne_eq,not_true_eq_false,not_false_eq_true]
   (repeat' (first|(refine aD (fun hv=>?_) (fun hv=>?_)<;>(try simp only [zb1,zb2,zb3,zb4,zb5] at hv)<;>simp (disch:=first|omega|assumption) only [go_sem,hv,decide_true,decide_false,ne_eq,not_true_eq_false,not_false_eq_true])|(refine hK ?_;clear hK hS hC hC1 K S C hf)))
   all_goals first|contradiction|exact absurd rfl hv|skip
   (repeat (first|(refine aq rfl rfl ?_)|(refine ar rfl rfl ?_)|(refine aj nmd [] hng (by kernel_rfl) fun hf C S K hC1 hC hS hK=>?_;simp (disch:=first|omega|assumption) only [go_sem];(repeat ((first|refine hC1 _ (eX _) (by simp (disch:=first|omega|assumption) only [go_sem]) ?_|refine hC1 _ (xL _ _) (by simp (disch:=first|omega|assumption) only [go_sem]) ?_);simp (disch:=first|omega|assumption) only [go_sem]));refine hK ?_;clear hK hS hC hC1 K S C hf)|((first|refine zn ?_|refine ze ?_|refine zk ?_);with_reducible (constructor;repeat constructor);try refine zl ?_)))
   exact aA (ay (by simp (disch:=first|omega|assumption) only [go_sem,Res.av,a6,bj,bh]))
  ·have hne:=j6 h0
   have hD:∀ id bx bn p,¬ id=bx→¬ id=bn→af Tryz.prog 186 [.sl id 1 (aC t).length,.fn (.func 232) [] [.ptr bx 0,.ptr bn 0]] (Oid.under p)
     ⟨[(id,.arr 1 ((aC t).map .str)),(bx,.cells [.list 1 [.str [45,118],.str u]]),(bn,.cells [.bool true])],.sl id 1 (fS true u t).length,[(id,some (.arr 1 ((fS true u t).map .str)))]⟩ :=
    fun id bx bn p h1 h2=>xK (aC t) hne (by omega) hlm [[45,118],u] 1 rfl (by omega) true id bx bn p h1 h2
   unfold rb
   generalize fS true u t=row at hD hrw
   refine aJ (n:=40) (rs:=[.cell 4 45,.tmp 5]) Tryz.func150 rfl rfl (by decide) rfl rfl rfl ?_;rintro x rfl hrd hng
   (try ((first|refine zn ?_|refine ze ?_|refine zk ?_);with_reducible (constructor;repeat constructor));try refine zl ?_)
   refine aj nmd [] hng (by kernel_rfl) fun hf C S K hC1 hC hS hK=>?_;simp (disch:=first|omega|assumption) only [go_sem]
   refine hK ?_;clear hK hS hC hC1 K S C hf
   (try ((first|refine zn ?_|refine ze ?_|refine zk ?_);with_reducible (constructor;repeat constructor));try refine zl ?_)
   refine aj nmd [(3,11)] hng (by kernel_rfl) fun hf C S K hC1 hC hS hK=>?_;simp (disch:=first|omega|assumption) only [go_sem,decide_true,decide_false,ne_eq,not_true_eq_false,not_false_eq_true]
   (repeat' (first|(refine aD (fun hv=>?_) (fun hv=>?_)<;>(try simp only [zb1,zb2,zb3,zb4,zb5] at hv)<;>simp (disch:=first|omega|assumption) only [go_sem,hv,decide_true,decide_false,ne_eq,not_true_eq_false,not_false_eq_true])|(refine hK ?_;clear hK hS hC hC1 K S C hf)))
   all_goals first|contradiction|exact absurd rfl hv|skip
   (try ((first|refine zn ?_|refine ze ?_|refine zk ?_);with_reducible (constructor;repeat constructor));try refine zl ?_)
   refine aj nmd [(3,20)] hng (by kernel_rfl) fun hf C S K hC1 hC hS hK=>?_;simp (disch:=first|omega|assumption) only [go_sem,decide_true,decide_false,ne_eq,not_true_eq_false,not_false_eq_true]
   (repeat' (first|(refine aD (fun hv=>?_) (fun hv=>?_)<;>(try simp only [zb1,zb2,zb3,zb4,zb5] at hv)<;>simp (disch:=first|omega|assumption) only [go_sem,hv,decide_true,decide_false,ne_eq,not_true_eq_false,not_false_eq_true])|(refine hK ?_;clear hK hS hC hC1 K S C hf)))
   all_goals first|contradiction|exact absurd rfl hv|skip
   (repeat (first|(refine aq rfl rfl ?_)|(refine ar rfl rfl ?_)|(refine aj nmd [] hng (by kernel_rfl) fun hf C S K hC1 hC hS hK=>?_;simp (disch:=first|omega|assumption) only [go_sem];(repeat ((first|refine hC1 _ (gz t h0 (by omega) _) (by simp (disch:=first|omega|assumption) only [go_sem]) ?_|refine hC1 _ (hD _ _ _ _ (by simp [lL]) (by simp [lL])) (by simp (disch:=first|omega|assumption) only [go_sem]) ?_);simp (disch:=first|omega|assumption) only [go_sem]));refine hK ?_;clear hK hS hC hC1 K S C hf)|((first|refine zn ?_|refine ze ?_|refine zk ?_);with_reducible (constructor;repeat constructor);try refine zl ?_)))
   refine aX rfl rfl (fun hb=>?_) (fun hb=>?_)
   ·have hr:row=[]:=List.eq_nil_of_length_eq_zero (by omega)
    subst hr
    rw [if_pos rfl]
    (repeat (first|(refine aq rfl rfl ?_)|(refine ar rfl rfl ?_)|(refine aj nmd [] hng (by kernel_rfl) fun hf C S K hC1 hC hS hK=>?_;simp (disch:=first|omega|assumption) only [go_sem];refine hK ?_;clear hK hS hC hC1 K S C hf)|((first|refine zn ?_|refine ze ?_|refine zk ?_);with_reducible (constructor;repeat constructor);try refine zl ?_)))
    exact aA (ay (by simp (disch:=first|omega|assumption) only [go_sem,Res.av,a6,bj,bh]))
   ·have hr:¬ row=[]:=fun e=>hb (by rw [e];rfl)
    rw [if_neg hr]
    (try ((first|refine zn ?_|refine ze ?_|refine zk ?_);with_reducible (constructor;repeat constructor));try refine zl ?_)
    refine cI (nj (.sub 3 1 x.p)) 1 (row.map AV.str) (by simp (disch:=first|omega|assumption) only [go_sem]) ?_
    simp (disch:=first|omega|assumption) only [go_sem,List.length_map]
    (repeat (first|(refine aq rfl rfl ?_)|(refine ar rfl rfl ?_)|(refine aj nmd [] hng (by kernel_rfl) fun hf C S K hC1 hC hS hK=>?_;simp (disch:=first|omega|assumption) only [go_sem];(repeat ((first|refine hC1 _ (cS row (by omega) _) (by simp (disch:=first|omega|assumption) only [go_sem]) ?_|refine hC1 _ (bY (aQ row) _) (by simp (disch:=first|omega|assumption) only [go_sem]) ?_);simp (disch:=first|omega|assumption) only [go_sem]));refine hK ?_;clear hK hS hC hC1 K S C hf)|((first|refine zn ?_|refine ze ?_|refine zk ?_);with_reducible (constructor;repeat constructor);try refine zl ?_)))
    exact aA (ay (by simp (disch:=first|omega|assumption) only [go_sem,Res.av,a6,bj,bh]))
theorem Dj (args:List Str) (h:¬ args.length=1∧∀ u,¬ args=[[45,118],u]) (t:Str) (p:Oid) :
  af Tryz.prog 150 [.list 1 (args.map AV.str),.str t] (Oid.under p) ⟨[],.tuple [bj.av,.bool false],[]⟩:=by
 have hz1:((args.length:Int)=1)=False:=eq_false (by omega)
 by_cases h2:args.length=2
 ·match args,h2,h with
  | [a,b],_,h =>
   have ha:(a=[45,118])=False:=eq_false fun e=>h.2 b (by rw [e])
   refine aJ (n:=40) (rs:=[.cell 4 45,.tmp 5]) Tryz.func150 rfl rfl (by decide) rfl rfl rfl ?_;rintro x rfl hrd hng
   (try ((first|refine zn ?_|refine ze ?_|refine zk ?_);with_reducible (constructor;repeat constructor));try refine zl ?_)
   refine aj nmd [] hng (by kernel_rfl) fun hf C S K hC1 hC hS hK=>?_;simp (disch:=first|omega|assumption) only [go_sem]
   refine hK ?_;clear hK hS hC hC1 K S C hf
   (try ((first|refine zn ?_|refine ze ?_|refine zk ?_);with_reducible (constructor;repeat constructor));try refine zl ?_)
   refine aj nmd [(3,11)] hng (by kernel_rfl) fun hf C S K hC1 hC hS hK=>?_;simp (disch:=first|omega|assumption) only [go_sem,ha,decide_true,decide_false,ne_eq,not_true_eq_false,not_false_eq_true]
   (repeat' (first|(refine aD (fun hv=>?_) (fun hv=>?_)<;>(try simp only [zb1,zb2,zb3,zb4,zb5] at hv)<;>simp (disch:=first|omega|assumption) only [go_sem,hv,ha,decide_true,decide_false,ne_eq,not_true_eq_false,not_false_eq_true])|(refine hK ?_;clear hK hS hC hC1 K S C hf)))
   all_goals first|contradiction|skip
   (try ((first|refine zn ?_|refine ze ?_|refine zk ?_);with_reducible (constructor;repeat constructor));try refine zl ?_)
   refine aj nmd [(3,20)] hng (by kernel_rfl) fun hf C S K hC1 hC hS hK=>?_;simp (disch:=first|omega|assumption) only [go_sem,decide_true,decide_false,ne_eq,not_true_eq_false,not_false_eq_true]
   (repeat' (first|(refine aD (fun hv=>?_) (fun hv=>?_)<;>(try simp only [zb1,zb2,zb3,zb4,zb5] at hv)<;>simp (disch:=first|omega|assumption) only [go_sem,hv,decide_true,decide_false,ne_eq,not_true_eq_false,not_false_eq_true])|(refine hK ?_;clear hK hS hC hC1 K S C hf)))
   all_goals first|contradiction|skip
   (repeat (first|(refine aq rfl rfl ?_)|(refine ar rfl rfl ?_)|(refine aj nmd [] hng (by kernel_rfl) fun hf C S K hC1 hC hS hK=>?_;simp (disch:=first|omega|assumption) only [go_sem];(repeat ((first|refine hC1 _ (eN _) (by simp (disch:=first|omega|assumption) only [go_sem]) ?_);simp (disch:=first|omega|assumption) only [go_sem]));refine hK ?_;clear hK hS hC hC1 K S C hf)|((first|refine zn ?_|refine ze ?_|refine zk ?_);with_reducible (constructor;repeat constructor);try refine zl ?_)))
   exact aA (ay (by simp (disch:=first|omega|assumption) only [go_sem,Res.av,bj]))
 ·have hz2:((args.length:Int)=2)=False:=eq_false (by omega)
  refine aJ (n:=40) (rs:=[.cell 4 45,.tmp 5]) Tryz.func150 rfl rfl (by decide) rfl rfl rfl ?_;rintro x rfl hrd hng
  (try ((first|refine zn ?_|refine ze ?_|refine zk ?_);with_reducible (constructor;repeat constructor));try refine zl ?_)
  refine aj nmd [] hng (by kernel_rfl) fun hf C S K hC1 hC hS hK=>?_;simp (disch:=first|omega|assumption) only [go_sem]
  refine hK ?_;clear hK hS hC hC1 K S C hf
  (try ((first|refine zn ?_|refine ze ?_|refine zk ?_);with_reducible (constructor;repeat constructor));try refine zl ?_)
  refine aj nmd [(3,11)] hng (by kernel_rfl) fun hf C S K hC1 hC hS hK=>?_;simp (disch:=first|omega|assumption) only [go_sem,List.length_map,hz2,decide_true,decide_false,ne_eq,not_true_eq_false,not_false_eq_true]
  (repeat' (first|(refine aD (fun hv=>?_) (fun hv=>?_)<;>(try simp only [zb1,zb2,zb3,zb4,zb5] at hv)<;>simp (disch:=first|omega|assumption) only [go_sem,hv,List.length_map,hz2,decide_true,decide_false,ne_eq,not_true_eq_false,not_false_eq_true])|(refine hK ?_;clear hK hS hC hC1 K S C hf)))
  all_goals first|contradiction|skip
  (try ((first|refine zn ?_|refine ze ?_|refine zk ?_);with_reducible (constructor;repeat constructor));try refine zl ?_)
  refine aj nmd [(3,20)] hng (by kernel_rfl) fun hf C S K hC1 hC hS hK=>?_;simp (disch:=first|omega|assumption) only [go_sem,List.length_map,hz1,decide_true,decide_false,ne_eq,not_true_eq_false,not_false_eq_true]
  (repeat' (first|(refine aD (fun hv=>?_) (fun hv=>?_)<;>(try simp only [zb1,zb2,zb3,zb4,zb5] at hv)<;>simp (disch:=first|omega|assumption) only [go_sem,hv,List.length_map,hz1,decide_true,decide_false,ne_eq,not_true_eq_false,not_false_eq_true])|(refine hK ?_;clear hK hS hC hC1 K S C hf)))
  all_goals first|contradiction|skip
  (repeat (first|(refine aq rfl rfl ?_)|(refine ar rfl rfl ?_)|(refine aj nmd [] hng (by kernel_rfl) fun hf C S K hC1 hC hS hK=>?_;simp (disch:=first|omega|assumption) only [go_sem];(repeat ((first|refine hC1 _ (eN _) (by simp (disch:=first|omega|assumption) only [go_sem]) ?_);simp (disch:=first|omega|assumption) only [go_sem]));refine hK ?_;clear hK hS hC hC1 K S C hf)|((first|refine zn ?_|refine ze ?_|refine zk ?_);with_reducible (constructor;repeat constructor);try refine zl ?_)))
  exact aA (ay (by simp (disch:=first|omega|assumption) only [go_sem,Res.av,bj]))
end Go.Proofs.YtfbnaalhioogoaaGreatDoor
namespace Go.Proofs.YtfbnaalhioogoaaGreatDoor
open Go Go.Ab
set_option maxRecDepth 20000
set_option maxHeartbeats 2000000
def jH (b:UInt8):Bool:=decide (b.toNat=32) || decide (b.toNat=9) || decide (b.toNat=10)
def bq:Bool→Str→Nat
 | _,[]=>0
 | was,b::s=>(if was=true∧jH b=false then 1 else 0)+bq (jH b) s
theorem mZ:∀ (j:Nat) (l:Str),j≤l.length→(∀ i,i < j→jH (l.getD i 0)=false)→bq false l=bq false (l.drop j)
 | 0,_,_,_=>rfl
 | j+1,[],h,_=>absurd h (by simp)
 | j+1,b::l,h,h2=>by
  have h0:jH b=false:=h2 0 (by omega)
  rw [bq,h0,if_neg (by simp),Nat.zero_add,List.drop_succ_cons]
  exact mZ j l (by simpa using h) fun i hi=>by simpa using h2 (i+1) (by omega)
theorem eC:∀ (l:Str) (w:Bool),bq w l≤l.length
 | [],_=>Nat.le_refl _
 | b::l,w=>by
  have:=eC l (jH b)
  rw [bq,List.length_cons];split<;>omega
theorem uN (s:ByteArray) (pos:Nat) (h:pos < s.size):∀ j,1≤j→j < (Utf8.decode s pos).2→pos+j < s.size∧128≤(s.get! (pos+j)).toNat:=by
 intro j h1 h2
 simp only [Utf8.decode] at h2
 by_cases c1:(s.get! (pos+0)).toNat < 128
 ·rw [if_pos c1] at h2;simp only at h2;omega
 ·rw [if_neg c1] at h2
  repeat' (split at h2)
  all_goals simp only [Bool.and_eq_true,decide_eq_true_eq,beq_iff_eq] at *
  all_goals first
   | (exfalso;omega)
   | (rcases (show j=1∨j=2∨j=3 by omega) with rfl|rfl|rfl<;>first|(exfalso;omega)|exact ⟨by omega,by omega⟩)
def iT (s:Str) (pos:Nat):Nat:=(Utf8.decode ⟨s.toArray⟩ pos).1
def fq (s:Str) (pos:Nat):Nat:=(Utf8.decode ⟨s.toArray⟩ pos).2
def iU (c:Nat):Bool:=decide (c=32) || decide (c=9) || decide (c=10)
theorem Dk (s:Str) (i:Nat):(ByteArray.mk s.toArray).get! i=s.getD i 0:=by
 show s.toArray[i]! = _
 by_cases h:i < s.length
 ·simp [List.getD_eq_getElem?_getD,List.getElem?_eq_getElem h,h]
 ·simp [List.getD_eq_getElem?_getD,List.getElem?_eq_none (Nat.le_of_not_lt h),h];rfl
theorem wz (s:Str) (i k:Nat):(s.drop i).getD k 0=s.getD (i+k) 0:=by
 simp [List.getD_eq_getElem?_getD,List.getElem?_drop]
theorem zX (s:Str) (pos:Nat) (h:pos < s.length) (was:Bool) :
  1≤fq s pos∧pos+fq s pos≤s.length∧bq was (s.drop pos)=(if was=true∧iU (iT s pos)=false then 1 else 0)+bq (iU (iT s pos)) (s.drop (pos+fq s pos)):=by
 have hsz:(ByteArray.mk s.toArray).size=s.length:=by show s.toArray.size=_;simp
 have hp:pos < (ByteArray.mk s.toArray).size:=by rw [hsz];exact h
 have hg:(ByteArray.mk s.toArray)[pos]'hp=s.getD pos 0:=by rw [← get_at _ pos hp,Nat.add_zero,Dk]
 have hd:s.drop pos=s.getD pos 0::s.drop (pos+1):=vE h
 by_cases ha:(s.getD pos 0).toNat < 128
 ·have e:=decode_ascii ⟨s.toArray⟩ pos hp (by rw [hg];exact ha)
  rw [hg] at e
  have e1:iT s pos=(s.getD pos 0).toNat:=by unfold iT;rw [e]
  have e2:fq s pos=1:=by unfold fq;rw [e]
  rw [e1,e2,hd,bq]
  exact ⟨Nat.le_refl _,by omega,rfl⟩
 ·have hh:=decode_high ⟨s.toArray⟩ pos hp (by rw [hg];omega)
  have hct:=uN ⟨s.toArray⟩ pos hp
  change 128≤iT s pos∧1≤fq s pos at hh
  change ∀ j,1≤j→j < fq s pos→_ at hct
  have hr:iU (iT s pos)=false:=by simp only [iU,Bool.or_eq_false_iff,decide_eq_false_iff_not];omega
  have hb:∀ j,j < fq s pos→pos+j < s.length∧jH (s.getD (pos+j) 0)=false:=fun j hj=>by
   by_cases h0:j=0
   ·subst h0
    refine ⟨h,?_⟩
    simp only [jH,Bool.or_eq_false_iff,decide_eq_false_iff_not,Nat.add_zero];omega
   ·obtain ⟨h5,h6⟩:=hct j (by omega) hj
    rw [hsz] at h5
    rw [Dk] at h6
    refine ⟨h5,?_⟩
    simp only [jH,Bool.or_eq_false_iff,decide_eq_false_iff_not];omega
  have hw1:=hh.2
  have hend:=(hb (fq s pos - 1) (by omega)).1
  have hb0:=(hb 0 (by omega)).2
  rw [Nat.add_zero] at hb0
  refine ⟨hw1,by omega,?_⟩
  rw [hd,bq,hb0,hr]
  congr 1
  rw [mZ (fq s pos - 1) (s.drop (pos+1)) (by rw [List.length_drop];omega) (fun i hi=>by
   rw [wz,show pos+1+i=pos+(i+1) by omega];exact (hb (i+1) (by omega)).2),List.drop_drop]
  congr 2;omega
end Go.Proofs.YtfbnaalhioogoaaGreatDoor
namespace Go.Proofs.YtfbnaalhioogoaaGreatDoor
open Go Go.Ab Go.RowKit
set_option maxRecDepth 1000000
set_option maxHeartbeats 2000000
theorem zY (l:Str) (hl:l.length≤4000000000) (w:World) :
  Calls Tryz.prog 223 #[.string ⟨l.toArray⟩] w fun e w'=>e = .returned (.int .i64 (bq true l:Nat))∧∃ pos,w' = w.iter ⟨l.toArray⟩ pos:=by
 have hsz:(ByteArray.mk l.toArray).size=l.length:=by show l.toArray.size=_;simp
 have htot:=eC l true
 go_enter Tryz.func223,Tryz.ntmps223
 go_wp2
 go_loopw [2,3] (fun n v w'=>∃ (pos acc:Nat) (ws:Bool),w' = w.iter ⟨l.toArray⟩ pos∧n = .int .i64 (acc:Int)∧v = .bool ws∧acc+bq ws (l.drop pos)=bq true l) (fun _ _ w'=>l.length - w'.iterPos w.heap.size)
 case atStart=>exact ⟨0,0,true,rfl,rfl,rfl,by simp⟩
 case round =>
  obtain ⟨pos,acc,ws,rfl,rfl,rfl,hc⟩:=hrel
  by_cases hp:pos < l.length
  ·have hp':pos < (ByteArray.mk l.toArray).size:=by rw [hsz];exact hp
   have hnx:∀ ty,(Instr.next (.pointer (some ⟨w.heap.size,0,none⟩)) true ty).run Tryz.prog (w.iter ⟨l.toArray⟩ pos)=_:=fun ty=>run_next_any w _ pos ty hp'
   obtain ⟨h1,h2,h3⟩:=zX l pos hp ws
   rw [h3] at hc
   have hcm:=decode_le ⟨l.toArray⟩ pos
   change iT l pos≤_ at hcm
   have hd:Utf8.decode ⟨l.toArray⟩ pos=(iT l pos,fq l pos):=rfl
   simp only [hd] at hnx
   clear hd
   generalize iT l pos=c at hnx hc hcm
   generalize fq l pos=d at hnx hc h1 h2
   have hacc:acc≤4000000000:=by omega
   have hwr:IntKind.i64.wrap ((acc:Int)+1)=(acc:Int)+1:=by rw [IntKind.wrap_i64];omega
   by_cases c0:c=32
   ·subst c0
    rw [show iU 32=true from rfl] at hc
    simp only [Bool.true_eq_false,and_false,if_false,Nat.zero_add] at hc
    cases ws with
    | true =>
     go_wp2
     go_roundw
     case rel=>exact ⟨pos+d,acc,true,rfl,rfl,rfl,hc⟩
     case measure =>
      simp
      omega
    | false =>
     go_wp2
     go_roundw
     case rel=>exact ⟨pos+d,acc,true,rfl,rfl,rfl,hc⟩
     case measure =>
      simp
      omega
   by_cases c1:c=9
   ·subst c1
    rw [show iU 9=true from rfl] at hc
    simp only [Bool.true_eq_false,and_false,if_false,Nat.zero_add] at hc
    cases ws with
    | true =>
     go_wp2
     go_roundw
     case rel=>exact ⟨pos+d,acc,true,rfl,rfl,rfl,hc⟩
     case measure =>
      simp
      omega
    | false =>
     go_wp2
     go_roundw
     case rel=>exact ⟨pos+d,acc,true,rfl,rfl,rfl,hc⟩
     case measure =>
      simp
      omega
   by_cases c2:c=10
   ·subst c2
    rw [show iU 10=true from rfl] at hc
    simp only [Bool.true_eq_false,and_false,if_false,Nat.zero_add] at hc
    cases ws with
    | true =>
     go_wp2
     go_roundw
     case rel=>exact ⟨pos+d,acc,true,rfl,rfl,rfl,hc⟩
     case measure =>
      simp
      omega
    | false =>
     go_wp2
     go_roundw
     case rel=>exact ⟨pos+d,acc,true,rfl,rfl,rfl,hc⟩
     case measure =>
      simp
      omega
   have i0:((c:Int) == 32)=false:=by simp;omega
   have i1:((c:Int) == 9)=false:=by simp;omega
   have i2:((c:Int) == 10)=false:=by simp;omega
   rw [show iU c=false by simp [iU,c0,c1,c2]] at hc
   cases ws with
   | true =>
    simp only [and_self,if_true] at hc
    go_wp2
    go_roundw
    case rel=>exact ⟨pos+d,acc+1,false,rfl,rfl,rfl,by omega⟩
    case measure =>
     simp
     omega
   | false =>
    simp only [Bool.false_eq_true,false_and,if_false,Nat.zero_add] at hc
    go_wp2
    go_roundw
    case rel=>exact ⟨pos+d,acc,false,rfl,rfl,rfl,hc⟩
    case measure =>
     simp
     omega
  ·have hp':¬ pos < (ByteArray.mk l.toArray).size:=by rw [hsz];exact hp
   have hnx:∀ ty,(Instr.next (.pointer (some ⟨w.heap.size,0,none⟩)) true ty).run Tryz.prog (w.iter ⟨l.toArray⟩ pos)=_:=fun ty=>run_next_end w _ pos ty hp'
   rw [List.drop_eq_nil_of_le (by omega)] at hc
   simp only [bq,Nat.add_zero] at hc
   subst hc
   go_wp2
   go_ret
   exact ⟨rfl,_,rfl⟩
end Go.Proofs.YtfbnaalhioogoaaGreatDoor
