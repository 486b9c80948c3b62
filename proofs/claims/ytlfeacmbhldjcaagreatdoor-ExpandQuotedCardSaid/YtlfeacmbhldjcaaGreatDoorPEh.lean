/- A part of the proof: the texts Y48, ME, one behind the other. -/
import Derived.Test.YtlfeacmbhldjcaaGreatDoorPEg
set_option linter.unusedVariables false
set_option linter.unusedSimpArgs false
set_option linter.unusedSectionVars false
namespace Go.Proofs.YtlfeacmbhldjcaaGreatDoor
open Go Go.Ab
set_option maxRecDepth 20000
set_option maxHeartbeats 8000000
theorem quoted_ok (s:Str) (hs:s.length≤140737488355328) (args:List Str) (ha:args.length≤140737488355328) (hA:∀ a,a ∈ args→a.length≤140737488355328) (p:Oid) (hp:p.mono=false):aA Tryz.prog 4 [.str s,.list 1 (args.map AV.str)] (Oid.under p) ⟨[],.bool true,[]⟩:=by
 refine aN (n:=153) (rs:=[.tmp 4]) Tryz.func4 rfl rfl (by decide) rfl rfl rfl ?_;rintro x rfl hrd hng
 (repeat (first|(refine ah rfl rfl ?_)|(refine aj rfl rfl ?_)|(refine af nmd [] hng (by kernel_rfl) fun hf C S K hC1 hC hS hK=>?_;simp (disch:=first|omega|assumption) only [go_sem];(repeat ((first|refine hC1 _ (uf _ (aH rfl hp)) (by simp (disch:=first|omega|assumption) only [go_sem]) ?_);simp (disch:=first|omega|assumption) only [go_sem]));refine hK ?_;clear hK hS hC hC1 K S C hf)|((first|refine zn ?_|refine ze ?_|refine zk ?_);with_reducible (constructor;repeat constructor);try refine zl ?_)))
 obtain ⟨y,u,s1,s2,s3,s4,hy,hu,hm,hB⟩:=C6 0 (.sub 3 0 x.p) (aH rfl hp)
 refine af nmd [] hng (by kernel_rfl) fun hf C S K hC1 hC hS hK=>?_;simp (disch:=first|omega|assumption) only [go_sem]
 refine hC1 _ hB (fun _ h=>by cases h) ?_
 simp (disch:=first|omega|assumption) only [go_sem]
 refine hK ?_;clear hK hS hC hC1 K S C hf
 (try ((first|refine zn ?_|refine ze ?_|refine zk ?_);with_reducible (constructor;repeat constructor));try refine zl ?_)
 refine bp [(y,ar.cells [.ptr s1 0,.ptr s2 0,.ptr s3 0,.ptr s4 0])] (fun e he=>by rw [List.mem_singleton.1 he,← Mem.bs];exact hm _) ?_
 have ny:∀ c j,3 < c→¬ .sub c j x.p=y:=fun c j hc h=>by
  rw [← h] at hy
  have:=Oid.cG hy (Oid.az _) rfl
  injection this with e1 _ _
  omega
 by_cases h1:s.length≤200
 case neg =>
  have e1:(s.length:Int) > 200:=by omega
  refine af nmd [(2,28),(7,33)] hng (by kernel_rfl) fun hf C S K hC1 hC hS hK=>?_;simp (disch:=first|omega|assumption) only [go_sem,e1,decide_true,decide_false,ne_eq,not_true_eq_false,not_false_eq_true]
  (repeat' (first|(refine bd (fun hv=>?_) (fun hv=>?_)<;>(try simp only [zb1,zb2,zb3,zb4,zb5] at hv)<;>simp (disch:=first|omega|assumption) only [go_sem,hv,e1,decide_true,decide_false,ne_eq,not_true_eq_false,not_false_eq_true])|(refine hK ?_;clear hK hS hC hC1 K S C hf)))
  (repeat (first|(refine ah rfl rfl ?_)|(refine aj rfl rfl ?_)|(refine af nmd [] hng (by kernel_rfl) fun hf C S K hC1 hC hS hK=>?_;simp (disch:=first|omega|assumption) only [go_sem];refine hK ?_;clear hK hS hC hC1 K S C hf)|((first|refine zn ?_|refine ze ?_|refine zk ?_);with_reducible (constructor;repeat constructor);try refine zl ?_)))
  refine af nmd [(2,40)] hng (by kernel_rfl) fun hf C S K hC1 hC hS hK=>?_;simp (disch:=first|omega|assumption) only [go_sem]
  (repeat' (first|(refine bd (fun hv=>?_) (fun hv=>?_)<;>(try simp only [zb1,zb2,zb3,zb4,zb5] at hv)<;>simp (disch:=first|omega|assumption) only [go_sem,hv,decide_true,decide_false,ne_eq,not_true_eq_false,not_false_eq_true])|(refine hK ?_;clear hK hS hC hC1 K S C hf)))
  (repeat (first|(refine ah rfl rfl ?_)|(refine aj rfl rfl ?_)|(refine af nmd [] hng (by kernel_rfl) fun hf C S K hC1 hC hS hK=>?_;simp (disch:=first|omega|assumption) only [go_sem];refine hK ?_;clear hK hS hC hC1 K S C hf)|((first|refine zn ?_|refine ze ?_|refine zk ?_);with_reducible (constructor;repeat constructor);try refine zl ?_)))
  exact aC (aE (by simp (disch:=first|omega|assumption) only [go_sem]))
 have e1:¬ (s.length:Int) > 200:=by omega
 by_cases h2:args.length≤10
 case neg =>
  have e2:(args.length:Int) > 10:=by omega
  refine af nmd [(2,28),(7,33)] hng (by kernel_rfl) fun hf C S K hC1 hC hS hK=>?_;simp (disch:=first|omega|assumption) only [go_sem,e1,e2,List.length_map,decide_true,decide_false,ne_eq,not_true_eq_false,not_false_eq_true]
  (repeat' (first|(refine bd (fun hv=>?_) (fun hv=>?_)<;>(try simp only [zb1,zb2,zb3,zb4,zb5] at hv)<;>simp (disch:=first|omega|assumption) only [go_sem,hv,e1,e2,List.length_map,decide_true,decide_false,ne_eq,not_true_eq_false,not_false_eq_true])|(refine hK ?_;clear hK hS hC hC1 K S C hf)))
  (repeat (first|(refine ah rfl rfl ?_)|(refine aj rfl rfl ?_)|(refine af nmd [] hng (by kernel_rfl) fun hf C S K hC1 hC hS hK=>?_;simp (disch:=first|omega|assumption) only [go_sem];refine hK ?_;clear hK hS hC hC1 K S C hf)|((first|refine zn ?_|refine ze ?_|refine zk ?_);with_reducible (constructor;repeat constructor);try refine zl ?_)))
  refine af nmd [(2,40)] hng (by kernel_rfl) fun hf C S K hC1 hC hS hK=>?_;simp (disch:=first|omega|assumption) only [go_sem]
  (repeat' (first|(refine bd (fun hv=>?_) (fun hv=>?_)<;>(try simp only [zb1,zb2,zb3,zb4,zb5] at hv)<;>simp (disch:=first|omega|assumption) only [go_sem,hv,decide_true,decide_false,ne_eq,not_true_eq_false,not_false_eq_true])|(refine hK ?_;clear hK hS hC hC1 K S C hf)))
  (repeat (first|(refine ah rfl rfl ?_)|(refine aj rfl rfl ?_)|(refine af nmd [] hng (by kernel_rfl) fun hf C S K hC1 hC hS hK=>?_;simp (disch:=first|omega|assumption) only [go_sem];refine hK ?_;clear hK hS hC hC1 K S C hf)|((first|refine zn ?_|refine ze ?_|refine zk ?_);with_reducible (constructor;repeat constructor);try refine zl ?_)))
  exact aC (aE (by simp (disch:=first|omega|assumption) only [go_sem]))
 have e2:¬ (args.length:Int) > 10:=by omega
 refine af nmd [(2,28),(7,33)] hng (by kernel_rfl) fun hf C S K hC1 hC hS hK=>?_;simp (disch:=first|omega|assumption) only [go_sem,e1,e2,List.length_map,decide_true,decide_false,ne_eq,not_true_eq_false,not_false_eq_true]
 (repeat' (first|(refine bd (fun hv=>?_) (fun hv=>?_)<;>(try simp only [zb1,zb2,zb3,zb4,zb5] at hv)<;>simp (disch:=first|omega|assumption) only [go_sem,hv,e1,e2,List.length_map,decide_true,decide_false,ne_eq,not_true_eq_false,not_false_eq_true])|(refine hK ?_;clear hK hS hC hC1 K S C hf)))
 (repeat (first|(refine ah rfl rfl ?_)|(refine aj rfl rfl ?_)|(refine af nmd [] hng (by kernel_rfl) fun hf C S K hC1 hC hS hK=>?_;simp (disch:=first|omega|assumption) only [go_sem];refine hK ?_;clear hK hS hC hC1 K S C hf)|((first|refine zn ?_|refine ze ?_|refine zk ?_);with_reducible (constructor;repeat constructor);try refine zl ?_)))
 have hlm:=XG args _ hA
 have hlm2:eP args≤1407374883553280:=by
  refine Nat.le_trans hlm ?_
  have:=Nat.mul_le_mul_left 140737488355328 h2
  omega
 refine tQ [0,1,5,6,7] (fun s'=>∃ c,4 < c∧s' = ⟨[(0,.str s),(1,.list 1 (args.map AV.str)),(5,.bool true),(6,.ptr y 0),(7,.int .i64 (eP args))],Mem.of [(y,ar.cells [.ptr s1 0,.ptr s2 0,.ptr s3 0,.ptr s4 0])],c,[]⟩) ?_ ?_
 ·refine a6 [0,1,5,6,7,8] (fun k s'=>∃ (i c:Nat),k=args.length - i∧i≤args.length∧4 < c∧s' = ⟨[(0,.str s),(1,.list 1 (args.map AV.str)),(5,.bool true),(6,.ptr y 0),(7,.int .i64 (eP (args.take i))),(8,.int .i64 i)],Mem.of [(y,ar.cells [.ptr s1 0,.ptr s2 0,.ptr s3 0,.ptr s4 0])],c,[]⟩) _ ⟨0,_,rfl,Nat.zero_le _,by omega,rfl⟩ ?_
  rintro k s' ⟨i,c,rfl,hi,hc,rfl⟩
  by_cases hlt:i < args.length
  ·have hI:(i:Int) < args.length:=by omega
   have hlx:i < (args.map AV.str).length:=by rw [List.length_map];exact hlt
   have hg:(args.map AV.str).getD i .undef = .str (args.getD i []):=by
    rw [List.getD_eq_getElem?_getD,List.getElem?_map,List.getElem?_eq_getElem hlt,List.getD_eq_getElem?_getD,List.getElem?_eq_getElem hlt];rfl
   have htk:=zM args hlt
   have hle:eP (args.take (i+1))≤eP args:=by
    conv=>rhs;rw [← List.take_append_drop (i+1) args]
    unfold eP
    rw [List.map_append,List.sum_append]
    omega
   generalize args.getD i []=a at hg htk
   (repeat (first|(refine ah rfl rfl ?_)|(refine aj rfl rfl ?_)|(refine af nmd [] hng (by kernel_rfl) fun hf C S K hC1 hC hS hK=>?_;simp (disch:=first|omega|assumption) only [go_sem,hI,hlx,hg,List.length_map,decide_true,decide_false,ne_eq,not_true_eq_false,not_false_eq_true];refine hK ?_;clear hK hS hC hC1 K S C hf)|((first|refine zn ?_|refine ze ?_|refine zk ?_);with_reducible (constructor;repeat constructor);try refine zl ?_)))
   exact ⟨_,_,by omega,fun _ _ h=>h,i+1,c+1+1+1,rfl,by omega,by omega,by rw [htk];rfl⟩
  ·obtain rfl:i=args.length:=by omega
   have hI:¬ (args.length:Int) < args.length:=by omega
   rw [List.take_length]
   (repeat (first|(refine ah rfl rfl ?_)|(refine aj rfl rfl ?_)|(refine af nmd [] hng (by kernel_rfl) fun hf C S K hC1 hC hS hK=>?_;simp (disch:=first|omega|assumption) only [go_sem,hI,List.length_map,decide_true,decide_false,ne_eq,not_true_eq_false,not_false_eq_true];refine hK ?_;clear hK hS hC hC1 K S C hf)|((first|refine zn ?_|refine ze ?_|refine zk ?_);with_reducible (constructor;repeat constructor);try refine zl ?_)))
   exact aQ ⟨_,by omega,rfl⟩
 rintro s' ⟨c,hc,rfl⟩
 by_cases h3:eP args≤200
 case neg =>
  have e3:(eP args:Int) > 200:=by omega
  (repeat (first|(refine ah rfl rfl ?_)|(refine aj rfl rfl ?_)|(refine af nmd [] hng (by kernel_rfl) fun hf C S K hC1 hC hS hK=>?_;simp (disch:=first|omega|assumption) only [go_sem,e3,decide_true,decide_false,ne_eq,not_true_eq_false,not_false_eq_true];refine hK ?_;clear hK hS hC hC1 K S C hf)|((first|refine zn ?_|refine ze ?_|refine zk ?_);with_reducible (constructor;repeat constructor);try refine zl ?_)))
  exact aC (aE (by simp (disch:=first|omega|assumption) only [go_sem]))
 have e3:¬ (eP args:Int) > 200:=by omega
 (repeat (first|(refine ah rfl rfl ?_)|(refine aj rfl rfl ?_)|(refine af nmd [] hng (by kernel_rfl) fun hf C S K hC1 hC hS hK=>?_;simp (disch:=first|omega|assumption) only [go_sem,e3,decide_true,decide_false,ne_eq,not_true_eq_false,not_false_eq_true];refine hK ?_;clear hK hS hC hC1 K S C hf)|((first|refine zn ?_|refine ze ?_|refine zk ?_);with_reducible (constructor;repeat constructor);try refine zl ?_)))
 have n5:=ny (c+1) 5 (by omega)
 have n5':=Ne.symm n5
 have n6:=ny (c+1+1) 13 (by omega)
 have n6':=Ne.symm n6
 have n7:=ny (c+1+1+1) 12 (by omega)
 have n7':=Ne.symm n7
 have n8:=ny (c+1+1+1+1) 12 (by omega)
 have n8':=Ne.symm n8
 have n9:=ny (c+1+1+1+1+1) 8 (by omega)
 have n9':=Ne.symm n9
 (repeat (first|(refine ah rfl rfl ?_)|(refine aj rfl rfl ?_)|(refine af nmd [] hng (by kernel_rfl) fun hf C S K hC1 hC hS hK=>?_;simp (disch:=first|omega|assumption) only [go_sem,n5,n5',if_false,decide_true,decide_false,ne_eq,not_true_eq_false,not_false_eq_true];refine hK ?_;clear hK hS hC hC1 K S C hf)|((first|refine zn ?_|refine ze ?_|refine zk ?_);with_reducible (constructor;repeat constructor);try refine zl ?_)))
 refine bE nmd [] [(3,6),(6,7),(3,13),(6,13),(7,13),(8,13)] mixed hng (by kernel_rfl) [0,1,5,6,9,10,11,12] fun hf C S K hC hS hK=>?_;simp (disch:=first|omega|assumption) only [go_sem,n5,n5',n6,n6',if_false,decide_true,decide_false,ne_eq,not_true_eq_false,not_false_eq_true]
 refine hC _ (q_1 s h1 args h2 h3 _ _ (aH rfl hp)) (fun _ h=>by cases h) ?_
 simp (disch:=first|omega|assumption) only [go_sem,n5,n5',n6,n6',if_false,decide_true,decide_false,ne_eq,not_true_eq_false,not_false_eq_true]
 (refine hK (by simp (disch:=first|omega|assumption) only [go_sem,List.reverse_cons,List.reverse_nil,ne_eq,not_false_eq_true,implies_true,n6,n6']) ?_);clear hK hS hC K S C hf
 (try ((first|refine zn ?_|refine ze ?_|refine zk ?_);with_reducible (constructor;repeat constructor));try refine zl ?_)
 refine bE nmd [] [(3,5),(5,6),(3,12),(5,12),(6,12),(7,12)] mixed hng (by kernel_rfl) [0,1,5,6,9,10,11,12,13,14,15] fun hf C S K hC hS hK=>?_;simp (disch:=first|omega|assumption) only [go_sem,n5,n5',n6,n6',n7,n7',if_false,decide_true,decide_false,ne_eq,not_true_eq_false,not_false_eq_true]
 refine hC _ (q_2 s h1 args h2 h3 _ _ (aH rfl hp)) (fun _ h=>by cases h) ?_
 simp (disch:=first|omega|assumption) only [go_sem,n5,n5',n6,n6',n7,n7',if_false,decide_true,decide_false,ne_eq,not_true_eq_false,not_false_eq_true]
 (refine hK (by simp (disch:=first|omega|assumption) only [go_sem,List.reverse_cons,List.reverse_nil,ne_eq,not_false_eq_true,implies_true,n7,n7']) ?_);clear hK hS hC K S C hf
 (try ((first|refine zn ?_|refine ze ?_|refine zk ?_);with_reducible (constructor;repeat constructor));try refine zl ?_)
 refine bE nmd [] [(3,5),(5,6),(3,12),(5,12),(6,12),(7,12)] mixed hng (by kernel_rfl) [0,1,5,6,9,10,11,12,13,14,15,16,17,18] fun hf C S K hC hS hK=>?_;simp (disch:=first|omega|assumption) only [go_sem,n5,n5',n6,n6',n7,n7',n8,n8',if_false,decide_true,decide_false,ne_eq,not_true_eq_false,not_false_eq_true]
 refine hC _ (q_3 s h1 args h2 h3 _ _ (aH rfl hp)) (fun _ h=>by cases h) ?_
 simp (disch:=first|omega|assumption) only [go_sem,n5,n5',n6,n6',n7,n7',n8,n8',if_false,decide_true,decide_false,ne_eq,not_true_eq_false,not_false_eq_true]
 (refine hK (by simp (disch:=first|omega|assumption) only [go_sem,List.reverse_cons,List.reverse_nil,ne_eq,not_false_eq_true,implies_true,n8,n8']) ?_);clear hK hS hC K S C hf
 (try ((first|refine zn ?_|refine ze ?_|refine zk ?_);with_reducible (constructor;repeat constructor));try refine zl ?_)
 refine af nmd [] hng (by kernel_rfl) fun hf C S K hC1 hC hS hK=>?_;simp (disch:=first|omega|assumption) only [go_sem,n5,n5',n6,n6',n7,n7',n8,n8',n9,n9',if_false,decide_true,decide_false,ne_eq,not_true_eq_false,not_false_eq_true]
 refine hC1 _ (q_4 s h1 args h2 h3 _ (aH rfl hp)) (fun _ h=>by cases h) ?_
 simp (disch:=first|omega|assumption) only [go_sem,n5,n5',n6,n6',n7,n7',n8,n8',n9,n9',if_false,decide_true,decide_false,ne_eq,not_true_eq_false,not_false_eq_true]
 refine hK ?_;clear hK hS hC hC1 K S C hf
 (try ((first|refine zn ?_|refine ze ?_|refine zk ?_);with_reducible (constructor;repeat constructor));try refine zl ?_)
 have hS1:=fun p=>lF [s] [s] (Nat.le_of_ble_eq_true rfl) (Nat.le_of_ble_eq_true rfl) p
 rw [decide_eq_true rfl] at hS1
 have hS2:=fun p=>lF args args ha ha p
 rw [decide_eq_true rfl] at hS2
 have hSh:=fun p hp=>qp [Vr.mk [118] s false false] (Nat.le_of_ble_eq_true rfl) args (by omega) 0 p hp
 refine af nmd [(1,110),(5,114),(9,118),(13,122),(17,126),(23,132),(29,138),(34,143),(39,148)] hng (by kernel_rfl) fun hf C S K hC1 hC hS hK=>?_;simp (disch:=first|omega|assumption) only [go_sem,n5,n5',n6,n6',n7,n7',n8,n8',n9,n9',if_false,decide_true,decide_false,ne_eq,not_true_eq_false,not_false_eq_true]
 (repeat' (first|(refine bd (fun hv=>?_) (fun hv=>?_)<;>(try simp only [zb1,zb2,zb3,zb4,zb5] at hv)<;>simp (disch:=first|omega|assumption) only [go_sem,hv,n5,n5',n6,n6',n7,n7',n8,n8',n9,n9',if_false,decide_true,decide_false,ne_eq,not_true_eq_false,not_false_eq_true])|(refine hC1 _ (hS1 _) (by simp (disch:=first|omega|assumption) only [go_sem,n5,n5',n6,n6',n7,n7',n8,n8',n9,n9',if_false,decide_true,decide_false,ne_eq,not_true_eq_false,not_false_eq_true]) ?_;simp (disch:=first|omega|assumption) only [go_sem,n5,n5',n6,n6',n7,n7',n8,n8',n9,n9',if_false,decide_true,decide_false,ne_eq,not_true_eq_false,not_false_eq_true])|(refine hC1 _ (hS2 _) (by simp (disch:=first|omega|assumption) only [go_sem,n5,n5',n6,n6',n7,n7',n8,n8',n9,n9',if_false,decide_true,decide_false,ne_eq,not_true_eq_false,not_false_eq_true]) ?_;simp (disch:=first|omega|assumption) only [go_sem,n5,n5',n6,n6',n7,n7',n8,n8',n9,n9',if_false,decide_true,decide_false,ne_eq,not_true_eq_false,not_false_eq_true])|(refine hC1 _ (hSh _ (aH rfl hp)) (by simp (disch:=first|omega|assumption) only [go_sem,n5,n5',n6,n6',n7,n7',n8,n8',n9,n9',if_false,decide_true,decide_false,ne_eq,not_true_eq_false,not_false_eq_true]) ?_;simp (disch:=first|omega|assumption) only [go_sem,n5,n5',n6,n6',n7,n7',n8,n8',n9,n9',if_false,decide_true,decide_false,ne_eq,not_true_eq_false,not_false_eq_true])|(refine hK ?_;clear hK hS hC hC1 K S C hf)))
 (repeat (first|(refine ah rfl rfl ?_)|(refine aj rfl rfl ?_)|(refine af nmd [] hng (by kernel_rfl) fun hf C S K hC1 hC hS hK=>?_;simp (disch:=first|omega|assumption) only [go_sem];refine hK ?_;clear hK hS hC hC1 K S C hf)|((first|refine zn ?_|refine ze ?_|refine zk ?_);with_reducible (constructor;repeat constructor);try refine zl ?_)))
 exact aC (aE (by simp (disch:=first|omega|assumption) only [go_sem]))
end Go.Proofs.YtlfeacmbhldjcaaGreatDoor
namespace Go.Proofs.YtlfeacmbhldjcaaGreatDoor
open Go Go.Ab
set_option maxRecDepth 100000
theorem band {a b:Bool} (h1:a=true) (h2:b=true):(a && b)=true:=by rw [h1,h2];rfl
theorem c_str:Tryz.prog.cellsOf 9=1:=by kernel_rfl
theorem aht:Tryz.prog.cellsOf 5=1:=by kernel_rfl
theorem c_strs:Tryz.prog.cellsOf 27=1:=by kernel_rfl
theorem ag3:Tryz.prog.bytesOf 9=16:=by kernel_rfl
theorem rd_strs:Rd Tryz.prog 27 (fun l:List Str=>.list 1 (l.map AV.str)) (fun l=>l.length≤140737488355328∧∀ t ∈ l,t.length≤140737488355328) :=
 (A1 Tryz.underlying27 c_strs (by rw [c_str];decide) (rd_str Tryz.underlying9 c_str)).map id (fun _ _=>by rw [c_str];rfl) (fun _=>c_strs.symm) (fun l h=>by
  have h1:=h.1
  rw [ag3] at h1
  have h2:=h.2
  unfold reachBytes at h1 h2
  refine ⟨?_,fun t ht=>?_⟩
  ·show l.length≤_;omega
  ·have:=h2 t ht;omega)
end Go.Proofs.YtlfeacmbhldjcaaGreatDoor
