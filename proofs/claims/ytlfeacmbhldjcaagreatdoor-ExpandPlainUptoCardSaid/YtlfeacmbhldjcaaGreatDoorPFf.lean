/- A part of the proof: the texts Y28, Y29, Y30, Y31, Y32, Y33, Y1, SortU, FwO, Y2, Y3, Y4, Y5, Y6, Y7, Y8, Y9, Y10, Y11, one behind the other. -/
import Derived.Test.YtlfeacmbhldjcaaGreatDoorPFe
import Derived.Shelf.Strings.Builder1
import Derived.Shelf.Strings.Builder2
import Derived.Shelf.Strings.OnBuilder
import Derived.Shelf.Strings.Trim
import Derived.Shelf.Small.Utf8
import Derived.Shelf.Small.Bits
import Derived.Shelf.Small.Strs
import Derived.Shelf.Strconv.Atoi
import Derived.Shelf.Strconv.Itoa0
import Derived.Shelf.Strconv.Itoa1
import Derived.Shelf.LaysM
import Derived.Shelf.Strconv.Itoa2
import Derived.Shelf.Strconv.Itoa3
import Derived.Shelf.Strconv.AtoiErrFast
import Derived.Shelf.Strconv.ParseIntEmpty
import Derived.Shelf.Strconv.AtoiFail
import Derived.Shelf.Strconv.Clone
import Derived.Shelf.Strconv.SyntaxError
import Derived.Shelf.LaysC
import Derived.Shelf.Strconv.ToError
import Derived.Shelf.Strconv.Lower
import Derived.Shelf.Strconv.ParseUint10
import Derived.Shelf.Strconv.ParseUint10Empty
import Derived.Shelf.Strconv.ParseUint10Any
import Derived.Shelf.Strconv.ParseInt10
import Derived.Shelf.Strconv.AtoiLong
import Derived.Shelf.Strconv.AtoiInnerAll
import Derived.Shelf.Strconv.RangeError
import Derived.Shelf.Strconv.ToErrorRange
import Derived.Shelf.Strconv.AtoiAll
import Derived.Shelf.Strings.Search1
import Derived.Shelf.Strings.Search2
import Derived.Shelf.Strings.Search3
import Derived.Shelf.Strings.Count
import Derived.Shelf.Strings.Shaped
import Derived.Shelf.Sort.Plain
import Derived.Shelf.Strings.LastIndex
import Derived.Shelf.Strings.Prefix
import Derived.Shelf.Strings.Split
import Derived.Shelf.Strings.Replace
import Derived.Shelf.Strings.SplitShaped
import Derived.Shelf.Unicode.Decode
import Derived.Shelf.Strings.Runes
import Derived.Shelf.Strings.RuneCount
import Derived.Shelf.Strings.AsciiSet
import Derived.Shelf.Unicode.DecodeSlow
import Derived.Shelf.Slices.Turned
import Derived.Shelf.Slices.In.SortNone
import Derived.Test.YtlfeacmbhldjcaaGreatDoorProg
import Derived.Lib.UnsafeStr
set_option linter.unusedVariables false
set_option linter.unusedSimpArgs false
set_option linter.unusedSectionVars false
namespace Go.Proofs.YtlfeacmbhldjcaaGreatDoor
open Go Go.Ab
set_option maxRecDepth 20000
set_option maxHeartbeats 4000000
def fK:Option Nat→Int
 | none=>-1
 | some n=>n
theorem Xz {s t:Str} {i:Nat} (ht:t≠[]):(decide (i+t.length≤s.length) && dO s i t)=dO s i t:=by
 cases h:dO s i t
 ·rw [Bool.and_false]
 ·rw [decide_eq_true ((lC h).resolve_right ht),Bool.true_and]
theorem tJ {s:Str} {f j:Nat} (h:¬ j < s.length):fJ s f j=none:=by
 cases f with
 | zero=>rfl
 | succ f=>rw [fJ,if_neg h]
theorem tK {s:Str} {e:UInt8} {deep:Bool} {sk un:Nat→Option Nat} {f j:Nat} (h:¬ j < s.length):dP s e deep sk un f j=none:=by
 cases f with
 | zero=>rfl
 | succ f=>rw [dP,if_neg h]
theorem uZ (s:Str) (hs:s.length≤140737488355328) (d:Nat) (hd:d≤30) (u:UInt8→Nat→Option Nat)
  (hU:∀ e i p,i≤s.length→aA Tryz.prog 125 [.str s,.int .i64 i,.int .u8 (e:UInt8).toNat,.int .i64 (d+1:Nat)] (Oid.under p) ⟨[],.int .i64 (fK (u e i)),[]⟩)
  (i:Nat) (hi:i < s.length) (p:Oid):aA Tryz.prog 82 [.str s,.int .i64 i,.int .i64 d] (Oid.under p) ⟨[],.int .i64 (fK (gH s u i)),[]⟩:=by
 have hd':¬ (d:Int) > 30:=by omega
 have q92:s.getD i 0=92↔((s.getD i 0).toNat:Int)=92:=cb (n:=92) (by omega)
 have q39:s.getD i 0=39↔((s.getD i 0).toNat:Int)=39:=cb (n:=39) (by omega)
 have q34:s.getD i 0=34↔((s.getD i 0).toNat:Int)=34:=cb (n:=34) (by omega)
 unfold gH
 by_cases h92:s.getD i 0=92
 ·have k92:=q92.1 h92
  rw [if_pos h92]
  by_cases hl:i+1=s.length
  ·have hlI:(i:Int)+1=s.length:=by omega
   rw [if_pos hl]
   refine aN (n:=75) (rs:=[.tmp 6]) Tryz.func82 rfl rfl (by decide) rfl rfl rfl ?_;rintro x rfl hrd hng
   (repeat (first|(refine ah rfl rfl ?_)|(refine aj rfl rfl ?_)|(refine af nmd [] hng (by kernel_rfl) fun hf C S K hC1 hC hS hK=>?_;simp (disch:=first|omega|assumption) only [go_sem,hd',k92,hi,hlI,eq_self,decide_true,decide_false,ne_eq,not_true_eq_false,not_false_eq_true];refine hK ?_;clear hK hS hC hC1 K S C hf)|((first|refine zn ?_|refine ze ?_|refine zk ?_);with_reducible (constructor;repeat constructor);try refine zl ?_)))
   exact aC (aT rfl)
  ·have hlI:¬ (i:Int)+1=s.length:=by omega
   rw [if_neg hl]
   refine aN (n:=75) (rs:=[.tmp 6]) Tryz.func82 rfl rfl (by decide) rfl rfl rfl ?_;rintro x rfl hrd hng
   (repeat (first|(refine ah rfl rfl ?_)|(refine aj rfl rfl ?_)|(refine af nmd [] hng (by kernel_rfl) fun hf C S K hC1 hC hS hK=>?_;simp (disch:=first|omega|assumption) only [go_sem,hd',k92,hi,hlI,eq_self,decide_true,decide_false,ne_eq,not_true_eq_false,not_false_eq_true];refine hK ?_;clear hK hS hC hC1 K S C hf)|((first|refine zn ?_|refine ze ?_|refine zk ?_);with_reducible (constructor;repeat constructor);try refine zl ?_)))
   exact aC (aT rfl)
 have k92:¬ ((s.getD i 0).toNat:Int)=92:=fun h=>h92 (q92.2 h)
 rw [if_neg h92]
 by_cases h39:s.getD i 0=39
 ·have k39:=q39.1 h39
  rw [if_pos h39]
  refine aN (n:=75) (rs:=[.tmp 6]) Tryz.func82 rfl rfl (by decide) rfl rfl rfl ?_;rintro x rfl hrd hng
  (repeat (first|(refine ah rfl rfl ?_)|(refine aj rfl rfl ?_)|(refine af nmd [] hng (by kernel_rfl) fun hf C S K hC1 hC hS hK=>?_;simp (disch:=first|omega|assumption) only [go_sem,hd',k92,k39,hi,eq_self,decide_true,decide_false,ne_eq,not_true_eq_false,not_false_eq_true];refine hK ?_;clear hK hS hC hC1 K S C hf)|((first|refine zn ?_|refine ze ?_|refine zk ?_);with_reducible (constructor;repeat constructor);try refine zl ?_)))
  refine a6 [0,7] (fun k s'=>∃ (j f c:Nat),s' = ⟨[(0,.str s),(7,.int .i64 j)],Mem.of [],c,[]⟩∧k=s.length - j∧j≤s.length∧s.length - j≤f∧fJ s s.length (i+1)=fJ s f j) _ ⟨i+1,s.length,_,rfl,rfl,by omega,by omega,rfl⟩ ?_
  rintro k s' ⟨j,f,c,rfl,rfl,hj,hf,hc⟩
  by_cases hlt:j < s.length
  ·have hI:(j:Int) < s.length:=by omega
   obtain ⟨f,rfl⟩:∃ f',f=f' + 1:=⟨f - 1,by omega⟩
   have q:s.getD j 0=39↔((s.getD j 0).toNat:Int)=39:=cb (n:=39) (by omega)
   rw [fJ,if_pos hlt] at hc
   by_cases h:s.getD j 0=39
   ·have kq:=q.1 h
    rw [if_pos h] at hc
    (repeat (first|(refine ah rfl rfl ?_)|(refine aj rfl rfl ?_)|(refine af nmd [] hng (by kernel_rfl) fun hf C S K hC1 hC hS hK=>?_;simp (disch:=first|omega|assumption) only [go_sem,hI,hlt,kq,eq_self,decide_true,decide_false,ne_eq,not_true_eq_false,not_false_eq_true];refine hK ?_;clear hK hS hC hC1 K S C hf)|((first|refine zn ?_|refine ze ?_|refine zk ?_);with_reducible (constructor;repeat constructor);try refine zl ?_)))
    exact aC (aT (by rw [hc];rfl))
   ·have kq:¬ ((s.getD j 0).toNat:Int)=39:=fun hh=>h (q.2 hh)
    rw [if_neg h] at hc
    (repeat (first|(refine ah rfl rfl ?_)|(refine aj rfl rfl ?_)|(refine af nmd [] hng (by kernel_rfl) fun hf C S K hC1 hC hS hK=>?_;simp (disch:=first|omega|assumption) only [go_sem,hI,hlt,kq,decide_true,decide_false,ne_eq,not_true_eq_false,not_false_eq_true];refine hK ?_;clear hK hS hC hC1 K S C hf)|((first|refine zn ?_|refine ze ?_|refine zk ?_);with_reducible (constructor;repeat constructor);try refine zl ?_)))
    exact ⟨_,_,by omega,fun _ _ h=>h,j+1,f,_,rfl,rfl,by omega,by omega,hc⟩
  ·have hI:¬ (j:Int) < s.length:=by omega
   rw [tJ hlt] at hc
   (repeat (first|(refine ah rfl rfl ?_)|(refine aj rfl rfl ?_)|(refine af nmd [] hng (by kernel_rfl) fun hf C S K hC1 hC hS hK=>?_;simp (disch:=first|omega|assumption) only [go_sem,hI,decide_true,decide_false,ne_eq,not_true_eq_false,not_false_eq_true];refine hK ?_;clear hK hS hC hC1 K S C hf)|((first|refine zn ?_|refine ze ?_|refine zk ?_);with_reducible (constructor;repeat constructor);try refine zl ?_)))
   exact aC (aT (by rw [hc];rfl))
 have k39:¬ ((s.getD i 0).toNat:Int)=39:=fun h=>h39 (q39.2 h)
 rw [if_neg h39]
 by_cases h34:s.getD i 0=34
 ·have k34:=q34.1 h34
  rw [if_pos h34]
  have hu:=fun p=>hU 34 (i+1) p (by omega)
  refine aN (n:=75) (rs:=[.tmp 6]) Tryz.func82 rfl rfl (by decide) rfl rfl rfl ?_;rintro x rfl hrd hng
  (repeat (first|(refine ah rfl rfl ?_)|(refine aj rfl rfl ?_)|(refine af nmd [] hng (by kernel_rfl) fun hf C S K hC1 hC hS hK=>?_;simp (disch:=first|omega|assumption) only [go_sem,hd',k92,k39,k34,hi,eq_self,decide_true,decide_false,ne_eq,not_true_eq_false,not_false_eq_true];refine hK ?_;clear hK hS hC hC1 K S C hf)|((first|refine zn ?_|refine ze ?_|refine zk ?_);with_reducible (constructor;repeat constructor);try refine zl ?_)))
  (repeat (first|(refine ah rfl rfl ?_)|(refine aj rfl rfl ?_)|(refine af nmd [] hng (by kernel_rfl) fun hf C S K hC1 hC hS hK=>?_;simp (disch:=first|omega|assumption) only [go_sem];(repeat ((first|refine hC1 _ (hu _) (by simp (disch:=first|omega|assumption) only [go_sem]) ?_);simp (disch:=first|omega|assumption) only [go_sem]));refine hK ?_;clear hK hS hC hC1 K S C hf)|((first|refine zn ?_|refine ze ?_|refine zk ?_);with_reducible (constructor;repeat constructor);try refine zl ?_)))
  exact aC (aT rfl)
 have k34:¬ ((s.getD i 0).toNat:Int)=34:=fun h=>h34 (q34.2 h)
 rw [if_neg h34]
 have hB1:=fun p=>mQ s [36,40] i hs (by decide) (by omega) p
 have hB2:=fun p=>mQ s [36,123] i hs (by decide) (by omega) p
 rw [Xz (by decide)] at hB1 hB2
 by_cases h40:dO s i [36,40]=true
 ·have hl:=(lC h40).resolve_right (by decide)
  simp only [List.length_cons,List.length_nil] at hl
  have hu:=fun p=>hU 41 (i+2) p (by omega)
  rw [if_pos h40]
  rw [h40] at hB1
  refine aN (n:=75) (rs:=[.tmp 6]) Tryz.func82 rfl rfl (by decide) rfl rfl rfl ?_;rintro x rfl hrd hng
  (repeat (first|(refine ah rfl rfl ?_)|(refine aj rfl rfl ?_)|(refine af nmd [] hng (by kernel_rfl) fun hf C S K hC1 hC hS hK=>?_;simp (disch:=first|omega|assumption) only [go_sem,hd',k92,k39,k34,hi,decide_true,decide_false,ne_eq,not_true_eq_false,not_false_eq_true];refine hK ?_;clear hK hS hC hC1 K S C hf)|((first|refine zn ?_|refine ze ?_|refine zk ?_);with_reducible (constructor;repeat constructor);try refine zl ?_)))
  (repeat (first|(refine ah rfl rfl ?_)|(refine aj rfl rfl ?_)|(refine af nmd [] hng (by kernel_rfl) fun hf C S K hC1 hC hS hK=>?_;simp (disch:=first|omega|assumption) only [go_sem];(repeat ((first|refine hC1 _ (hB1 _) (by simp (disch:=first|omega|assumption) only [go_sem]) ?_);simp (disch:=first|omega|assumption) only [go_sem]));refine hK ?_;clear hK hS hC hC1 K S C hf)|((first|refine zn ?_|refine ze ?_|refine zk ?_);with_reducible (constructor;repeat constructor);try refine zl ?_)))
  (repeat (first|(refine ah rfl rfl ?_)|(refine aj rfl rfl ?_)|(refine af nmd [] hng (by kernel_rfl) fun hf C S K hC1 hC hS hK=>?_;simp (disch:=first|omega|assumption) only [go_sem];(repeat ((first|refine hC1 _ (hu _) (by simp (disch:=first|omega|assumption) only [go_sem]) ?_);simp (disch:=first|omega|assumption) only [go_sem]));refine hK ?_;clear hK hS hC hC1 K S C hf)|((first|refine zn ?_|refine ze ?_|refine zk ?_);with_reducible (constructor;repeat constructor);try refine zl ?_)))
  exact aC (aT rfl)
 rw [if_neg h40]
 rw [Bool.eq_false_iff.2 h40] at hB1
 by_cases h123:dO s i [36,123]=true
 ·have hl:=(lC h123).resolve_right (by decide)
  simp only [List.length_cons,List.length_nil] at hl
  have hu:=fun p=>hU 125 (i+2) p (by omega)
  rw [if_pos h123]
  rw [h123] at hB2
  refine aN (n:=75) (rs:=[.tmp 6]) Tryz.func82 rfl rfl (by decide) rfl rfl rfl ?_;rintro x rfl hrd hng
  (repeat (first|(refine ah rfl rfl ?_)|(refine aj rfl rfl ?_)|(refine af nmd [] hng (by kernel_rfl) fun hf C S K hC1 hC hS hK=>?_;simp (disch:=first|omega|assumption) only [go_sem,hd',k92,k39,k34,hi,decide_true,decide_false,ne_eq,not_true_eq_false,not_false_eq_true];refine hK ?_;clear hK hS hC hC1 K S C hf)|((first|refine zn ?_|refine ze ?_|refine zk ?_);with_reducible (constructor;repeat constructor);try refine zl ?_)))
  (repeat (first|(refine ah rfl rfl ?_)|(refine aj rfl rfl ?_)|(refine af nmd [] hng (by kernel_rfl) fun hf C S K hC1 hC hS hK=>?_;simp (disch:=first|omega|assumption) only [go_sem];(repeat ((first|refine hC1 _ (hB1 _) (by simp (disch:=first|omega|assumption) only [go_sem]) ?_);simp (disch:=first|omega|assumption) only [go_sem]));refine hK ?_;clear hK hS hC hC1 K S C hf)|((first|refine zn ?_|refine ze ?_|refine zk ?_);with_reducible (constructor;repeat constructor);try refine zl ?_)))
  (repeat (first|(refine ah rfl rfl ?_)|(refine aj rfl rfl ?_)|(refine af nmd [] hng (by kernel_rfl) fun hf C S K hC1 hC hS hK=>?_;simp (disch:=first|omega|assumption) only [go_sem];(repeat ((first|refine hC1 _ (hB2 _) (by simp (disch:=first|omega|assumption) only [go_sem]) ?_);simp (disch:=first|omega|assumption) only [go_sem]));refine hK ?_;clear hK hS hC hC1 K S C hf)|((first|refine zn ?_|refine ze ?_|refine zk ?_);with_reducible (constructor;repeat constructor);try refine zl ?_)))
  (repeat (first|(refine ah rfl rfl ?_)|(refine aj rfl rfl ?_)|(refine af nmd [] hng (by kernel_rfl) fun hf C S K hC1 hC hS hK=>?_;simp (disch:=first|omega|assumption) only [go_sem];(repeat ((first|refine hC1 _ (hu _) (by simp (disch:=first|omega|assumption) only [go_sem]) ?_);simp (disch:=first|omega|assumption) only [go_sem]));refine hK ?_;clear hK hS hC hC1 K S C hf)|((first|refine zn ?_|refine ze ?_|refine zk ?_);with_reducible (constructor;repeat constructor);try refine zl ?_)))
  exact aC (aT rfl)
 rw [if_neg h123]
 rw [Bool.eq_false_iff.2 h123] at hB2
 refine aN (n:=75) (rs:=[.tmp 6]) Tryz.func82 rfl rfl (by decide) rfl rfl rfl ?_;rintro x rfl hrd hng
 (repeat (first|(refine ah rfl rfl ?_)|(refine aj rfl rfl ?_)|(refine af nmd [] hng (by kernel_rfl) fun hf C S K hC1 hC hS hK=>?_;simp (disch:=first|omega|assumption) only [go_sem,hd',k92,k39,k34,hi,decide_true,decide_false,ne_eq,not_true_eq_false,not_false_eq_true];refine hK ?_;clear hK hS hC hC1 K S C hf)|((first|refine zn ?_|refine ze ?_|refine zk ?_);with_reducible (constructor;repeat constructor);try refine zl ?_)))
 (repeat (first|(refine ah rfl rfl ?_)|(refine aj rfl rfl ?_)|(refine af nmd [] hng (by kernel_rfl) fun hf C S K hC1 hC hS hK=>?_;simp (disch:=first|omega|assumption) only [go_sem];(repeat ((first|refine hC1 _ (hB1 _) (by simp (disch:=first|omega|assumption) only [go_sem]) ?_);simp (disch:=first|omega|assumption) only [go_sem]));refine hK ?_;clear hK hS hC hC1 K S C hf)|((first|refine zn ?_|refine ze ?_|refine zk ?_);with_reducible (constructor;repeat constructor);try refine zl ?_)))
 (repeat (first|(refine ah rfl rfl ?_)|(refine aj rfl rfl ?_)|(refine af nmd [] hng (by kernel_rfl) fun hf C S K hC1 hC hS hK=>?_;simp (disch:=first|omega|assumption) only [go_sem];(repeat ((first|refine hC1 _ (hB2 _) (by simp (disch:=first|omega|assumption) only [go_sem]) ?_);simp (disch:=first|omega|assumption) only [go_sem]));refine hK ?_;clear hK hS hC hC1 K S C hf)|((first|refine zn ?_|refine ze ?_|refine zk ?_);with_reducible (constructor;repeat constructor);try refine zl ?_)))
 exact aC (aT rfl)
theorem zi (s:Str) (i:Nat) (p:Oid):aA Tryz.prog 82 [.str s,.int .i64 i,.int .i64 (31:Nat)] (Oid.under p) ⟨[],.int .i64 (fK none),[]⟩:=by
 refine aN (n:=75) (rs:=[.tmp 6]) Tryz.func82 rfl rfl (by decide) rfl rfl rfl ?_;rintro x rfl hrd hng
 (repeat (first|(refine ah rfl rfl ?_)|(refine aj rfl rfl ?_)|(refine af nmd [] hng (by kernel_rfl) fun hf C S K hC1 hC hS hK=>?_;simp (disch:=first|omega|assumption) only [go_sem];refine hK ?_;clear hK hS hC hC1 K S C hf)|((first|refine zn ?_|refine ze ?_|refine zk ?_);with_reducible (constructor;repeat constructor);try refine zl ?_)))
 exact aC (aT rfl)
theorem rW (s:Str) (hs:s.length≤140737488355328) (d:Nat) (e:UInt8) (sk un:Nat→Option Nat) (hsb:∀ i j,i < s.length→sk i=some j→i < j∧j≤s.length) (hub:Bd s un)
  (hSk:∀ i p,i < s.length→aA Tryz.prog 82 [.str s,.int .i64 i,.int .i64 d] (Oid.under p) ⟨[],.int .i64 (fK (if decide (30 < d) then none else sk i)),[]⟩)
  (hUn:d≤30→∀ i p,i≤s.length→aA Tryz.prog 125 [.str s,.int .i64 i,.int .u8 (41:UInt8).toNat,.int .i64 (d+1:Nat)] (Oid.under p) ⟨[],.int .i64 (fK (un i)),[]⟩)
  (i:Nat) (hi:i≤s.length) (p:Oid):aA Tryz.prog 125 [.str s,.int .i64 i,.int .u8 e.toNat,.int .i64 d] (Oid.under p) ⟨[],.int .i64 (fK (dP s e (decide (30 < d)) sk un (s.length+1) i)),[]⟩:=by
 generalize hZ:dP s e (decide (30 < d)) sk un (s.length+1) i=Z
 refine aN (n:=58) (rs:=[.tmp 8]) Tryz.func125 rfl rfl (by decide) rfl rfl rfl ?_;rintro x rfl hrd hng
 (repeat (first|(refine ah rfl rfl ?_)|(refine aj rfl rfl ?_)|(refine af nmd [] hng (by kernel_rfl) fun hf C S K hC1 hC hS hK=>?_;simp (disch:=first|omega|assumption) only [go_sem];refine hK ?_;clear hK hS hC hC1 K S C hf)|((first|refine zn ?_|refine ze ?_|refine zk ?_);with_reducible (constructor;repeat constructor);try refine zl ?_)))
 refine a6 [0,1,2,3] (fun k s'=>∃ (j f c:Nat),s' = ⟨[(0,.str s),(1,.int .i64 j),(2,.int .u8 e.toNat),(3,.int .i64 d)],Mem.of [],c,[]⟩∧k=s.length - j∧j≤s.length∧s.length - j≤f∧Z=dP s e (decide (30 < d)) sk un f j) _ ⟨i,s.length+1,_,rfl,rfl,by omega,by omega,hZ.symm⟩ ?_
 rintro k s' ⟨j,f,c,rfl,rfl,hj,hf,hc⟩
 by_cases hlt:j < s.length
 ·have hI:(j:Int) < s.length:=by omega
  obtain ⟨f,rfl⟩:∃ f',f=f' + 1:=⟨f - 1,by omega⟩
  have qe:s.getD j 0=e↔((s.getD j 0).toNat:Int)=e.toNat:=⟨fun h=>by rw [h],fun h=>UInt8.toNat_inj.1 (by omega)⟩
  have q39:s.getD j 0=39↔((s.getD j 0).toNat:Int)=39:=cb (n:=39) (by omega)
  have q40:s.getD j 0=40↔((s.getD j 0).toNat:Int)=40:=cb (n:=40) (by omega)
  have p34:e=34↔((e).toNat:Int)=34:=cb (n:=34) (by omega)
  have p41:e=41↔((e).toNat:Int)=41:=cb (n:=41) (by omega)
  rw [dP,if_pos hlt] at hc
  have hsk:=fun p=>hSk j p hlt
  have hsj:=hsb j
  by_cases h:s.getD j 0=e
  ·have kq:=qe.1 h
   rw [if_pos h] at hc
   (repeat (first|(refine ah rfl rfl ?_)|(refine aj rfl rfl ?_)|(refine af nmd [] hng (by kernel_rfl) fun hf C S K hC1 hC hS hK=>?_;simp (disch:=first|omega|assumption) only [go_sem,hI,hlt,kq,eq_self,decide_true,decide_false,ne_eq,not_true_eq_false,not_false_eq_true];refine hK ?_;clear hK hS hC hC1 K S C hf)|((first|refine zn ?_|refine ze ?_|refine zk ?_);with_reducible (constructor;repeat constructor);try refine zl ?_)))
   exact aC (aT (by rw [hc];rfl))
  have kq:¬ ((s.getD j 0).toNat:Int)=e.toNat:=fun hh=>h (qe.2 hh)
  rw [if_neg h] at hc
  by_cases h1:e=34∧s.getD j 0=39
  ·rw [if_pos h1] at hc
   obtain ⟨rfl,h39⟩:=h1
   have k1:((34:UInt8).toNat:Int)=34:=rfl
   have k2:=q39.1 h39
   by_cases hd:30 < d
   ·have hdI:(d:Int) > 30:=by omega
    rw [if_pos (decide_eq_true hd)] at hc
    (repeat (first|(refine ah rfl rfl ?_)|(refine aj rfl rfl ?_)|(refine af nmd [] hng (by kernel_rfl) fun hf C S K hC1 hC hS hK=>?_;simp (disch:=first|omega|assumption) only [go_sem,hI,hlt,kq,decide_true,decide_false,ne_eq,not_true_eq_false,not_false_eq_true];refine hK ?_;clear hK hS hC hC1 K S C hf)|((first|refine zn ?_|refine ze ?_|refine zk ?_);with_reducible (constructor;repeat constructor);try refine zl ?_)))
    refine af nmd [(2,30)] hng (by kernel_rfl) fun hf C S K hC1 hC hS hK=>?_;simp (disch:=first|omega|assumption) only [go_sem,k1,k2,hlt,eq_self,decide_true,decide_false,ne_eq,not_true_eq_false,not_false_eq_true]
    refine hK ?_;clear hK hS hC hC1 K S C hf
    (repeat (first|(refine ah rfl rfl ?_)|(refine aj rfl rfl ?_)|(refine af nmd [] hng (by kernel_rfl) fun hf C S K hC1 hC hS hK=>?_;simp (disch:=first|omega|assumption) only [go_sem,hdI,decide_true,decide_false,ne_eq,not_true_eq_false,not_false_eq_true];refine hK ?_;clear hK hS hC hC1 K S C hf)|((first|refine zn ?_|refine ze ?_|refine zk ?_);with_reducible (constructor;repeat constructor);try refine zl ?_)))
    exact aC (aT (by rw [hc];rfl))
   ·have hdI:¬ (d:Int) > 30:=by omega
    have hj0:¬ (j:Int)+1 < 0:=by omega
    rw [if_neg (by simp [hd])] at hc
    (repeat (first|(refine ah rfl rfl ?_)|(refine aj rfl rfl ?_)|(refine af nmd [] hng (by kernel_rfl) fun hf C S K hC1 hC hS hK=>?_;simp (disch:=first|omega|assumption) only [go_sem,hI,hlt,kq,decide_true,decide_false,ne_eq,not_true_eq_false,not_false_eq_true];refine hK ?_;clear hK hS hC hC1 K S C hf)|((first|refine zn ?_|refine ze ?_|refine zk ?_);with_reducible (constructor;repeat constructor);try refine zl ?_)))
    refine af nmd [(2,30)] hng (by kernel_rfl) fun hf C S K hC1 hC hS hK=>?_;simp (disch:=first|omega|assumption) only [go_sem,k1,k2,hlt,eq_self,decide_true,decide_false,ne_eq,not_true_eq_false,not_false_eq_true]
    refine hK ?_;clear hK hS hC hC1 K S C hf
    (repeat (first|(refine ah rfl rfl ?_)|(refine aj rfl rfl ?_)|(refine af nmd [] hng (by kernel_rfl) fun hf C S K hC1 hC hS hK=>?_;simp (disch:=first|omega|assumption) only [go_sem,hdI,hj0,decide_true,decide_false,ne_eq,not_true_eq_false,not_false_eq_true];refine hK ?_;clear hK hS hC hC1 K S C hf)|((first|refine zn ?_|refine ze ?_|refine zk ?_);with_reducible (constructor;repeat constructor);try refine zl ?_)))
    exact ⟨_,_,by omega,fun _ _ h=>h,j+1,f,_,rfl,rfl,by omega,by omega,hc⟩
  rw [if_neg h1] at hc
  by_cases h2:e=41∧s.getD j 0=40
  ·rw [if_pos h2] at hc
   obtain ⟨rfl,h40⟩:=h2
   have k1:((41:UInt8).toNat:Int)=41:=rfl
   have k2:=q40.1 h40
   have k3:¬ (((41:UInt8).toNat:Int)=34):=by decide
   by_cases hd:30 < d
   ·have hdI:¬ (d:Int)≤30:=by omega
    rw [if_pos (decide_eq_true hd)] at hc
    (repeat (first|(refine ah rfl rfl ?_)|(refine aj rfl rfl ?_)|(refine af nmd [] hng (by kernel_rfl) fun hf C S K hC1 hC hS hK=>?_;simp (disch:=first|omega|assumption) only [go_sem,hI,hlt,kq,decide_true,decide_false,ne_eq,not_true_eq_false,not_false_eq_true];refine hK ?_;clear hK hS hC hC1 K S C hf)|((first|refine zn ?_|refine ze ?_|refine zk ?_);with_reducible (constructor;repeat constructor);try refine zl ?_)))
    refine af nmd [(2,30)] hng (by kernel_rfl) fun hf C S K hC1 hC hS hK=>?_;simp (disch:=first|omega|assumption) only [go_sem,k3,decide_true,decide_false,ne_eq,not_true_eq_false,not_false_eq_true]
    refine hK ?_;clear hK hS hC hC1 K S C hf
    (repeat (first|(refine ah rfl rfl ?_)|(refine aj rfl rfl ?_)|(refine af nmd [] hng (by kernel_rfl) fun hf C S K hC1 hC hS hK=>?_;simp (disch:=first|omega|assumption) only [go_sem,hdI,decide_true,decide_false,ne_eq,not_true_eq_false,not_false_eq_true];refine hK ?_;clear hK hS hC hC1 K S C hf)|((first|refine zn ?_|refine ze ?_|refine zk ?_);with_reducible (constructor;repeat constructor);try refine zl ?_)))
    refine af nmd [(2,41)] hng (by kernel_rfl) fun hf C S K hC1 hC hS hK=>?_;simp (disch:=first|omega|assumption) only [go_sem,k1,k2,hlt,eq_self,decide_true,decide_false,ne_eq,not_true_eq_false,not_false_eq_true]
    refine hK ?_;clear hK hS hC hC1 K S C hf
    (repeat (first|(refine ah rfl rfl ?_)|(refine aj rfl rfl ?_)|(refine af nmd [] hng (by kernel_rfl) fun hf C S K hC1 hC hS hK=>?_;simp (disch:=first|omega|assumption) only [go_sem,hdI,decide_true,decide_false,ne_eq,not_true_eq_false,not_false_eq_true];refine hK ?_;clear hK hS hC hC1 K S C hf)|((first|refine zn ?_|refine ze ?_|refine zk ?_);with_reducible (constructor;repeat constructor);try refine zl ?_)))
    exact aC (aT (by rw [hc];rfl))
   ·have hdI:(d:Int)≤30:=by omega
    have hu:=fun p=>hUn (by omega) (j+1) p (by omega)
    have hb:=hub (j+1)
    rw [if_neg (by simp [hd])] at hc
    generalize un (j+1)=o at hu hb hc
    cases o with
    | none =>
     (repeat (first|(refine ah rfl rfl ?_)|(refine aj rfl rfl ?_)|(refine af nmd [] hng (by kernel_rfl) fun hf C S K hC1 hC hS hK=>?_;simp (disch:=first|omega|assumption) only [go_sem,hI,hlt,kq,decide_true,decide_false,ne_eq,not_true_eq_false,not_false_eq_true];refine hK ?_;clear hK hS hC hC1 K S C hf)|((first|refine zn ?_|refine ze ?_|refine zk ?_);with_reducible (constructor;repeat constructor);try refine zl ?_)))
     refine af nmd [(2,30)] hng (by kernel_rfl) fun hf C S K hC1 hC hS hK=>?_;simp (disch:=first|omega|assumption) only [go_sem,k3,decide_true,decide_false,ne_eq,not_true_eq_false,not_false_eq_true]
     refine hK ?_;clear hK hS hC hC1 K S C hf
     (repeat (first|(refine ah rfl rfl ?_)|(refine aj rfl rfl ?_)|(refine af nmd [] hng (by kernel_rfl) fun hf C S K hC1 hC hS hK=>?_;simp (disch:=first|omega|assumption) only [go_sem,hdI,decide_true,decide_false,ne_eq,not_true_eq_false,not_false_eq_true];refine hK ?_;clear hK hS hC hC1 K S C hf)|((first|refine zn ?_|refine ze ?_|refine zk ?_);with_reducible (constructor;repeat constructor);try refine zl ?_)))
     refine af nmd [(2,41)] hng (by kernel_rfl) fun hf C S K hC1 hC hS hK=>?_;simp (disch:=first|omega|assumption) only [go_sem,k1,k2,hlt,eq_self,decide_true,decide_false,ne_eq,not_true_eq_false,not_false_eq_true]
     refine hK ?_;clear hK hS hC hC1 K S C hf
     (repeat (first|(refine ah rfl rfl ?_)|(refine aj rfl rfl ?_)|(refine af nmd [] hng (by kernel_rfl) fun hf C S K hC1 hC hS hK=>?_;simp (disch:=first|omega|assumption) only [go_sem,hdI,decide_true,decide_false,ne_eq,not_true_eq_false,not_false_eq_true];(repeat ((first|refine hC1 _ (hu _) (by simp (disch:=first|omega|assumption) only [go_sem]) ?_);simp (disch:=first|omega|assumption) only [go_sem]));refine hK ?_;clear hK hS hC hC1 K S C hf)|((first|refine zn ?_|refine ze ?_|refine zk ?_);with_reducible (constructor;repeat constructor);try refine zl ?_)))
     exact aC (aT (by rw [hc];rfl))
    | some v =>
     obtain ⟨b1,b2⟩:=hb v rfl
     have hv0:¬ (v:Int) < 0:=by omega
     (repeat (first|(refine ah rfl rfl ?_)|(refine aj rfl rfl ?_)|(refine af nmd [] hng (by kernel_rfl) fun hf C S K hC1 hC hS hK=>?_;simp (disch:=first|omega|assumption) only [go_sem,hI,hlt,kq,decide_true,decide_false,ne_eq,not_true_eq_false,not_false_eq_true];refine hK ?_;clear hK hS hC hC1 K S C hf)|((first|refine zn ?_|refine ze ?_|refine zk ?_);with_reducible (constructor;repeat constructor);try refine zl ?_)))
     refine af nmd [(2,30)] hng (by kernel_rfl) fun hf C S K hC1 hC hS hK=>?_;simp (disch:=first|omega|assumption) only [go_sem,k3,decide_true,decide_false,ne_eq,not_true_eq_false,not_false_eq_true]
     refine hK ?_;clear hK hS hC hC1 K S C hf
     (repeat (first|(refine ah rfl rfl ?_)|(refine aj rfl rfl ?_)|(refine af nmd [] hng (by kernel_rfl) fun hf C S K hC1 hC hS hK=>?_;simp (disch:=first|omega|assumption) only [go_sem,hdI,decide_true,decide_false,ne_eq,not_true_eq_false,not_false_eq_true];refine hK ?_;clear hK hS hC hC1 K S C hf)|((first|refine zn ?_|refine ze ?_|refine zk ?_);with_reducible (constructor;repeat constructor);try refine zl ?_)))
     refine af nmd [(2,41)] hng (by kernel_rfl) fun hf C S K hC1 hC hS hK=>?_;simp (disch:=first|omega|assumption) only [go_sem,k1,k2,hlt,eq_self,decide_true,decide_false,ne_eq,not_true_eq_false,not_false_eq_true]
     refine hK ?_;clear hK hS hC hC1 K S C hf
     (repeat (first|(refine ah rfl rfl ?_)|(refine aj rfl rfl ?_)|(refine af nmd [] hng (by kernel_rfl) fun hf C S K hC1 hC hS hK=>?_;simp (disch:=first|omega|assumption) only [go_sem,hdI,hv0,fK,decide_true,decide_false,ne_eq,not_true_eq_false,not_false_eq_true];(repeat ((first|refine hC1 _ (hu _) (by simp (disch:=first|omega|assumption) only [go_sem]) ?_);simp (disch:=first|omega|assumption) only [go_sem]));refine hK ?_;clear hK hS hC hC1 K S C hf)|((first|refine zn ?_|refine ze ?_|refine zk ?_);with_reducible (constructor;repeat constructor);try refine zl ?_)))
     exact ⟨_,_,by omega,fun _ _ h=>h,v,f,_,rfl,rfl,by omega,by omega,hc⟩
  rw [if_neg h2] at hc
  have hW:(if decide (30 < d)=true then none else sk j)=none∨∃ v,(if decide (30 < d)=true then none else sk j)=some v∧j < v∧v≤s.length:=by
   split
   ·exact .inl rfl
   ·cases ho:sk j with
    | none=>exact .inl rfl
    | some v=>exact .inr ⟨v,rfl,hsj v hlt ho⟩
  generalize (if decide (30 < d)=true then none else sk j)=o at hsk hc hW
  have n1:¬ ((e.toNat:Int)=34∧((s.getD j 0).toNat:Int)=39):=fun hh=>h1 ⟨p34.2 hh.1,q39.2 hh.2⟩
  have n2:¬ ((e.toNat:Int)=41∧((s.getD j 0).toNat:Int)=40):=fun hh=>h2 ⟨p41.2 hh.1,q40.2 hh.2⟩
  rcases hW with rfl|⟨v,rfl,b1,b2⟩
  ·(repeat (first|(refine ah rfl rfl ?_)|(refine aj rfl rfl ?_)|(refine af nmd [] hng (by kernel_rfl) fun hf C S K hC1 hC hS hK=>?_;simp (disch:=first|omega|assumption) only [go_sem,hI,hlt,kq,decide_true,decide_false,ne_eq,not_true_eq_false,not_false_eq_true];refine hK ?_;clear hK hS hC hC1 K S C hf)|((first|refine zn ?_|refine ze ?_|refine zk ?_);with_reducible (constructor;repeat constructor);try refine zl ?_)))
   by_cases k34:(e.toNat:Int)=34
   ·have k39:¬ ((s.getD j 0).toNat:Int)=39:=fun hh=>n1 ⟨k34,hh⟩
    obtain rfl:=p34.2 k34
    have k41:¬ (34:Int)=41:=by decide
    refine af nmd [(2,30)] hng (by kernel_rfl) fun hf C S K hC1 hC hS hK=>?_;simp (disch:=first|omega|assumption) only [go_sem,k34,k39,hlt,eq_self,decide_true,decide_false,ne_eq,not_true_eq_false,not_false_eq_true]
    refine hK ?_;clear hK hS hC hC1 K S C hf
    (repeat (first|(refine ah rfl rfl ?_)|(refine aj rfl rfl ?_)|(refine af nmd [] hng (by kernel_rfl) fun hf C S K hC1 hC hS hK=>?_;simp (disch:=first|omega|assumption) only [go_sem];refine hK ?_;clear hK hS hC hC1 K S C hf)|((first|refine zn ?_|refine ze ?_|refine zk ?_);with_reducible (constructor;repeat constructor);try refine zl ?_)))
    refine af nmd [(2,41)] hng (by kernel_rfl) fun hf C S K hC1 hC hS hK=>?_;simp (disch:=first|omega|assumption) only [go_sem,k41,decide_true,decide_false,ne_eq,not_true_eq_false,not_false_eq_true]
    refine hK ?_;clear hK hS hC hC1 K S C hf
    (repeat (first|(refine ah rfl rfl ?_)|(refine aj rfl rfl ?_)|(refine af nmd [] hng (by kernel_rfl) fun hf C S K hC1 hC hS hK=>?_;simp (disch:=first|omega|assumption) only [go_sem];(repeat ((first|refine hC1 _ (hsk _) (by simp (disch:=first|omega|assumption) only [go_sem]) ?_);simp (disch:=first|omega|assumption) only [go_sem]));refine hK ?_;clear hK hS hC hC1 K S C hf)|((first|refine zn ?_|refine ze ?_|refine zk ?_);with_reducible (constructor;repeat constructor);try refine zl ?_)))
    exact aC (aT (by rw [hc];rfl))
   ·refine af nmd [(2,30)] hng (by kernel_rfl) fun hf C S K hC1 hC hS hK=>?_;simp (disch:=first|omega|assumption) only [go_sem,k34,decide_true,decide_false,ne_eq,not_true_eq_false,not_false_eq_true]
    refine hK ?_;clear hK hS hC hC1 K S C hf
    (repeat (first|(refine ah rfl rfl ?_)|(refine aj rfl rfl ?_)|(refine af nmd [] hng (by kernel_rfl) fun hf C S K hC1 hC hS hK=>?_;simp (disch:=first|omega|assumption) only [go_sem];refine hK ?_;clear hK hS hC hC1 K S C hf)|((first|refine zn ?_|refine ze ?_|refine zk ?_);with_reducible (constructor;repeat constructor);try refine zl ?_)))
    by_cases k41:(e.toNat:Int)=41
    ·have k40:¬ ((s.getD j 0).toNat:Int)=40:=fun hh=>n2 ⟨k41,hh⟩
     obtain rfl:=p41.2 k41
     refine af nmd [(2,41)] hng (by kernel_rfl) fun hf C S K hC1 hC hS hK=>?_;simp (disch:=first|omega|assumption) only [go_sem,k41,k40,hlt,eq_self,decide_true,decide_false,ne_eq,not_true_eq_false,not_false_eq_true]
     refine hK ?_;clear hK hS hC hC1 K S C hf
     (repeat (first|(refine ah rfl rfl ?_)|(refine aj rfl rfl ?_)|(refine af nmd [] hng (by kernel_rfl) fun hf C S K hC1 hC hS hK=>?_;simp (disch:=first|omega|assumption) only [go_sem];(repeat ((first|refine hC1 _ (hsk _) (by simp (disch:=first|omega|assumption) only [go_sem]) ?_);simp (disch:=first|omega|assumption) only [go_sem]));refine hK ?_;clear hK hS hC hC1 K S C hf)|((first|refine zn ?_|refine ze ?_|refine zk ?_);with_reducible (constructor;repeat constructor);try refine zl ?_)))
     exact aC (aT (by rw [hc];rfl))
    ·refine af nmd [(2,41)] hng (by kernel_rfl) fun hf C S K hC1 hC hS hK=>?_;simp (disch:=first|omega|assumption) only [go_sem,k41,decide_true,decide_false,ne_eq,not_true_eq_false,not_false_eq_true]
     refine hK ?_;clear hK hS hC hC1 K S C hf
     (repeat (first|(refine ah rfl rfl ?_)|(refine aj rfl rfl ?_)|(refine af nmd [] hng (by kernel_rfl) fun hf C S K hC1 hC hS hK=>?_;simp (disch:=first|omega|assumption) only [go_sem];(repeat ((first|refine hC1 _ (hsk _) (by simp (disch:=first|omega|assumption) only [go_sem]) ?_);simp (disch:=first|omega|assumption) only [go_sem]));refine hK ?_;clear hK hS hC hC1 K S C hf)|((first|refine zn ?_|refine ze ?_|refine zk ?_);with_reducible (constructor;repeat constructor);try refine zl ?_)))
     exact aC (aT (by rw [hc];rfl))
  ·have hv0:¬ (v:Int) < 0:=by omega
   (repeat (first|(refine ah rfl rfl ?_)|(refine aj rfl rfl ?_)|(refine af nmd [] hng (by kernel_rfl) fun hf C S K hC1 hC hS hK=>?_;simp (disch:=first|omega|assumption) only [go_sem,hI,hlt,kq,decide_true,decide_false,ne_eq,not_true_eq_false,not_false_eq_true];refine hK ?_;clear hK hS hC hC1 K S C hf)|((first|refine zn ?_|refine ze ?_|refine zk ?_);with_reducible (constructor;repeat constructor);try refine zl ?_)))
   by_cases k34:(e.toNat:Int)=34
   ·have k39:¬ ((s.getD j 0).toNat:Int)=39:=fun hh=>n1 ⟨k34,hh⟩
    obtain rfl:=p34.2 k34
    have k41:¬ (34:Int)=41:=by decide
    refine af nmd [(2,30)] hng (by kernel_rfl) fun hf C S K hC1 hC hS hK=>?_;simp (disch:=first|omega|assumption) only [go_sem,k34,k39,hlt,eq_self,decide_true,decide_false,ne_eq,not_true_eq_false,not_false_eq_true]
    refine hK ?_;clear hK hS hC hC1 K S C hf
    (repeat (first|(refine ah rfl rfl ?_)|(refine aj rfl rfl ?_)|(refine af nmd [] hng (by kernel_rfl) fun hf C S K hC1 hC hS hK=>?_;simp (disch:=first|omega|assumption) only [go_sem];refine hK ?_;clear hK hS hC hC1 K S C hf)|((first|refine zn ?_|refine ze ?_|refine zk ?_);with_reducible (constructor;repeat constructor);try refine zl ?_)))
    refine af nmd [(2,41)] hng (by kernel_rfl) fun hf C S K hC1 hC hS hK=>?_;simp (disch:=first|omega|assumption) only [go_sem,k41,decide_true,decide_false,ne_eq,not_true_eq_false,not_false_eq_true]
    refine hK ?_;clear hK hS hC hC1 K S C hf
    (repeat (first|(refine ah rfl rfl ?_)|(refine aj rfl rfl ?_)|(refine af nmd [] hng (by kernel_rfl) fun hf C S K hC1 hC hS hK=>?_;simp (disch:=first|omega|assumption) only [go_sem,hv0,fK,decide_true,decide_false,ne_eq,not_true_eq_false,not_false_eq_true];(repeat ((first|refine hC1 _ (hsk _) (by simp (disch:=first|omega|assumption) only [go_sem]) ?_);simp (disch:=first|omega|assumption) only [go_sem]));refine hK ?_;clear hK hS hC hC1 K S C hf)|((first|refine zn ?_|refine ze ?_|refine zk ?_);with_reducible (constructor;repeat constructor);try refine zl ?_)))
    exact ⟨_,_,by omega,fun _ _ h=>h,v,f,_,rfl,rfl,by omega,by omega,hc⟩
   ·refine af nmd [(2,30)] hng (by kernel_rfl) fun hf C S K hC1 hC hS hK=>?_;simp (disch:=first|omega|assumption) only [go_sem,k34,decide_true,decide_false,ne_eq,not_true_eq_false,not_false_eq_true]
    refine hK ?_;clear hK hS hC hC1 K S C hf
    (repeat (first|(refine ah rfl rfl ?_)|(refine aj rfl rfl ?_)|(refine af nmd [] hng (by kernel_rfl) fun hf C S K hC1 hC hS hK=>?_;simp (disch:=first|omega|assumption) only [go_sem];refine hK ?_;clear hK hS hC hC1 K S C hf)|((first|refine zn ?_|refine ze ?_|refine zk ?_);with_reducible (constructor;repeat constructor);try refine zl ?_)))
    by_cases k41:(e.toNat:Int)=41
    ·have k40:¬ ((s.getD j 0).toNat:Int)=40:=fun hh=>n2 ⟨k41,hh⟩
     obtain rfl:=p41.2 k41
     refine af nmd [(2,41)] hng (by kernel_rfl) fun hf C S K hC1 hC hS hK=>?_;simp (disch:=first|omega|assumption) only [go_sem,k41,k40,hlt,eq_self,decide_true,decide_false,ne_eq,not_true_eq_false,not_false_eq_true]
     refine hK ?_;clear hK hS hC hC1 K S C hf
     (repeat (first|(refine ah rfl rfl ?_)|(refine aj rfl rfl ?_)|(refine af nmd [] hng (by kernel_rfl) fun hf C S K hC1 hC hS hK=>?_;simp (disch:=first|omega|assumption) only [go_sem,hv0,fK,decide_true,decide_false,ne_eq,not_true_eq_false,not_false_eq_true];(repeat ((first|refine hC1 _ (hsk _) (by simp (disch:=first|omega|assumption) only [go_sem]) ?_);simp (disch:=first|omega|assumption) only [go_sem]));refine hK ?_;clear hK hS hC hC1 K S C hf)|((first|refine zn ?_|refine ze ?_|refine zk ?_);with_reducible (constructor;repeat constructor);try refine zl ?_)))
     exact ⟨_,_,by omega,fun _ _ h=>h,v,f,_,rfl,rfl,by omega,by omega,hc⟩
    ·refine af nmd [(2,41)] hng (by kernel_rfl) fun hf C S K hC1 hC hS hK=>?_;simp (disch:=first|omega|assumption) only [go_sem,k41,decide_true,decide_false,ne_eq,not_true_eq_false,not_false_eq_true]
     refine hK ?_;clear hK hS hC hC1 K S C hf
     (repeat (first|(refine ah rfl rfl ?_)|(refine aj rfl rfl ?_)|(refine af nmd [] hng (by kernel_rfl) fun hf C S K hC1 hC hS hK=>?_;simp (disch:=first|omega|assumption) only [go_sem,hv0,fK,decide_true,decide_false,ne_eq,not_true_eq_false,not_false_eq_true];(repeat ((first|refine hC1 _ (hsk _) (by simp (disch:=first|omega|assumption) only [go_sem]) ?_);simp (disch:=first|omega|assumption) only [go_sem]));refine hK ?_;clear hK hS hC hC1 K S C hf)|((first|refine zn ?_|refine ze ?_|refine zk ?_);with_reducible (constructor;repeat constructor);try refine zl ?_)))
     exact ⟨_,_,by omega,fun _ _ h=>h,v,f,_,rfl,rfl,by omega,by omega,hc⟩
 ·have hI:¬ (j:Int) < s.length:=by omega
  rw [tK hlt] at hc
  (repeat (first|(refine ah rfl rfl ?_)|(refine aj rfl rfl ?_)|(refine af nmd [] hng (by kernel_rfl) fun hf C S K hC1 hC hS hK=>?_;simp (disch:=first|omega|assumption) only [go_sem,hI,decide_true,decide_false,ne_eq,not_true_eq_false,not_false_eq_true];refine hK ?_;clear hK hS hC hC1 K S C hf)|((first|refine zn ?_|refine ze ?_|refine zk ?_);with_reducible (constructor;repeat constructor);try refine zl ?_)))
  exact aC (aT (by rw [hc];rfl))
theorem rX (s:Str) (hs:s.length≤140737488355328):∀ (r d:Nat),d+r=31→∀ (e:UInt8) (i:Nat) (p:Oid),i≤s.length →
  aA Tryz.prog 125 [.str s,.int .i64 i,.int .u8 e.toNat,.int .i64 d] (Oid.under p) ⟨[],.int .i64 (fK (gI s r e i)),[]⟩
 | 0,d,hd,e,i,p,hi=>by
  obtain rfl:d=31:=by omega
  have h:=rW s hs 31 e (fun _=>none) (fun _=>none) (fun _ _ _ h=>by cases h) (fun _ _ h=>by cases h) (fun i p _=>zi s i p) (fun h=>absurd h (by decide)) i hi p
  exact h
 | r+1,d,hd,e,i,p,hi=>by
  have hd2:decide (30 < d)=false:=decide_eq_false (by omega)
  have ih:=fun e i p hi=>rX s hs r (d+1) (by omega) e i p hi
  have h:=rW s hs d e (gH s (gI s r)) (gI s r 41) (fun i j hi h=>mM s _ (ez s r) i j hi h) (ez s r 41)
   (fun i p hi=>by rw [hd2];exact uZ s hs d (by omega) _ ih i hi p) (fun _ i p hi=>ih 41 i p hi) i hi p
  rw [hd2] at h
  exact h
theorem u7 (s:Str) (hs:s.length≤140737488355328) (i:Nat) (hi:i < s.length) (p:Oid):aA Tryz.prog 82 [.str s,.int .i64 i,.int .i64 1] (Oid.under p) ⟨[],.int .i64 (fK (iW s i)),[]⟩ :=
 uZ s hs 1 (by decide) _ (fun e i p hi=>rX s hs 29 2 rfl e i p hi) i hi p
end Go.Proofs.YtlfeacmbhldjcaaGreatDoor
namespace Go.Proofs.YtlfeacmbhldjcaaGreatDoor
open Go Go.Ab
set_option maxRecDepth 20000
set_option maxHeartbeats 4000000
theorem kz:∀ (L:List Pt) (a p:Pt),di (L++[a]) p=if oC a p then L++[a.more p.text] else L++[a,p]
 | [],a,p=>rfl
 | [b],a,p=>by
  show b::di [a] p=_
  rw [di];split<;>rfl
 | b::c::L,a,p=>by
  have ih:=kz (c::L) a p
  show b::di (c::(L++[a])) p=_
  rw [List.cons_append] at ih
  rw [ih];split<;>rfl
theorem pX (a b:List Pt):Pt.avs (a++b)=Pt.avs a++Pt.avs b:=by simp only [Pt.pU,List.map_append]
theorem iH (a:List Pt):(Pt.avs a).length=a.length:=by simp only [Pt.pU,List.length_map]
theorem Db (l:List Pt) (hl:l.length≤140737488355) (p:Pt) (ht:∀ a,a ∈ l→a.text.length+p.text.length≤140737488355328) (q:Oid) :
  aA Tryz.prog 84 [.list 6 (Pt.avs l),p.av] (Oid.under q) ⟨[],.list 6 (Pt.avs (di l p)),[]⟩:=by
 obtain ⟨pk,pq,pt,pn,po,pw⟩:=p
 rw [Pt.av]
 simp only [Pt.text] at ht
 rcases List.eq_nil_or_concat l with rfl|⟨L,a,rfl⟩
 ·rw [show Pt.avs []=[] from rfl,show Pt.avs (di [] (Pt.mk pk pq pt pn po pw))=[.agg [.int .i64 pk,.bool pq,.str pt,.str pn,.str po,.list 6 (Pt.avs pw)]] from rfl]
  have hz:¬ ((0:Int)≤((0:Nat):Int) - 1):=by decide
  refine aN (n:=55) (rs:=[.tmp 4]) Tryz.func84 rfl rfl (by decide) rfl rfl rfl ?_;rintro x rfl hrd hng
  (repeat (first|(refine ah rfl rfl ?_)|(refine aj rfl rfl ?_)|(refine af nmd [] hng (by kernel_rfl) fun hf C S K hC1 hC hS hK=>?_;simp (disch:=first|omega|assumption) only [go_sem];refine hK ?_;clear hK hS hC hC1 K S C hf)|((first|refine zn ?_|refine ze ?_|refine zk ?_);with_reducible (constructor;repeat constructor);try refine zl ?_)))
  refine pa 5 6 rfl ?_
  simp (disch:=first|omega|assumption) only [go_sem]
  (repeat (first|(refine ah rfl rfl ?_)|(refine aj rfl rfl ?_)|(refine af nmd [] hng (by kernel_rfl) fun hf C S K hC1 hC hS hK=>?_;simp (disch:=first|omega|assumption) only [go_sem,fq];refine hK ?_;clear hK hS hC hC1 K S C hf)|((first|refine zn ?_|refine ze ?_|refine zk ?_);with_reducible (constructor;repeat constructor);try refine zl ?_)))
  refine bE nmd [(2,15),(7,20),(15,28)] [] mixed hng (by kernel_rfl) [0,1,3,4,5,6,37] fun hf C S K hC hS hK=>?_;simp (disch:=first|omega|assumption) only [go_sem,hz,decide_true,decide_false,ne_eq,not_true_eq_false,not_false_eq_true]
  (first|refine hK (aK rfl) ?_|refine hK (by simp (disch:=first|omega|assumption) only [go_sem,List.reverse_cons,List.reverse_nil,ne_eq,not_false_eq_true,implies_true]) ?_);clear hK hS hC K S C hf
  (repeat (first|(refine ah rfl rfl ?_)|(refine aj rfl rfl ?_)|(refine af nmd [] hng (by kernel_rfl) fun hf C S K hC1 hC hS hK=>?_;simp (disch:=first|omega|assumption) only [go_sem,fq];refine hK ?_;clear hK hS hC hC1 K S C hf)|((first|refine zn ?_|refine ze ?_|refine zk ?_);with_reducible (constructor;repeat constructor);try refine zl ?_)))
  exact fF (xs:=[.agg [.int .i64 pk,.bool pq,.str pt,.str pn,.str po,.list 6 (Pt.avs pw)]]) rfl (by simp (disch:=first|omega|assumption) only [go_sem]) rfl rfl
 ·rw [List.concat_eq_append] at *
  have hL:L.length+1≤140737488355:=by rw [List.length_append] at hl;exact hl
  have ha:=ht a (by simp)
  clear ht hl
  obtain ⟨ak,aq,at',an,ao,aw⟩:=a
  simp only [Pt.text] at ha
  have hx:(Pt.avs L).length=L.length:=iH L
  have eT:(pk=0∧ak=0∧aq=pq)→Pt.avs (di (L++[.mk ak aq at' an ao aw]) (.mk pk pq pt pn po pw))=Pt.avs L++[AV.agg [.int .i64 ak,.bool aq,.str (at' ++ pt),.str an,.str ao,.list 6 (Pt.avs aw)]]:=fun ⟨h1,h2,h3⟩=>by
   have hj:oC (.mk ak aq at' an ao aw) (.mk pk pq pt pn po pw)=true:=by simp [oC,Pt.kind,Pt.quoted,h1,h2,h3]
   rw [kz,if_pos hj,pX];rfl
  have eF:¬ (pk=0∧ak=0∧aq=pq)→Pt.avs (di (L++[.mk ak aq at' an ao aw]) (.mk pk pq pt pn po pw))=Pt.avs L++[AV.agg [.int .i64 ak,.bool aq,.str at',.str an,.str ao,.list 6 (Pt.avs aw)],AV.agg [.int .i64 pk,.bool pq,.str pt,.str pn,.str po,.list 6 (Pt.avs pw)]]:=fun h=>by
   have hj:¬ oC (.mk ak aq at' an ao aw) (.mk pk pq pt pn po pw)=true:=fun hh=>h (by simp only [oC,Pt.kind,Pt.quoted,Bool.and_eq_true] at hh;exact ⟨of_decide_eq_true hh.1.1,of_decide_eq_true hh.1.2,of_decide_eq_true hh.2⟩)
   rw [kz,if_neg hj,pX];rfl
  rw [pX,show Pt.avs [Pt.mk ak aq at' an ao aw]=[AV.agg [.int .i64 ak,.bool aq,.str at',.str an,.str ao,.list 6 (Pt.avs aw)]] from rfl]
  have hk:((L.length+1:Nat):Int) - 1=(L.length:Int):=by omega
  have hg:(Pt.avs L++[AV.agg [.int .i64 ak,.bool aq,.str at',.str an,.str ao,.list 6 (Pt.avs aw)]]).getD L.length .undef=AV.agg [.int .i64 ak,.bool aq,.str at',.str an,.str ao,.list 6 (Pt.avs aw)]:=by
   rw [List.getD_eq_getElem?_getD,← hx,List.getElem?_concat_length];rfl
  have hLI:(0:Int)≤(L.length:Int):=by omega
  have hlt:L.length < L.length+1:=Nat.lt_succ_self _
  have hset:∀ v u:AV,(Pt.avs L++[v]).set L.length u=Pt.avs L++[u]:=fun v u=>by rw [← hx,List.set_append_right _ _ (Nat.le_refl _),Nat.sub_self];rfl
  by_cases hc:pk=0∧ak=0∧aq=pq
  ·rw [eT hc]
   obtain ⟨rfl,rfl,rfl⟩:=hc
   have h00:(((0:Nat):Int)=0)=True:=eq_true rfl
   refine aN (n:=55) (rs:=[.tmp 4]) Tryz.func84 rfl rfl (by decide) rfl rfl rfl ?_;rintro x rfl hrd hng
   (repeat (first|(refine ah rfl rfl ?_)|(refine aj rfl rfl ?_)|(refine af nmd [] hng (by kernel_rfl) fun hf C S K hC1 hC hS hK=>?_;simp (disch:=first|omega|assumption) only [go_sem,hx,hk];refine hK ?_;clear hK hS hC hC1 K S C hf)|((first|refine zn ?_|refine ze ?_|refine zk ?_);with_reducible (constructor;repeat constructor);try refine zl ?_)))
   refine bE nmd [(2,15),(7,20),(15,28)] [] mixed hng (by kernel_rfl) [0,1,3,4,5,6,37] fun hf C S K hC hS hK=>?_;simp (disch:=first|omega|assumption) only [go_sem,hx,hk,hg,hLI,hlt,h00,eq_self,decide_true,decide_false,ne_eq,not_true_eq_false,not_false_eq_true]
   (first|refine hK (aK rfl) ?_|refine hK (by simp (disch:=first|omega|assumption) only [go_sem,List.reverse_cons,List.reverse_nil,ne_eq,not_false_eq_true,implies_true]) ?_);clear hK hS hC K S C hf
   (repeat (first|(refine ah rfl rfl ?_)|(refine aj rfl rfl ?_)|(refine af nmd [] hng (by kernel_rfl) fun hf C S K hC1 hC hS hK=>?_;simp (disch:=first|omega|assumption) only [go_sem];refine hK ?_;clear hK hS hC hC1 K S C hf)|((first|refine zn ?_|refine ze ?_|refine zk ?_);with_reducible (constructor;repeat constructor);try refine zl ?_)))
   refine bE nmd [] [] mixed hng (by kernel_rfl) [4,5] fun hf C S K hC hS hK=>?_;simp (disch:=first|omega|assumption) only [go_sem,hx,hk,hg,hLI,hlt,ha,hset,decide_true,decide_false,ne_eq,not_true_eq_false,not_false_eq_true]
   (first|refine hK (aK rfl) ?_|refine hK (by simp (disch:=first|omega|assumption) only [go_sem,List.reverse_cons,List.reverse_nil,ne_eq,not_false_eq_true,implies_true]) ?_);clear hK hS hC K S C hf
   (repeat (first|(refine ah rfl rfl ?_)|(refine aj rfl rfl ?_)|(refine af nmd [] hng (by kernel_rfl) fun hf C S K hC1 hC hS hK=>?_;simp (disch:=first|omega|assumption) only [go_sem];refine hK ?_;clear hK hS hC hC1 K S C hf)|((first|refine zn ?_|refine ze ?_|refine zk ?_);with_reducible (constructor;repeat constructor);try refine zl ?_)))
   exact fF (xs:=Pt.avs L++[AV.agg [.int .i64 (0:Nat),.bool aq,.str (at' ++ pt),.str an,.str ao,.list 6 (Pt.avs aw)]]) rfl (by simp (disch:=first|omega|assumption) only [go_sem]) (by rw [List.length_append,hx];rfl) rfl
  ·rw [eF hc]
   by_cases h1:pk=0
   ·subst h1
    have h00:(((0:Nat):Int)=0)=True:=eq_true rfl
    by_cases h2:ak=0
    ·subst h2
     have h3:(aq == pq)=false:=beq_eq_false_iff_ne.2 fun h=>hc ⟨rfl,rfl,h⟩
     refine aN (n:=55) (rs:=[.tmp 4]) Tryz.func84 rfl rfl (by decide) rfl rfl rfl ?_;rintro x rfl hrd hng
     (repeat (first|(refine ah rfl rfl ?_)|(refine aj rfl rfl ?_)|(refine af nmd [] hng (by kernel_rfl) fun hf C S K hC1 hC hS hK=>?_;simp (disch:=first|omega|assumption) only [go_sem,hx,hk];refine hK ?_;clear hK hS hC hC1 K S C hf)|((first|refine zn ?_|refine ze ?_|refine zk ?_);with_reducible (constructor;repeat constructor);try refine zl ?_)))
     refine bE nmd [(2,15),(7,20),(15,28)] [] mixed hng (by kernel_rfl) [0,1,3,4,5,6,37] fun hf C S K hC hS hK=>?_;simp (disch:=first|omega|assumption) only [go_sem,hx,hk,hg,hLI,hlt,h00,h3,eq_self,decide_true,decide_false,ne_eq,not_true_eq_false,not_false_eq_true]
     (first|refine hK (aK rfl) ?_|refine hK (by simp (disch:=first|omega|assumption) only [go_sem,List.reverse_cons,List.reverse_nil,ne_eq,not_false_eq_true,implies_true]) ?_);clear hK hS hC K S C hf
     (repeat (first|(refine ah rfl rfl ?_)|(refine aj rfl rfl ?_)|(refine af nmd [] hng (by kernel_rfl) fun hf C S K hC1 hC hS hK=>?_;simp (disch:=first|omega|assumption) only [go_sem,hx];refine hK ?_;clear hK hS hC hC1 K S C hf)|((first|refine zn ?_|refine ze ?_|refine zk ?_);with_reducible (constructor;repeat constructor);try refine zl ?_)))
     exact fF (xs:=Pt.avs L++[AV.agg [.int .i64 (0:Nat),.bool aq,.str at',.str an,.str ao,.list 6 (Pt.avs aw)]]++[AV.agg [.int .i64 (0:Nat),.bool pq,.str pt,.str pn,.str po,.list 6 (Pt.avs pw)]]) rfl (by simp (disch:=first|omega|assumption) only [go_sem]) (by rw [List.length_append,List.length_append,hx];rfl) (by rw [List.append_assoc];rfl)
    ·have h2I:¬ (ak:Int)=0:=by omega
     refine aN (n:=55) (rs:=[.tmp 4]) Tryz.func84 rfl rfl (by decide) rfl rfl rfl ?_;rintro x rfl hrd hng
     (repeat (first|(refine ah rfl rfl ?_)|(refine aj rfl rfl ?_)|(refine af nmd [] hng (by kernel_rfl) fun hf C S K hC1 hC hS hK=>?_;simp (disch:=first|omega|assumption) only [go_sem,hx,hk];refine hK ?_;clear hK hS hC hC1 K S C hf)|((first|refine zn ?_|refine ze ?_|refine zk ?_);with_reducible (constructor;repeat constructor);try refine zl ?_)))
     refine bE nmd [(2,15),(7,20),(15,28)] [] mixed hng (by kernel_rfl) [0,1,3,4,5,6,37] fun hf C S K hC hS hK=>?_;simp (disch:=first|omega|assumption) only [go_sem,hx,hk,hg,hLI,hlt,h00,h2I,eq_self,decide_true,decide_false,ne_eq,not_true_eq_false,not_false_eq_true]
     (first|refine hK (aK rfl) ?_|refine hK (by simp (disch:=first|omega|assumption) only [go_sem,List.reverse_cons,List.reverse_nil,ne_eq,not_false_eq_true,implies_true]) ?_);clear hK hS hC K S C hf
     (repeat (first|(refine ah rfl rfl ?_)|(refine aj rfl rfl ?_)|(refine af nmd [] hng (by kernel_rfl) fun hf C S K hC1 hC hS hK=>?_;simp (disch:=first|omega|assumption) only [go_sem,hx];refine hK ?_;clear hK hS hC hC1 K S C hf)|((first|refine zn ?_|refine ze ?_|refine zk ?_);with_reducible (constructor;repeat constructor);try refine zl ?_)))
     exact fF (xs:=Pt.avs L++[AV.agg [.int .i64 ak,.bool aq,.str at',.str an,.str ao,.list 6 (Pt.avs aw)]]++[AV.agg [.int .i64 (0:Nat),.bool pq,.str pt,.str pn,.str po,.list 6 (Pt.avs pw)]]) rfl (by simp (disch:=first|omega|assumption) only [go_sem]) (by rw [List.length_append,List.length_append,hx];rfl) (by rw [List.append_assoc];rfl)
   ·have h1I:¬ (pk:Int)=0:=by omega
    refine aN (n:=55) (rs:=[.tmp 4]) Tryz.func84 rfl rfl (by decide) rfl rfl rfl ?_;rintro x rfl hrd hng
    (repeat (first|(refine ah rfl rfl ?_)|(refine aj rfl rfl ?_)|(refine af nmd [] hng (by kernel_rfl) fun hf C S K hC1 hC hS hK=>?_;simp (disch:=first|omega|assumption) only [go_sem,hx,hk];refine hK ?_;clear hK hS hC hC1 K S C hf)|((first|refine zn ?_|refine ze ?_|refine zk ?_);with_reducible (constructor;repeat constructor);try refine zl ?_)))
    refine bE nmd [(2,15),(7,20),(15,28)] [] mixed hng (by kernel_rfl) [0,1,3,4,5,6,37] fun hf C S K hC hS hK=>?_;simp (disch:=first|omega|assumption) only [go_sem,hx,hk,hg,hLI,hlt,h1I,eq_self,decide_true,decide_false,ne_eq,not_true_eq_false,not_false_eq_true]
    (first|refine hK (aK rfl) ?_|refine hK (by simp (disch:=first|omega|assumption) only [go_sem,List.reverse_cons,List.reverse_nil,ne_eq,not_false_eq_true,implies_true]) ?_);clear hK hS hC K S C hf
    (repeat (first|(refine ah rfl rfl ?_)|(refine aj rfl rfl ?_)|(refine af nmd [] hng (by kernel_rfl) fun hf C S K hC1 hC hS hK=>?_;simp (disch:=first|omega|assumption) only [go_sem,hx];refine hK ?_;clear hK hS hC hC1 K S C hf)|((first|refine zn ?_|refine ze ?_|refine zk ?_);with_reducible (constructor;repeat constructor);try refine zl ?_)))
    exact fF (xs:=Pt.avs L++[AV.agg [.int .i64 ak,.bool aq,.str at',.str an,.str ao,.list 6 (Pt.avs aw)]]++[AV.agg [.int .i64 pk,.bool pq,.str pt,.str pn,.str po,.list 6 (Pt.avs pw)]]) rfl (by simp (disch:=first|omega|assumption) only [go_sem]) (by rw [List.length_append,List.length_append,hx];rfl) (by rw [List.append_assoc];rfl)
mutual
def Pt.dep:Pt→Nat
 | .mk _ _ _ _ _ w=>pY w+1
def pY:List Pt→Nat
 | []=>0
 | p::l=>max p.dep (pY l)
end
theorem pZ:∀ {l:List Pt} {p:Pt},p ∈ l→pY p.word+1≤pY l
 | [],_,h=>by cases h
 | a::l,p,h=>by
  rw [pY]
  rcases List.mem_cons.1 h with rfl|h
  ·cases p;simp only [Pt.dep,Pt.word];omega
  ·have:=pZ h;omega
theorem mS {l:List Pt} {i:Nat} (h:i < l.length):∃ p,p ∈ l∧l.drop i=p::l.drop (i+1)∧(Pt.avs l).getD i .undef=p.av:=by
 refine ⟨l[i],List.getElem_mem _,List.drop_eq_getElem_cons h,?_⟩
 rw [Pt.pU,List.getD_eq_getElem?_getD,List.getElem?_map,List.getElem?_eq_getElem h];rfl
theorem rY:∀ (n:Nat) (l:List Pt),pY l < n→wtL l≤140737488355→∀ q:Oid,aA Tryz.prog 166 [.list 6 (Pt.avs l)] (Oid.under q) ⟨[],.bool (nC l),[]⟩:=by
 intro n
 induction n with
 | zero=>intro l hd;omega
 | succ n ih =>
  intro l hd hw q
  have hlw:=jt l
  have hx:=iH l
  refine aN (n:=24) (rs:=[.tmp 2]) Tryz.func166 rfl rfl (by decide) rfl rfl rfl ?_;rintro x rfl hrd hng
  (repeat (first|(refine ah rfl rfl ?_)|(refine aj rfl rfl ?_)|(refine af nmd [] hng (by kernel_rfl) fun hf C S K hC1 hC hS hK=>?_;simp (disch:=first|omega|assumption) only [go_sem];refine hK ?_;clear hK hS hC hC1 K S C hf)|((first|refine zn ?_|refine ze ?_|refine zk ?_);with_reducible (constructor;repeat constructor);try refine zl ?_)))
  refine a6 [0,3] (fun k s'=>∃ (i c:Nat),s' = ⟨[(0,.list 6 (Pt.avs l)),(3,.int .i64 i)],Mem.of [],c,[]⟩∧k=l.length - i∧i≤l.length∧nC l=nC (l.drop i)) _ ⟨0,_,rfl,rfl,Nat.zero_le _,rfl⟩ ?_
  rintro k s' ⟨i,c,rfl,rfl,hi,hc⟩
  by_cases hlt:i < l.length
  ·have hI:(i:Int) < l.length:=by omega
   obtain ⟨p,hm,hdr,hg⟩:=mS hlt
   have hdp:=pZ hm
   have hwp:=mO hm
   rw [hdr,nC] at hc
   obtain ⟨pk,pq,pt,pn,po,pw⟩:=p
   simp only [Pt.av,Pt.word,Pt.wt,Pt.cmd] at hg hdp hwp hc
   have hlx:i < (Pt.avs l).length:=by omega
   have hC':=fun q=>ih pw (by omega) (by omega) q
   by_cases h2:pk=2
   ·have h2I:(pk:Int)=2:=by omega
    rw [decide_eq_true h2] at hc
    (repeat (first|(refine ah rfl rfl ?_)|(refine aj rfl rfl ?_)|(refine af nmd [] hng (by kernel_rfl) fun hf C S K hC1 hC hS hK=>?_;simp (disch:=first|omega|assumption) only [go_sem,hx,hI,decide_true,decide_false,ne_eq,not_true_eq_false,not_false_eq_true];refine hK ?_;clear hK hS hC hC1 K S C hf)|((first|refine zn ?_|refine ze ?_|refine zk ?_);with_reducible (constructor;repeat constructor);try refine zl ?_)))
    refine af nmd [(6,16)] hng (by kernel_rfl) fun hf C S K hC1 hC hS hK=>?_;simp (disch:=first|omega|assumption) only [go_sem,hx,hg,hlt,hlx,h2I,eq_self,decide_true,decide_false,ne_eq,not_true_eq_false,not_false_eq_true]
    refine hK ?_;clear hK hS hC hC1 K S C hf
    (repeat (first|(refine ah rfl rfl ?_)|(refine aj rfl rfl ?_)|(refine af nmd [] hng (by kernel_rfl) fun hf C S K hC1 hC hS hK=>?_;simp (disch:=first|omega|assumption) only [go_sem];refine hK ?_;clear hK hS hC hC1 K S C hf)|((first|refine zn ?_|refine ze ?_|refine zk ?_);with_reducible (constructor;repeat constructor);try refine zl ?_)))
    exact aC (aT (by rw [hc];rfl))
   ·have h2I:¬ (pk:Int)=2:=by omega
    rw [decide_eq_false h2,Bool.false_or] at hc
    generalize nC pw=b at hC' hc
    cases b
    ·rw [Bool.false_or] at hc
     (repeat (first|(refine ah rfl rfl ?_)|(refine aj rfl rfl ?_)|(refine af nmd [] hng (by kernel_rfl) fun hf C S K hC1 hC hS hK=>?_;simp (disch:=first|omega|assumption) only [go_sem,hx,hI,decide_true,decide_false,ne_eq,not_true_eq_false,not_false_eq_true];refine hK ?_;clear hK hS hC hC1 K S C hf)|((first|refine zn ?_|refine ze ?_|refine zk ?_);with_reducible (constructor;repeat constructor);try refine zl ?_)))
     refine af nmd [(6,16)] hng (by kernel_rfl) fun hf C S K hC1 hC hS hK=>?_;simp (disch:=first|omega|assumption) only [go_sem,hx,hg,hlt,hlx,h2I,decide_true,decide_false,ne_eq,not_true_eq_false,not_false_eq_true]
     refine hC1 _ (hC' _) (fun _ h=>by cases h) ?_
     simp (disch:=first|omega|assumption) only [go_sem,hx,hg,hlt,hlx,h2I,decide_true,decide_false,ne_eq,not_true_eq_false,not_false_eq_true]
     refine hK ?_;clear hK hS hC hC1 K S C hf
     (repeat (first|(refine ah rfl rfl ?_)|(refine aj rfl rfl ?_)|(refine af nmd [] hng (by kernel_rfl) fun hf C S K hC1 hC hS hK=>?_;simp (disch:=first|omega|assumption) only [go_sem];refine hK ?_;clear hK hS hC hC1 K S C hf)|((first|refine zn ?_|refine ze ?_|refine zk ?_);with_reducible (constructor;repeat constructor);try refine zl ?_)))
     exact ⟨_,_,by omega,fun _ _ h=>h,i+1,_,rfl,rfl,by omega,hc⟩
    ·(repeat (first|(refine ah rfl rfl ?_)|(refine aj rfl rfl ?_)|(refine af nmd [] hng (by kernel_rfl) fun hf C S K hC1 hC hS hK=>?_;simp (disch:=first|omega|assumption) only [go_sem,hx,hI,decide_true,decide_false,ne_eq,not_true_eq_false,not_false_eq_true];refine hK ?_;clear hK hS hC hC1 K S C hf)|((first|refine zn ?_|refine ze ?_|refine zk ?_);with_reducible (constructor;repeat constructor);try refine zl ?_)))
     refine af nmd [(6,16)] hng (by kernel_rfl) fun hf C S K hC1 hC hS hK=>?_;simp (disch:=first|omega|assumption) only [go_sem,hx,hg,hlt,hlx,h2I,decide_true,decide_false,ne_eq,not_true_eq_false,not_false_eq_true]
     refine hC1 _ (hC' _) (fun _ h=>by cases h) ?_
     simp (disch:=first|omega|assumption) only [go_sem,hx,hg,hlt,hlx,h2I,decide_true,decide_false,ne_eq,not_true_eq_false,not_false_eq_true]
     refine hK ?_;clear hK hS hC hC1 K S C hf
     (repeat (first|(refine ah rfl rfl ?_)|(refine aj rfl rfl ?_)|(refine af nmd [] hng (by kernel_rfl) fun hf C S K hC1 hC hS hK=>?_;simp (disch:=first|omega|assumption) only [go_sem];refine hK ?_;clear hK hS hC hC1 K S C hf)|((first|refine zn ?_|refine ze ?_|refine zk ?_);with_reducible (constructor;repeat constructor);try refine zl ?_)))
     exact aC (aT (by rw [hc];rfl))
  ·have hI:¬ (i:Int) < l.length:=by omega
   rw [List.drop_eq_nil_of_le (by omega)] at hc
   (repeat (first|(refine ah rfl rfl ?_)|(refine aj rfl rfl ?_)|(refine af nmd [] hng (by kernel_rfl) fun hf C S K hC1 hC hS hK=>?_;simp (disch:=first|omega|assumption) only [go_sem,hx,hI,decide_true,decide_false,ne_eq,not_true_eq_false,not_false_eq_true];refine hK ?_;clear hK hS hC hC1 K S C hf)|((first|refine zn ?_|refine ze ?_|refine zk ?_);with_reducible (constructor;repeat constructor);try refine zl ?_)))
   exact aC (aT (by rw [hc];rfl))
theorem zj:∀ (n:Nat) (l:List Pt),pY l < n→wtL l≤140737488355→∀ q:Oid,aA Tryz.prog 167 [.list 6 (Pt.avs l)] (Oid.under q) ⟨[],.list 6 (Pt.avs (eB [] l)),[]⟩:=by
 intro n
 induction n with
 | zero=>intro l hd;omega
 | succ n ih =>
  intro l hd hw q
  have hlw:=jt l
  have hx:=iH l
  refine aN (n:=25) (rs:=[.tmp 2]) Tryz.func167 rfl rfl (by decide) rfl rfl rfl ?_;rintro x rfl hrd hng
  (repeat (first|(refine ah rfl rfl ?_)|(refine aj rfl rfl ?_)|(refine af nmd [] hng (by kernel_rfl) fun hf C S K hC1 hC hS hK=>?_;simp (disch:=first|omega|assumption) only [go_sem];refine hK ?_;clear hK hS hC hC1 K S C hf)|((first|refine zn ?_|refine ze ?_|refine zk ?_);with_reducible (constructor;repeat constructor);try refine zl ?_)))
  refine bX 3 6 rfl ?_
  refine a6 [0,3,4] (fun k s'=>∃ (i c:Nat) (out:List Pt),s' = ⟨[(0,.list 6 (Pt.avs l)),(3,.list 6 (Pt.avs out)),(4,.int .i64 i)],Mem.of [],c,[]⟩∧k=l.length - i∧i≤l.length∧eB [] l=eB out (l.drop i)∧wtL out+wtL (l.drop i)≤wtL l) _ ⟨0,_,[],rfl,rfl,Nat.zero_le _,rfl,by simp [wtL]⟩ ?_
  rintro k s' ⟨i,c,out,rfl,rfl,hi,hc,hwo⟩
  by_cases hlt:i < l.length
  ·have hI:(i:Int) < l.length:=by omega
   obtain ⟨p,hm,hdr,hg⟩:=mS hlt
   have hdp:=pZ hm
   have hwp:=mO hm
   rw [hdr,eB] at hc
   rw [hdr,wtL] at hwo
   have hqw:=rV p
   have hA:=fun q=>Db out (by have:=jt out;omega) p.quote (fun a ha=>by
    have h1:=mO ha
    have h2:=a.jW
    have h3:=p.quote.jW
    omega) q
   have haw:=cC out p.quote
   generalize hP:di out p.quote=iM at hA hc haw
   obtain ⟨pk,pq,pt,pn,po,pw⟩:=p
   simp only [Pt.av,Pt.word,Pt.quote] at hg hdp hA
   have hlx:i < (Pt.avs l).length:=by omega
   have hww:wtL pw≤140737488355:=by simp only [Pt.wt] at hwp;omega
   have hC':=fun q=>ih pw (by omega) hww q
   (repeat (first|(refine ah rfl rfl ?_)|(refine aj rfl rfl ?_)|(refine af nmd [] hng (by kernel_rfl) fun hf C S K hC1 hC hS hK=>?_;simp (disch:=first|omega|assumption) only [go_sem,hx,hI,decide_true,decide_false,ne_eq,not_true_eq_false,not_false_eq_true];refine hK ?_;clear hK hS hC hC1 K S C hf)|((first|refine zn ?_|refine ze ?_|refine zk ?_);with_reducible (constructor;repeat constructor);try refine zl ?_)))
   refine af nmd [] hng (by kernel_rfl) fun hf C S K hC1 hC hS hK=>?_;simp (disch:=first|omega|assumption) only [go_sem,hx,hg,hlt,hlx,decide_true,decide_false,ne_eq,not_true_eq_false,not_false_eq_true]
   refine hK ?_;clear hK hS hC hC1 K S C hf
   (repeat (first|(refine ah rfl rfl ?_)|(refine aj rfl rfl ?_)|(refine af nmd [] hng (by kernel_rfl) fun hf C S K hC1 hC hS hK=>?_;simp (disch:=first|omega|assumption) only [go_sem];refine hK ?_;clear hK hS hC hC1 K S C hf)|((first|refine zn ?_|refine ze ?_|refine zk ?_);with_reducible (constructor;repeat constructor);try refine zl ?_)))
   refine af nmd [] hng (by kernel_rfl) fun hf C S K hC1 hC hS hK=>?_;simp (disch:=first|omega|assumption) only [go_sem]
   refine hC1 _ (hC' _) (fun _ h=>by cases h) ?_
   simp (disch:=first|omega|assumption) only [go_sem]
   refine hK ?_;clear hK hS hC hC1 K S C hf
   (repeat (first|(refine ah rfl rfl ?_)|(refine aj rfl rfl ?_)|(refine af nmd [] hng (by kernel_rfl) fun hf C S K hC1 hC hS hK=>?_;simp (disch:=first|omega|assumption) only [go_sem];refine hK ?_;clear hK hS hC hC1 K S C hf)|((first|refine zn ?_|refine ze ?_|refine zk ?_);with_reducible (constructor;repeat constructor);try refine zl ?_)))
   refine af nmd [] hng (by kernel_rfl) fun hf C S K hC1 hC hS hK=>?_;simp (disch:=first|omega|assumption) only [go_sem]
   refine hC1 _ (hA _) (fun _ h=>by cases h) ?_
   simp (disch:=first|omega|assumption) only [go_sem]
   refine hK ?_;clear hK hS hC hC1 K S C hf
   (repeat (first|(refine ah rfl rfl ?_)|(refine aj rfl rfl ?_)|(refine af nmd [] hng (by kernel_rfl) fun hf C S K hC1 hC hS hK=>?_;simp (disch:=first|omega|assumption) only [go_sem];refine hK ?_;clear hK hS hC hC1 K S C hf)|((first|refine zn ?_|refine ze ?_|refine zk ?_);with_reducible (constructor;repeat constructor);try refine zl ?_)))
   exact ⟨_,Mem.of [],by omega,(fun _ _ h=>by cases h),i+1,_,iM,rfl,rfl,by omega,hc,by omega⟩
  ·have hI:¬ (i:Int) < l.length:=by omega
   rw [List.drop_eq_nil_of_le (by omega),eB] at hc
   (repeat (first|(refine ah rfl rfl ?_)|(refine aj rfl rfl ?_)|(refine af nmd [] hng (by kernel_rfl) fun hf C S K hC1 hC hS hK=>?_;simp (disch:=first|omega|assumption) only [go_sem,hx,hI,decide_true,decide_false,ne_eq,not_true_eq_false,not_false_eq_true];refine hK ?_;clear hK hS hC hC1 K S C hf)|((first|refine zn ?_|refine ze ?_|refine zk ?_);with_reducible (constructor;repeat constructor);try refine zl ?_)))
   exact aC (aT (by rw [hc];rfl))
end Go.Proofs.YtlfeacmbhldjcaaGreatDoor
namespace Go.Ab
theorem Dc {P:Program} [Laid P] {x:Ctx} {n:Nat} {Q:AX→AS→Prop} {ks:List Pc} {s:AS} {a b:Code} {j:Nat} (ts:List Nat) (R:AS→Prop) (h:T P x n a s (after P x n (Cut P x n Q ks ts R) [.bend j])) (h2:∀ s,R s→T P x n b s (after P x n Q ks)):T P x n a s (after P x n Q (.bend j :: .code b::ks)) :=
 have key:∀ s,Cut P x n Q ks ts R .normal s→T P x n b s (after P x n Q ks):=fun s h=>by
  obtain ⟨m',h1,h3⟩:=h
  obtain ⟨fr',m1,c',ds'⟩:=s
  refine gU (s:=⟨fr',m1,c',ds'⟩) (bT ts fr') (fun t _=>jM ts fr' t) ?_
  exact lG (s:=⟨bT ts fr',m1,c',ds'⟩) m' h1 (h2 _ h3)
 gT h fun e s h=>by
  cases e with
  | normal=>exact key s h
  | exit i =>
   simp only [after] at h ⊢
   split
   ·rename_i e;rw [if_pos e] at h;exact key s h
   ·rename_i e;rw [if_neg e] at h;exact h
  | ret=>exact h
  | panic v=>exact h
end Go.Ab
namespace Go.Proofs.YtlfeacmbhldjcaaGreatDoor
open Go Go.Ab
set_option maxRecDepth 20000
set_option maxHeartbeats 4000000
def gK (sub:Str→PsE) (d:Nat) (B:Nat):Prop:=∀ (s:Str),s.length≤B→∀ q:Oid,aA Tryz.prog 37 [.str s,.int .i64 d] (Oid.under q) ⟨[],.tuple [.list 6 (Pt.avs (sub s).1),.int .i64 (sub s).2],[]⟩
theorem XA {r:Str} {i:Nat} (h:i < opsL.length):(opsL.drop i).find? (fun o=>dO r 0 o)=if dO r 0 (opsL.getD i [])=true then some (opsL.getD i []) else (opsL.drop (i+1)).find? fun o=>dO r 0 o:=by
 rw [List.drop_eq_getElem_cons h,List.find?_cons,List.getD_eq_getElem?_getD,List.getElem?_eq_getElem h,Option.getD_some]
 split
 ·rename_i e;rw [if_pos e]
 ·rename_i e;rw [if_neg (by rw [e];exact Bool.false_ne_true)]
theorem XB:∀ o,o ∈ opsL→o≠[]∧o.length≤2:=by decide
theorem Dd (r:Str):(tG r).length≤r.length:=by
 unfold tG
 cases h:opsL.find? (fun o=>dO r 0 o) with
 | none=>exact Nat.zero_le _
 | some o =>
  have h1:=List.find?_some h
  rcases lC h1 with h2|h2
  ·show o.length≤r.length;omega
  ·subst h2;exact Nat.zero_le _
theorem zm (sub:Str→PsE) (hsub:nD sub) (d B:Nat) (hd:d≤40) (hB:B≤60000000000) (hP:gK sub (d+1) B) (s:Str) (hs:s.length≤B) (qt:Bool) (q:Oid) :
  aA Tryz.prog 128 [.str s,.bool qt,.int .i64 d] (Oid.under q) ⟨[],.tuple [(cY sub s qt).1.av,.int .i64 (cY sub s qt).2],[]⟩:=by
 have hN:=fun p=>oF s (by omega) p
 have hN1:=fun p=>oF (s.drop 1) (by rw [List.length_drop];omega) p
 have hpl:=Xw s
 obtain ⟨b0,hb⟩:∃ b,b=(decide (1 < s.length) && decide (s.getD 0 0=35) && decide (js (s.drop 1)=s.length - 1)):=⟨_,rfl⟩
 refine aN (n:=121) (rs:=[.cell 6 48,.tmp 7]) Tryz.func128 rfl rfl (by decide) rfl rfl rfl ?_;rintro x rfl hrd hng
 (try ((first|refine zn ?_|refine ze ?_|refine zk ?_);with_reducible (constructor;repeat constructor));try refine zl ?_)
 refine af nmd [] hng (by kernel_rfl) fun hf C S K hC1 hC hS hK=>?_;simp (disch:=first|omega|assumption) only [go_sem]
 refine hK ?_;clear hK hS hC hC1 K S C hf
 (try ((first|refine zn ?_|refine ze ?_|refine zk ?_);with_reducible (constructor;repeat constructor));try refine zl ?_)
 refine af nmd [] hng (by kernel_rfl) fun hf C S K hC1 hC hS hK=>?_;simp (disch:=first|omega|assumption) only [go_sem]
 refine hK ?_;clear hK hS hC hC1 K S C hf
 (try ((first|refine zn ?_|refine ze ?_|refine zk ?_);with_reducible (constructor;repeat constructor));try refine zl ?_)
 refine dN (.sub 1 2 x.p) _ [.int .i64 1,.bool qt,.str [],.str [],.str [],.list 6 []] (by simp [Mem.ae]) (.cons (.refl _) (.cons (.refl _) (.cons (.refl _) (.cons (.refl _) (.cons (.refl _) (.cons (.bO 6) .nil)))))) ?_
 refine bq [(.sub 0 0 x.p,ar.cells [.int .i64 0,.bool false,.str [],.str [],.str [],.nilSl]),(.sub 1 2 x.p,.cells [.int .i64 1,.bool qt,.str [],.str [],.str [],.list 6 []])] (by simp [Mem.set,Mem.ae]) ?_
 refine dE [0,1,2,6,8,32] (fun s'=>s' = ⟨[(0,.str s),(1,.bool qt),(2,.int .i64 d),(6,.ptr (.sub 0 0 x.p) 0),(8,.ptr (.sub 1 2 x.p) 0),(32,.bool b0)],Mem.of [(.sub 0 0 x.p,ar.cells [.int .i64 0,.bool false,.str [],.str [],.str [],.nilSl]),(.sub 1 2 x.p,.cells [.int .i64 1,.bool qt,.str [],.str [],.str [],.list 6 []])],3,[]⟩) ?_ ?_
 ·by_cases h1:1 < s.length
  ·have h1I:(s.length:Int) > 1:=by omega
   have h1':0 < s.length:=by omega
   have h1'':1≤s.length:=by omega
   have q35:s.getD 0 0=35↔((s.getD 0 0).toNat:Int)=35:=cb (n:=35) (by omega)
   rw [decide_eq_true h1,Bool.true_and] at hb
   by_cases h2:s.getD 0 0=35
   ·have h2I:=q35.1 h2
    rw [decide_eq_true h2,Bool.true_and] at hb
    by_cases h3:js (s.drop 1)=s.length - 1
    ·have h3I:(js (s.drop 1):Int)=(s.length:Int) - 1:=by omega
     rw [decide_eq_true h3] at hb
     subst hb
     refine af nmd [(3,19),(8,24)] hng (by kernel_rfl) fun hf C S K hC1 hC hS hK=>?_;simp (disch:=first|omega|assumption) only [go_sem,h1I,h1',h1'',h2I,eq_self,decide_true,decide_false,ne_eq,not_true_eq_false,not_false_eq_true]
     refine hC1 _ (hN1 _) (fun _ h=>by cases h) ?_
     simp (disch:=first|omega|assumption) only [go_sem,h3I,eq_self,decide_true,decide_false,ne_eq,not_true_eq_false,not_false_eq_true]
     refine hK ?_;clear hK hS hC hC1 K S C hf
     exact aR rfl
    ·have h3I:¬ (js (s.drop 1):Int)=(s.length:Int) - 1:=by omega
     rw [decide_eq_false h3] at hb
     subst hb
     refine af nmd [(3,19),(8,24)] hng (by kernel_rfl) fun hf C S K hC1 hC hS hK=>?_;simp (disch:=first|omega|assumption) only [go_sem,h1I,h1',h1'',h2I,eq_self,decide_true,decide_false,ne_eq,not_true_eq_false,not_false_eq_true]
     refine hC1 _ (hN1 _) (fun _ h=>by cases h) ?_
     simp (disch:=first|omega|assumption) only [go_sem,h3I,eq_self,decide_true,decide_false,ne_eq,not_true_eq_false,not_false_eq_true]
     refine hK ?_;clear hK hS hC hC1 K S C hf
     exact aR rfl
   ·have h2I:¬ ((s.getD 0 0).toNat:Int)=35:=fun h=>h2 (q35.2 h)
    rw [decide_eq_false h2,Bool.false_and] at hb
    subst hb
    refine af nmd [(3,19),(8,24)] hng (by kernel_rfl) fun hf C S K hC1 hC hS hK=>?_;simp (disch:=first|omega|assumption) only [go_sem,h1I,h1',h2I,decide_true,decide_false,ne_eq,not_true_eq_false,not_false_eq_true]
    refine hK ?_;clear hK hS hC hC1 K S C hf
    exact aR rfl
  ·have h1I:¬ (s.length:Int) > 1:=by omega
   rw [decide_eq_false h1,Bool.false_and,Bool.false_and] at hb
   subst hb
   refine af nmd [(3,19),(8,24)] hng (by kernel_rfl) fun hf C S K hC1 hC hS hK=>?_;simp (disch:=first|omega|assumption) only [go_sem,h1I,decide_true,decide_false,ne_eq,not_true_eq_false,not_false_eq_true]
   refine hK ?_;clear hK hS hC hC1 K S C hf
   exact aR rfl
 rintro s' rfl
 cases b0
 case true =>
  have e:cY sub s qt=(.mk 1 qt [] (s.drop 1) [108,101,110] [],0):=by unfold cY;rw [if_pos hb.symm]
  have h1:1≤s.length:=by
   have hb':=hb.symm
   simp only [Bool.and_eq_true] at hb'
   have:=of_decide_eq_true hb'.1.1;omega
  rw [e]
  (repeat (first|(refine ah rfl rfl ?_)|(refine aj rfl rfl ?_)|(refine af nmd [] hng (by kernel_rfl) fun hf C S K hC1 hC hS hK=>?_;simp (disch:=first|omega|assumption) only [go_sem,h1];refine hK ?_;clear hK hS hC hC1 K S C hf)|((first|refine zn ?_|refine ze ?_|refine zk ?_);with_reducible (constructor;repeat constructor);try refine zl ?_)))
  exact aC (aE (by simp (disch:=first|omega|assumption) only [go_sem,Pt.av];rfl))
 have hbm:cY sub s qt=cY sub s qt:=rfl
 conv at hbm=>rhs;unfold cY;rw [if_neg (by rw [← hb];exact Bool.false_ne_true)]
 clear hb
 generalize hn:js s=n at hN hpl hbm
 by_cases hn0:n=0
 ·subst hn0
  rw [if_pos rfl] at hbm
  rw [hbm]
  (repeat (first|(refine ah rfl rfl ?_)|(refine aj rfl rfl ?_)|(refine af nmd [] hng (by kernel_rfl) fun hf C S K hC1 hC hS hK=>?_;simp (disch:=first|omega|assumption) only [go_sem];(repeat ((first|refine hC1 _ (hN _) (by simp (disch:=first|omega|assumption) only [go_sem]) ?_);simp (disch:=first|omega|assumption) only [go_sem]));refine hK ?_;clear hK hS hC hC1 K S C hf)|((first|refine zn ?_|refine ze ?_|refine zk ?_);with_reducible (constructor;repeat constructor);try refine zl ?_)))
  exact aC (aE (by simp (disch:=first|omega|assumption) only [go_sem,Pt.av];rfl))
 rw [if_neg hn0] at hbm
 have hn0I:¬ (n:Int)=0:=by omega
 simp only at hbm
 generalize hr:s.drop n=r at hbm
 generalize hm:s.take n=nm at hbm
 have hrl:r.length≤B:=by rw [← hr,List.length_drop];omega
 have hml:nm.length≤B:=by rw [← hm,List.length_take];omega
 by_cases hr0:r=[]
 ·subst hr0
  rw [if_pos rfl] at hbm
  rw [hbm]
  (repeat (first|(refine ah rfl rfl ?_)|(refine aj rfl rfl ?_)|(refine af nmd [] hng (by kernel_rfl) fun hf C S K hC1 hC hS hK=>?_;simp (disch:=first|omega|assumption) only [go_sem,hpl,hn0I,hr,hm,eq_self,decide_true,decide_false,ne_eq,not_true_eq_false,not_false_eq_true];(repeat ((first|refine hC1 _ (hN _) (by simp (disch:=first|omega|assumption) only [go_sem]) ?_);simp (disch:=first|omega|assumption) only [go_sem]));refine hK ?_;clear hK hS hC hC1 K S C hf)|((first|refine zn ?_|refine ze ?_|refine zk ?_);with_reducible (constructor;repeat constructor);try refine zl ?_)))
  exact aC (aE (by simp (disch:=first|omega|assumption) only [go_sem,Pt.av];rfl))
 rw [if_neg hr0] at hbm
 (repeat (first|(refine ah rfl rfl ?_)|(refine aj rfl rfl ?_)|(refine af nmd [] hng (by kernel_rfl) fun hf C S K hC1 hC hS hK=>?_;simp (disch:=first|omega|assumption) only [go_sem,hpl,hn0I,hr,hm,hr0,eq_self,decide_true,decide_false,ne_eq,not_true_eq_false,not_false_eq_true];(repeat ((first|refine hC1 _ (hN _) (by simp (disch:=first|omega|assumption) only [go_sem]) ?_);simp (disch:=first|omega|assumption) only [go_sem]));refine hK ?_;clear hK hS hC hC1 K S C hf)|((first|refine zn ?_|refine ze ?_|refine zk ?_);with_reducible (constructor;repeat constructor);try refine zl ?_)))
 refine Dc [0,1,2,6,8] (fun s'=>∃ (c:Nat) (o:Str),tG r=o∧3≤c∧s' = ⟨[(0,.str r),(1,.bool qt),(2,.int .i64 d),(6,.ptr (.sub 0 0 x.p) 0),(8,.ptr (.sub 1 2 x.p) 0)],Mem.of [(.sub 0 0 x.p,ar.cells [.int .i64 0,.bool false,.str [],.str [],.str [],.nilSl]),(Oid.sub 1 2 x.p,ar.cells [.int .i64 1,.bool qt,.str [],.str nm,.str o,.list 6 []])],c,[]⟩) ?_ ?_
 ·refine a6 [0,1,2,6,8,10,11] (fun k s'=>∃ (i c:Nat) (o:Str),s' = ⟨[(0,.str r),(1,.bool qt),(2,.int .i64 d),(6,.ptr (.sub 0 0 x.p) 0),(8,.ptr (.sub 1 2 x.p) 0),(10,.list 1 (opsL.map AV.str)),(11,.int .i64 i)],Mem.of [(.sub 0 0 x.p,ar.cells [.int .i64 0,.bool false,.str [],.str [],.str [],.nilSl]),(Oid.sub 1 2 x.p,ar.cells [.int .i64 1,.bool qt,.str [],.str nm,.str o,.list 6 []])],c,[]⟩∧k=12 - i∧i≤12∧3≤c∧((o=[]∧tG r=((opsL.drop i).find? fun o=>dO r 0 o).getD [])∨(o≠[]∧tG r=o))) _ ⟨0,_,[],rfl,rfl,Nat.zero_le _,by omega,.inl ⟨rfl,rfl⟩⟩ ?_
  rintro k s' ⟨i,c,o,rfl,rfl,hi,hc,ho⟩
  by_cases ho0:o=[]
  ·subst ho0
   have hop:=(ho.resolve_right fun h=>h.1 rfl).2
   by_cases hi2:i < 12
   ·have hI:(i:Int) < (opsL.length:Int):=by have:opsL.length=12:=rfl;omega
    have hI':i < opsL.length:=hi2
    have hBg:=fun p=>jw r (opsL.getD i []) (by omega) p
    rw [XA hI'] at hop
    have hgd:(opsL.map AV.str).getD i .undef = .str (opsL.getD i []):=by rw [List.getD_eq_getElem?_getD,List.getElem?_map,List.getElem?_eq_getElem hI',List.getD_eq_getElem?_getD,List.getElem?_eq_getElem hI'];rfl
    have hne:=(XB (opsL.getD i []) (by rw [List.getD_eq_getElem?_getD,List.getElem?_eq_getElem hI'];exact List.getElem_mem _)).1
    generalize hO:opsL.getD i []=O at hBg hop hgd hne
    cases hbg:dO r 0 O
    ·rw [hbg] at hBg hop
     rw [if_neg Bool.false_ne_true] at hop
     (repeat (first|(refine ah rfl rfl ?_)|(refine aj rfl rfl ?_)|(refine af nmd [] hng (by kernel_rfl) fun hf C S K hC1 hC hS hK=>?_;simp (disch:=first|omega|assumption) only [go_sem];refine hK ?_;clear hK hS hC hC1 K S C hf)|((first|refine zn ?_|refine ze ?_|refine zk ?_);with_reducible (constructor;repeat constructor);try refine zl ?_)))
     refine af nmd [(4,58)] hng (by kernel_rfl) fun hf C S K hC1 hC hS hK=>?_;simp (disch:=first|omega|assumption) only [go_sem,hI,eq_self,decide_true,decide_false,ne_eq,not_true_eq_false,not_false_eq_true]
     refine hK ?_;clear hK hS hC hC1 K S C hf
     (repeat (first|(refine ah rfl rfl ?_)|(refine aj rfl rfl ?_)|(refine af nmd [] hng (by kernel_rfl) fun hf C S K hC1 hC hS hK=>?_;simp (disch:=first|omega|assumption) only [go_sem,hgd,hI',hi2];(repeat ((first|refine hC1 _ (hBg _) (by simp (disch:=first|omega|assumption) only [go_sem]) ?_);simp (disch:=first|omega|assumption) only [go_sem]));refine hK ?_;clear hK hS hC hC1 K S C hf)|((first|refine zn ?_|refine ze ?_|refine zk ?_);with_reducible (constructor;repeat constructor);try refine zl ?_)))
     exact ⟨_,_,by omega,fun _ _ h=>h,i+1,_,[],rfl,rfl,by omega,by omega,.inl ⟨rfl,hop⟩⟩
    ·rw [hbg] at hBg hop
     rw [if_pos rfl] at hop
     (repeat (first|(refine ah rfl rfl ?_)|(refine aj rfl rfl ?_)|(refine af nmd [] hng (by kernel_rfl) fun hf C S K hC1 hC hS hK=>?_;simp (disch:=first|omega|assumption) only [go_sem];refine hK ?_;clear hK hS hC hC1 K S C hf)|((first|refine zn ?_|refine ze ?_|refine zk ?_);with_reducible (constructor;repeat constructor);try refine zl ?_)))
     refine af nmd [(4,58)] hng (by kernel_rfl) fun hf C S K hC1 hC hS hK=>?_;simp (disch:=first|omega|assumption) only [go_sem,hI,eq_self,decide_true,decide_false,ne_eq,not_true_eq_false,not_false_eq_true]
     refine hK ?_;clear hK hS hC hC1 K S C hf
     (repeat (first|(refine ah rfl rfl ?_)|(refine aj rfl rfl ?_)|(refine af nmd [] hng (by kernel_rfl) fun hf C S K hC1 hC hS hK=>?_;simp (disch:=first|omega|assumption) only [go_sem,hgd,hI',hi2];(repeat ((first|refine hC1 _ (hBg _) (by simp (disch:=first|omega|assumption) only [go_sem]) ?_);simp (disch:=first|omega|assumption) only [go_sem]));refine hK ?_;clear hK hS hC hC1 K S C hf)|((first|refine zn ?_|refine ze ?_|refine zk ?_);with_reducible (constructor;repeat constructor);try refine zl ?_)))
     exact ⟨_,_,by omega,fun _ _ h=>h,i+1,_,O,rfl,rfl,by omega,by omega,.inr ⟨hne,hop⟩⟩
   ·have hI:¬ (i:Int) < (opsL.length:Int):=by have:opsL.length=12:=rfl;omega
    (repeat (first|(refine ah rfl rfl ?_)|(refine aj rfl rfl ?_)|(refine af nmd [] hng (by kernel_rfl) fun hf C S K hC1 hC hS hK=>?_;simp (disch:=first|omega|assumption) only [go_sem];refine hK ?_;clear hK hS hC hC1 K S C hf)|((first|refine zn ?_|refine ze ?_|refine zk ?_);with_reducible (constructor;repeat constructor);try refine zl ?_)))
    refine af nmd [(4,58)] hng (by kernel_rfl) fun hf C S K hC1 hC hS hK=>?_;simp (disch:=first|omega|assumption) only [go_sem,hI,eq_self,decide_true,decide_false,ne_eq,not_true_eq_false,not_false_eq_true]
    refine hK ?_;clear hK hS hC hC1 K S C hf
    (repeat (first|(refine ah rfl rfl ?_)|(refine aj rfl rfl ?_)|(refine af nmd [] hng (by kernel_rfl) fun hf C S K hC1 hC hS hK=>?_;simp (disch:=first|omega|assumption) only [go_sem];refine hK ?_;clear hK hS hC hC1 K S C hf)|((first|refine zn ?_|refine ze ?_|refine zk ?_);with_reducible (constructor;repeat constructor);try refine zl ?_)))
    rw [List.drop_eq_nil_of_le (by show 12≤i;omega)] at hop
    exact aR ⟨_,[],hop,by omega,rfl⟩
  ·have hop:=(ho.resolve_left fun h=>ho0 h.1).2
   (repeat (first|(refine ah rfl rfl ?_)|(refine aj rfl rfl ?_)|(refine af nmd [] hng (by kernel_rfl) fun hf C S K hC1 hC hS hK=>?_;simp (disch:=first|omega|assumption) only [go_sem];refine hK ?_;clear hK hS hC hC1 K S C hf)|((first|refine zn ?_|refine ze ?_|refine zk ?_);with_reducible (constructor;repeat constructor);try refine zl ?_)))
   by_cases hi2:i < 12
   ·have hI:(i:Int) < (opsL.length:Int):=by have:opsL.length=12:=rfl;omega
    refine af nmd [(4,58)] hng (by kernel_rfl) fun hf C S K hC1 hC hS hK=>?_;simp (disch:=first|omega|assumption) only [go_sem,hI,ho0,decide_true,decide_false,ne_eq,not_true_eq_false,not_false_eq_true]
    refine hK ?_;clear hK hS hC hC1 K S C hf
    (repeat (first|(refine ah rfl rfl ?_)|(refine aj rfl rfl ?_)|(refine af nmd [] hng (by kernel_rfl) fun hf C S K hC1 hC hS hK=>?_;simp (disch:=first|omega|assumption) only [go_sem];refine hK ?_;clear hK hS hC hC1 K S C hf)|((first|refine zn ?_|refine ze ?_|refine zk ?_);with_reducible (constructor;repeat constructor);try refine zl ?_)))
    exact aR ⟨_,o,hop,by omega,rfl⟩
   ·have hI:¬ (i:Int) < (opsL.length:Int):=by have:opsL.length=12:=rfl;omega
    refine af nmd [(4,58)] hng (by kernel_rfl) fun hf C S K hC1 hC hS hK=>?_;simp (disch:=first|omega|assumption) only [go_sem,hI,decide_true,decide_false,ne_eq,not_true_eq_false,not_false_eq_true]
    refine hK ?_;clear hK hS hC hC1 K S C hf
    (repeat (first|(refine ah rfl rfl ?_)|(refine aj rfl rfl ?_)|(refine af nmd [] hng (by kernel_rfl) fun hf C S K hC1 hC hS hK=>?_;simp (disch:=first|omega|assumption) only [go_sem];refine hK ?_;clear hK hS hC hC1 K S C hf)|((first|refine zn ?_|refine ze ?_|refine zk ?_);with_reducible (constructor;repeat constructor);try refine zl ?_)))
    exact aR ⟨_,o,hop,by omega,rfl⟩
 rintro s' ⟨c,o,ho,hc,rfl⟩
 have hol:=Dd r
 rw [ho] at hbm hol
 have hNm:=fun p=>mR nm (by omega) p
 obtain ⟨b1,hb1⟩:∃ b,b=decide (o=[]∨(o=[61]∨o=[58,61])∧nmK true nm=0):=⟨_,rfl⟩
 have hbm':cY sub s qt=if b1=true then (.mk 1 qt [] nm o [],90) else if (sub (r.drop o.length)).2≠0 then (.mk 1 qt [] nm o [],(sub (r.drop o.length)).2) else if nC (sub (r.drop o.length)).1=true then (.mk 1 qt [] nm o [],90) else (.mk 1 qt [] nm o (if qt=true then eB [] (sub (r.drop o.length)).1 else (sub (r.drop o.length)).1),0):=by
  rw [hbm]
  by_cases h:o=[]∨(o=[61]∨o=[58,61])∧nmK true nm=0
  ·rw [if_pos h,hb1,decide_eq_true h,if_pos rfl]
  ·rw [if_neg h,hb1,decide_eq_false h,if_neg Bool.false_ne_true]
 clear hbm
 generalize nmK true nm=z at hNm hb1
 (try ((first|refine zn ?_|refine ze ?_|refine zk ?_);with_reducible (constructor;repeat constructor));try refine zl ?_)
 refine dE [0,1,2,6,8,94] (fun s'=>∃ c,3≤c∧s' = ⟨[(0,.str r),(1,.bool qt),(2,.int .i64 d),(6,.ptr (.sub 0 0 x.p) 0),(8,.ptr (.sub 1 2 x.p) 0),(94,.bool b1)],Mem.of [(.sub 0 0 x.p,ar.cells [.int .i64 0,.bool false,.str [],.str [],.str [],.nilSl]),(Oid.sub 1 2 x.p,ar.cells [.int .i64 1,.bool qt,.str [],.str nm,.str o,.list 6 []])],c,[]⟩) ?_ ?_
 ·by_cases o0:o=[]
  ·subst o0
   rw [decide_eq_true (.inl rfl)] at hb1
   subst hb1
   refine af nmd [(3,79),(7,83),(12,88)] hng (by kernel_rfl) fun hf C S K hC1 hC hS hK=>?_;simp (disch:=first|omega|assumption) only [go_sem,eq_self,decide_true,decide_false,ne_eq,not_true_eq_false,not_false_eq_true]
   refine hK ?_;clear hK hS hC hC1 K S C hf
   exact aR ⟨_,by omega,rfl⟩
  ·by_cases hz:z=0
   ·have hzI:(z:Int)=0:=by omega
    by_cases o1:o=[61]
    ·subst o1
     rw [decide_eq_true (.inr ⟨.inl rfl,hz⟩)] at hb1
     subst hb1
     refine af nmd [(3,79),(7,83),(12,88)] hng (by kernel_rfl) fun hf C S K hC1 hC hS hK=>?_;simp (disch:=first|omega|assumption) only [go_sem,o0,eq_self,decide_true,decide_false,ne_eq,not_true_eq_false,not_false_eq_true]
     refine hC1 _ (hNm _) (fun _ h=>by cases h) ?_
     simp (disch:=first|omega|assumption) only [go_sem,hzI,eq_self,decide_true,decide_false,ne_eq,not_true_eq_false,not_false_eq_true]
     refine hK ?_;clear hK hS hC hC1 K S C hf
     exact aR ⟨_,by omega,rfl⟩
    ·by_cases o2:o=[58,61]
     ·subst o2
      rw [decide_eq_true (.inr ⟨.inr rfl,hz⟩)] at hb1
      subst hb1
      refine af nmd [(3,79),(7,83),(12,88)] hng (by kernel_rfl) fun hf C S K hC1 hC hS hK=>?_;simp (disch:=first|omega|assumption) only [go_sem,o0,o1,eq_self,decide_true,decide_false,ne_eq,not_true_eq_false,not_false_eq_true]
      refine hC1 _ (hNm _) (fun _ h=>by cases h) ?_
      simp (disch:=first|omega|assumption) only [go_sem,hzI,eq_self,decide_true,decide_false,ne_eq,not_true_eq_false,not_false_eq_true]
      refine hK ?_;clear hK hS hC hC1 K S C hf
      exact aR ⟨_,by omega,rfl⟩
     ·rw [decide_eq_false (fun h=>h.elim o0 fun h=>h.1.elim o1 o2)] at hb1
      subst hb1
      refine af nmd [(3,79),(7,83),(12,88)] hng (by kernel_rfl) fun hf C S K hC1 hC hS hK=>?_;simp (disch:=first|omega|assumption) only [go_sem,o0,o1,o2,decide_true,decide_false,ne_eq,not_true_eq_false,not_false_eq_true]
      refine hK ?_;clear hK hS hC hC1 K S C hf
      exact aR ⟨_,by omega,rfl⟩
   ·have hzI:¬ (z:Int)=0:=by omega
    rw [decide_eq_false (fun h=>h.elim o0 fun h=>hz h.2)] at hb1
    subst hb1
    by_cases o1:o=[61]
    ·subst o1
     refine af nmd [(3,79),(7,83),(12,88)] hng (by kernel_rfl) fun hf C S K hC1 hC hS hK=>?_;simp (disch:=first|omega|assumption) only [go_sem,o0,eq_self,decide_true,decide_false,ne_eq,not_true_eq_false,not_false_eq_true]
     refine hC1 _ (hNm _) (fun _ h=>by cases h) ?_
     simp (disch:=first|omega|assumption) only [go_sem,hzI,eq_self,decide_true,decide_false,ne_eq,not_true_eq_false,not_false_eq_true]
     refine hK ?_;clear hK hS hC hC1 K S C hf
     exact aR ⟨_,by omega,rfl⟩
    ·by_cases o2:o=[58,61]
     ·subst o2
      refine af nmd [(3,79),(7,83),(12,88)] hng (by kernel_rfl) fun hf C S K hC1 hC hS hK=>?_;simp (disch:=first|omega|assumption) only [go_sem,o0,o1,eq_self,decide_true,decide_false,ne_eq,not_true_eq_false,not_false_eq_true]
      refine hC1 _ (hNm _) (fun _ h=>by cases h) ?_
      simp (disch:=first|omega|assumption) only [go_sem,hzI,eq_self,decide_true,decide_false,ne_eq,not_true_eq_false,not_false_eq_true]
      refine hK ?_;clear hK hS hC hC1 K S C hf
      exact aR ⟨_,by omega,rfl⟩
     ·refine af nmd [(3,79),(7,83),(12,88)] hng (by kernel_rfl) fun hf C S K hC1 hC hS hK=>?_;simp (disch:=first|omega|assumption) only [go_sem,o0,o1,o2,decide_true,decide_false,ne_eq,not_true_eq_false,not_false_eq_true]
      refine hK ?_;clear hK hS hC hC1 K S C hf
      exact aR ⟨_,by omega,rfl⟩
 rintro s' ⟨c,hc,rfl⟩
 rw [hbm']
 clear hbm' hb1
 have hPw:=fun p=>hP (r.drop o.length) (by rw [List.length_drop];omega) p
 have hWt:=hsub (r.drop o.length)
 rw [List.length_drop] at hWt
 generalize sub (r.drop o.length)=w at hPw hWt
 obtain ⟨w,e⟩:=w
 simp only at hPw hWt ⊢
 cases b1
 ·rw [if_neg Bool.false_ne_true]
  by_cases he:e=0
  ·subst he
   have hww:=hWt rfl
   rw [if_neg (fun h=>h rfl)]
   have hCm:=fun p=>rY (pY w+1) w (Nat.lt_succ_self _) (by omega) p
   have hQt:=fun p=>zj (pY w+1) w (Nat.lt_succ_self _) (by omega) p
   have h00:(((0:Nat):Int)=0)=True:=eq_true rfl
   generalize nC w=b2 at hCm
   cases b2
   ·rw [if_neg Bool.false_ne_true]
    cases qt
    ·rw [if_neg Bool.false_ne_true]
     (repeat (first|(refine ah rfl rfl ?_)|(refine aj rfl rfl ?_)|(refine af nmd [] hng (by kernel_rfl) fun hf C S K hC1 hC hS hK=>?_;simp (disch:=first|omega|assumption) only [go_sem,hol];refine hK ?_;clear hK hS hC hC1 K S C hf)|((first|refine zn ?_|refine ze ?_|refine zk ?_);with_reducible (constructor;repeat constructor);try refine zl ?_)))
     (repeat (first|(refine ah rfl rfl ?_)|(refine aj rfl rfl ?_)|(refine af nmd [] hng (by kernel_rfl) fun hf C S K hC1 hC hS hK=>?_;simp (disch:=first|omega|assumption) only [go_sem,hol,h00,ne_eq,not_true_eq_false,decide_false];(repeat ((first|refine hC1 _ (hPw _) (by simp (disch:=first|omega|assumption) only [go_sem]) ?_|refine hC1 _ (hCm _) (by simp (disch:=first|omega|assumption) only [go_sem]) ?_);simp (disch:=first|omega|assumption) only [go_sem]));refine hK ?_;clear hK hS hC hC1 K S C hf)|((first|refine zn ?_|refine ze ?_|refine zk ?_);with_reducible (constructor;repeat constructor);try refine zl ?_)))
     exact aC (aE (by simp (disch:=first|omega|assumption) only [go_sem,Pt.av];rfl))
    ·rw [if_pos rfl]
     (repeat (first|(refine ah rfl rfl ?_)|(refine aj rfl rfl ?_)|(refine af nmd [] hng (by kernel_rfl) fun hf C S K hC1 hC hS hK=>?_;simp (disch:=first|omega|assumption) only [go_sem,hol,h00,ne_eq,not_true_eq_false,decide_false];(repeat ((first|refine hC1 _ (hPw _) (by simp (disch:=first|omega|assumption) only [go_sem]) ?_|refine hC1 _ (hCm _) (by simp (disch:=first|omega|assumption) only [go_sem]) ?_|refine hC1 _ (hQt _) (by simp (disch:=first|omega|assumption) only [go_sem]) ?_);simp (disch:=first|omega|assumption) only [go_sem]));refine hK ?_;clear hK hS hC hC1 K S C hf)|((first|refine zn ?_|refine ze ?_|refine zk ?_);with_reducible (constructor;repeat constructor);try refine zl ?_)))
     exact aC (aE (by simp (disch:=first|omega|assumption) only [go_sem,Pt.av];rfl))
   ·rw [if_pos rfl]
    (repeat (first|(refine ah rfl rfl ?_)|(refine aj rfl rfl ?_)|(refine af nmd [] hng (by kernel_rfl) fun hf C S K hC1 hC hS hK=>?_;simp (disch:=first|omega|assumption) only [go_sem,hol,h00,ne_eq,not_true_eq_false,decide_false];(repeat ((first|refine hC1 _ (hPw _) (by simp (disch:=first|omega|assumption) only [go_sem]) ?_|refine hC1 _ (hCm _) (by simp (disch:=first|omega|assumption) only [go_sem]) ?_);simp (disch:=first|omega|assumption) only [go_sem]));refine hK ?_;clear hK hS hC hC1 K S C hf)|((first|refine zn ?_|refine ze ?_|refine zk ?_);with_reducible (constructor;repeat constructor);try refine zl ?_)))
    exact aC (aE (by simp (disch:=first|omega|assumption) only [go_sem,Pt.av];rfl))
  ·have heI:¬ (e:Int)=0:=by omega
   rw [if_pos he]
   (repeat (first|(refine ah rfl rfl ?_)|(refine aj rfl rfl ?_)|(refine af nmd [] hng (by kernel_rfl) fun hf C S K hC1 hC hS hK=>?_;simp (disch:=first|omega|assumption) only [go_sem,hol,heI,ne_eq,not_false_eq_true,decide_true];(repeat ((first|refine hC1 _ (hPw _) (by simp (disch:=first|omega|assumption) only [go_sem]) ?_);simp (disch:=first|omega|assumption) only [go_sem]));refine hK ?_;clear hK hS hC hC1 K S C hf)|((first|refine zn ?_|refine ze ?_|refine zk ?_);with_reducible (constructor;repeat constructor);try refine zl ?_)))
   exact aC (aE (by simp (disch:=first|omega|assumption) only [go_sem,Pt.av];rfl))
 ·rw [if_pos rfl]
  (repeat (first|(refine ah rfl rfl ?_)|(refine aj rfl rfl ?_)|(refine af nmd [] hng (by kernel_rfl) fun hf C S K hC1 hC hS hK=>?_;simp (disch:=first|omega|assumption) only [go_sem];refine hK ?_;clear hK hS hC hC1 K S C hf)|((first|refine zn ?_|refine ze ?_|refine zk ?_);with_reducible (constructor;repeat constructor);try refine zl ?_)))
  exact aC (aE (by simp (disch:=first|omega|assumption) only [go_sem,Pt.av];rfl))
end Go.Proofs.YtlfeacmbhldjcaaGreatDoor
namespace Go.Proofs.YtlfeacmbhldjcaaGreatDoor
open Go Go.Ab
set_option maxRecDepth 20000
set_option maxHeartbeats 4000000
theorem oG (sub:Str→PsE) (hsub:nD sub) (d B:Nat) (hd:d≤40) (hB:B≤60000000000) (hP:gK sub (d+1) B) (s:Str) (hs:s.length≤B) (hs0:s≠[]) (qt:Bool) (q:Oid) :
  aA Tryz.prog 83 [.str s,.bool qt,.int .i64 d] (Oid.under q) ⟨[],.tuple [(bK sub s qt).1.av,.int .i64 (bK sub s qt).2.1,.int .i64 (bK sub s qt).2.2],[]⟩:=by
 have hpos:=List.length_pos_iff.2 hs0
 have hB1:=fun p=>jw s [36,40] (by omega) p
 have hB2:=fun p=>jw s [36,123] (by omega) p
 have hSk:=fun p=>u7 s (by omega) 0 hpos p
 have hNm:=fun p=>mR (s.drop 1) (by rw [List.length_drop];omega) p
 have hSp:=fun p=>iu (s.getD 1 0) p
 obtain ⟨b0,hb⟩:∃ b,b=(dO s 0 [36,40] || dO s 0 [36,123]):=⟨_,rfl⟩
 have hbm:bK sub s qt=bK sub s qt:=rfl
 conv at hbm=>rhs;unfold bK;rw [← hb]
 refine aN (n:=95) (rs:=[.cell 6 48,.tmp 7,.tmp 8]) Tryz.func83 rfl rfl (by decide) rfl rfl rfl ?_;rintro x rfl hrd hng
 (try ((first|refine zn ?_|refine ze ?_|refine zk ?_);with_reducible (constructor;repeat constructor));try refine zl ?_)
 refine af nmd [] hng (by kernel_rfl) fun hf C S K hC1 hC hS hK=>?_;simp (disch:=first|omega|assumption) only [go_sem]
 refine hK ?_;clear hK hS hC hC1 K S C hf
 (try ((first|refine zn ?_|refine ze ?_|refine zk ?_);with_reducible (constructor;repeat constructor));try refine zl ?_)
 refine dN (.sub 0 0 x.p) _ [.int .i64 0,.bool false,.str [],.str [],.str [],.list 6 []] (by simp [Mem.ae]) (.cons (.refl _) (.cons (.refl _) (.cons (.refl _) (.cons (.refl _) (.cons (.refl _) (.cons (.bO 6) .nil)))))) ?_
 refine bq [(Oid.sub 0 0 x.p,ar.cells [.int .i64 0,.bool false,.str [],.str [],.str [],.list 6 []])] (by simp [Mem.set,Mem.ae]) ?_
 refine dE [0,1,2,6,18] (fun s'=>s' = ⟨[(0,.str s),(1,.bool qt),(2,.int .i64 d),(6,.ptr (.sub 0 0 x.p) 0),(18,.bool b0)],Mem.of [(Oid.sub 0 0 x.p,ar.cells [.int .i64 0,.bool false,.str [],.str [],.str [],.list 6 []])],2,[]⟩) ?_ ?_
 ·generalize dO s 0 [36,40]=b1 at hB1 hb
  generalize dO s 0 [36,123]=b2 at hB2 hb
  subst hb
  cases b1
  ·refine af nmd [(2,15)] hng (by kernel_rfl) fun hf C S K hC1 hC hS hK=>?_;simp (disch:=first|omega|assumption) only [go_sem,decide_true,decide_false,ne_eq,not_true_eq_false,not_false_eq_true]
   refine hC1 _ (hB1 _) (fun _ h=>by cases h) ?_
   simp (disch:=first|omega|assumption) only [go_sem,decide_true,decide_false,ne_eq,not_true_eq_false,not_false_eq_true]
   refine hC1 _ (hB2 _) (fun _ h=>by cases h) ?_
   simp (disch:=first|omega|assumption) only [go_sem,decide_true,decide_false,ne_eq,not_true_eq_false,not_false_eq_true]
   refine hK ?_;clear hK hS hC hC1 K S C hf
   exact aR rfl
  ·refine af nmd [(2,15)] hng (by kernel_rfl) fun hf C S K hC1 hC hS hK=>?_;simp (disch:=first|omega|assumption) only [go_sem,decide_true,decide_false,ne_eq,not_true_eq_false,not_false_eq_true]
   refine hC1 _ (hB1 _) (fun _ h=>by cases h) ?_
   simp (disch:=first|omega|assumption) only [go_sem,decide_true,decide_false,ne_eq,not_true_eq_false,not_false_eq_true]
   refine hK ?_;clear hK hS hC hC1 K S C hf
   exact aR rfl
 rintro s' rfl
 cases b0
 ·rw [if_neg Bool.false_ne_true] at hbm
  clear hb hB1 hB2 hSk
  simp only at hbm
  have hnl:=pV true (s.drop 1)
  rw [List.length_drop] at hnl
  have h1l:1≤s.length:=hpos
  generalize nmK true (s.drop 1)=n at hNm hbm hnl
  (repeat (first|(refine ah rfl rfl ?_)|(refine aj rfl rfl ?_)|(refine af nmd [] hng (by kernel_rfl) fun hf C S K hC1 hC hS hK=>?_;simp (disch:=first|omega|assumption) only [go_sem,h1l];(repeat ((first|refine hC1 _ (hNm _) (by simp (disch:=first|omega|assumption) only [go_sem]) ?_);simp (disch:=first|omega|assumption) only [go_sem]));refine hK ?_;clear hK hS hC hC1 K S C hf)|((first|refine zn ?_|refine ze ?_|refine zk ?_);with_reducible (constructor;repeat constructor);try refine zl ?_)))
  obtain ⟨b2,hb2⟩:∃ b,b=decide (n=0∧1 < s.length∧spC (s.getD 1 0)=true):=⟨_,rfl⟩
  have hbm':bK sub s qt=if (if b2=true then 1 else n)=0 then (.mk 0 qt [36] [] [] [],1,0) else (.mk 1 qt [] ((s.take ((if b2=true then 1 else n)+1)).drop 1) [] [],(if b2=true then 1 else n)+1,0):=by
   rw [hbm]
   by_cases h:n=0∧1 < s.length∧spC (s.getD 1 0)=true
   ·rw [if_pos h,hb2,decide_eq_true h,if_pos rfl]
   ·rw [if_neg h,hb2,decide_eq_false h,if_neg Bool.false_ne_true]
  clear hbm
  refine dE [0,1,6,12,82] (fun s'=>∃ c,s' = ⟨[(0,.str s),(1,.bool qt),(6,.ptr (.sub 0 0 x.p) 0),(12,.int .i64 n),(82,.bool b2)],Mem.of [(Oid.sub 0 0 x.p,ar.cells [.int .i64 0,.bool false,.str [],.str [],.str [],.list 6 []])],c,[]⟩∧(b2=true→1 < s.length)) ?_ ?_
  ·by_cases hn0:n=0
   ·subst hn0
    have h00:(((0:Nat):Int)=0)=True:=eq_true rfl
    by_cases h1:1 < s.length
    ·have h1I:(s.length:Int) > 1:=by omega
     generalize spC (s.getD 1 0)=b3 at hSp hb2
     have e3:b2=b3:=by rw [hb2];cases b3<;>simp [h1]
     subst e3
     refine af nmd [(2,73),(7,78)] hng (by kernel_rfl) fun hf C S K hC1 hC hS hK=>?_;simp (disch:=first|omega|assumption) only [go_sem,h00,h1I,h1,eq_self,decide_true,decide_false,ne_eq,not_true_eq_false,not_false_eq_true]
     refine hC1 _ (hSp _) (fun _ h=>by cases h) ?_
     simp (disch:=first|omega|assumption) only [go_sem,decide_true,decide_false,ne_eq,not_true_eq_false,not_false_eq_true]
     refine hK ?_;clear hK hS hC hC1 K S C hf
     exact aR ⟨_,rfl,fun _=>h1⟩
    ·have h1I:¬ (s.length:Int) > 1:=by omega
     rw [decide_eq_false (fun h=>h1 h.2.1)] at hb2
     subst hb2
     refine af nmd [(2,73),(7,78)] hng (by kernel_rfl) fun hf C S K hC1 hC hS hK=>?_;simp (disch:=first|omega|assumption) only [go_sem,h00,h1I,eq_self,decide_true,decide_false,ne_eq,not_true_eq_false,not_false_eq_true]
     refine hK ?_;clear hK hS hC hC1 K S C hf
     exact aR ⟨_,rfl,fun h=>by cases h⟩
   ·have hn0I:¬ (n:Int)=0:=by omega
    rw [decide_eq_false (fun h=>hn0 h.1)] at hb2
    subst hb2
    refine af nmd [(2,73),(7,78)] hng (by kernel_rfl) fun hf C S K hC1 hC hS hK=>?_;simp (disch:=first|omega|assumption) only [go_sem,hn0I,decide_true,decide_false,ne_eq,not_true_eq_false,not_false_eq_true]
    refine hK ?_;clear hK hS hC hC1 K S C hf
    exact aR ⟨_,rfl,fun h=>by cases h⟩
  rintro s' ⟨c,rfl,hb3⟩
  rw [hbm']
  clear hbm' hb2
  cases b2
  ·rw [if_neg Bool.false_ne_true]
   by_cases hn0:n=0
   ·subst hn0
    have h00:(((0:Nat):Int)=0)=True:=eq_true rfl
    rw [if_pos rfl]
    (repeat (first|(refine ah rfl rfl ?_)|(refine aj rfl rfl ?_)|(refine af nmd [] hng (by kernel_rfl) fun hf C S K hC1 hC hS hK=>?_;simp (disch:=first|omega|assumption) only [go_sem,h00,eq_self,decide_true,decide_false,ne_eq,not_true_eq_false,not_false_eq_true];refine hK ?_;clear hK hS hC hC1 K S C hf)|((first|refine zn ?_|refine ze ?_|refine zk ?_);with_reducible (constructor;repeat constructor);try refine zl ?_)))
    refine dN (.sub 0 0 x.p) _ _ (by rw [Mem.ae,if_pos rfl]) (.cons (.refl _) (.cons (.refl _) (.cons (.refl _) (.cons (.refl _) (.cons (.refl _) (.cons (.bO 6) .nil)))))) ?_
    exact aC (aE (by simp (disch:=first|omega|assumption) only [go_sem,Mem.set,Pt.av,if_true,eq_self];rfl))
   ·have hn0I:¬ (n:Int)=0:=by omega
    have hn1:n+1≤s.length:=by omega
    have hn2:1≤n+1:=by omega
    have hn3:((n:Int)+1).toNat=n+1:=by omega
    rw [if_neg hn0]
    (repeat (first|(refine ah rfl rfl ?_)|(refine aj rfl rfl ?_)|(refine af nmd [] hng (by kernel_rfl) fun hf C S K hC1 hC hS hK=>?_;simp (disch:=first|omega|assumption) only [go_sem,hn0I,hn1,hn2,hn3,decide_true,decide_false,ne_eq,not_true_eq_false,not_false_eq_true];refine hK ?_;clear hK hS hC hC1 K S C hf)|((first|refine zn ?_|refine ze ?_|refine zk ?_);with_reducible (constructor;repeat constructor);try refine zl ?_)))
    refine dN (.sub 0 0 x.p) _ _ (by rw [Mem.ae,if_pos rfl]) (.cons (.refl _) (.cons (.refl _) (.cons (.refl _) (.cons (.refl _) (.cons (.refl _) (.cons (.bO 6) .nil)))))) ?_
    exact aC (aE (by simp (disch:=first|omega|assumption) only [go_sem,Mem.set,Pt.av,if_true,eq_self];rfl))
  ·have h2:2≤s.length:=hb3 rfl
   have h11:((1:Int)+1).toNat=2:=rfl
   rw [if_pos rfl,if_neg (by decide)]
   (repeat (first|(refine ah rfl rfl ?_)|(refine aj rfl rfl ?_)|(refine af nmd [] hng (by kernel_rfl) fun hf C S K hC1 hC hS hK=>?_;simp (disch:=first|omega|assumption) only [go_sem,h2,h11];refine hK ?_;clear hK hS hC hC1 K S C hf)|((first|refine zn ?_|refine ze ?_|refine zk ?_);with_reducible (constructor;repeat constructor);try refine zl ?_)))
   refine dN (.sub 0 0 x.p) _ _ (by rw [Mem.ae,if_pos rfl]) (.cons (.refl _) (.cons (.refl _) (.cons (.refl _) (.cons (.refl _) (.cons (.refl _) (.cons (.bO 6) .nil)))))) ?_
   exact aC (aE (by simp (disch:=first|omega|assumption) only [go_sem,Mem.set,Pt.av,if_true,eq_self];rfl))
 ·rw [if_pos rfl] at hbm
  have hk2:=uY s
  rw [← hb] at hk2
  have hkb:=lD s
  generalize iW s 0=o at hSk hbm hk2 hkb
  clear hb hB1 hB2 hNm hSp
  cases o with
  | none =>
   simp only at hbm
   rw [hbm]
   (repeat (first|(refine ah rfl rfl ?_)|(refine aj rfl rfl ?_)|(refine af nmd [] hng (by kernel_rfl) fun hf C S K hC1 hC hS hK=>?_;simp (disch:=first|omega|assumption) only [go_sem];(repeat ((first|refine hC1 _ (hSk _) (by simp (disch:=first|omega|assumption) only [go_sem]) ?_);simp (disch:=first|omega|assumption) only [go_sem]));refine hK ?_;clear hK hS hC hC1 K S C hf)|((first|refine zn ?_|refine ze ?_|refine zk ?_);with_reducible (constructor;repeat constructor);try refine zl ?_)))
   refine dN (.sub 0 0 x.p) _ _ (by rw [Mem.ae,if_pos rfl]) (.cons (.refl _) (.cons (.refl _) (.cons (.refl _) (.cons (.refl _) (.cons (.refl _) (.cons (.bO 6) .nil)))))) ?_
   exact aC (aE (by simp (disch:=first|omega|assumption) only [go_sem,Mem.set,Pt.av,if_true,eq_self];rfl))
  | some k =>
   simp only at hbm
   have h3:=hk2 k rfl rfl
   have hkl:=(hkb k hs0 rfl).2
   have hk0:¬ (k:Int) < 0:=by omega
   have h1l:1 < s.length:=by omega
   have q123:s.getD 1 0=123↔((s.getD 1 0).toNat:Int)=123:=cb (n:=123) (by omega)
   have hk1:((k:Int) - 1).toNat=k - 1:=by omega
   have hk12:2≤k - 1:=by omega
   have hk13:k - 1≤s.length:=by omega
   have hk11:(0:Int)≤(k:Int) - 1:=by omega
   by_cases h123:s.getD 1 0=123
   ·have q1:=q123.1 h123
    rw [if_pos h123] at hbm
    rw [hbm]
    have hBr:=fun p=>zm sub hsub d B hd hB hP ((s.take (k - 1)).drop 2) (by rw [List.length_drop,List.length_take];omega) qt p
    generalize cY sub ((s.take (k - 1)).drop 2) qt=w at hBr ⊢
    obtain ⟨w,e⟩:=w
    obtain ⟨wk,wq,wt,wn,wo,ww⟩:=w
    simp only [Pt.av] at hBr ⊢
    (repeat (first|(refine ah rfl rfl ?_)|(refine aj rfl rfl ?_)|(refine af nmd [] hng (by kernel_rfl) fun hf C S K hC1 hC hS hK=>?_;simp (disch:=first|omega|assumption) only [go_sem,hk0,h1l,q1,fK,hk1,hk12,hk13,hk11,eq_self,decide_true,decide_false,ne_eq,not_true_eq_false,not_false_eq_true];(repeat ((first|refine hC1 _ (hSk _) (by simp (disch:=first|omega|assumption) only [go_sem]) ?_|refine hC1 _ (hBr _) (by simp (disch:=first|omega|assumption) only [go_sem]) ?_);simp (disch:=first|omega|assumption) only [go_sem]));refine hK ?_;clear hK hS hC hC1 K S C hf)|((first|refine zn ?_|refine ze ?_|refine zk ?_);with_reducible (constructor;repeat constructor);try refine zl ?_)))
    exact aC (aE (by simp (disch:=first|omega|assumption) only [go_sem]))
   ·have q1:¬ ((s.getD 1 0).toNat:Int)=123:=fun h=>h123 (q123.2 h)
    rw [if_neg h123] at hbm
    obtain ⟨b4,hb4⟩:∃ b,b=decide (4 < k∧s.getD 2 0=40∧s.getD (k - 2) 0=41):=⟨_,rfl⟩
    have q40:s.getD 2 0=40↔((s.getD 2 0).toNat:Int)=40:=cb (n:=40) (by omega)
    have q41:s.getD (k - 2) 0=41↔((s.getD (k - 2) 0).toNat:Int)=41:=cb (n:=41) (by omega)
    have hk2':((k:Int) - 2).toNat=k - 2:=by omega
    have hk21:(0:Int)≤(k:Int) - 2:=by omega
    have hk22:k - 2 < s.length:=by omega
    have h2l:2 < s.length:=by omega
    (repeat (first|(refine ah rfl rfl ?_)|(refine aj rfl rfl ?_)|(refine af nmd [] hng (by kernel_rfl) fun hf C S K hC1 hC hS hK=>?_;simp (disch:=first|omega|assumption) only [go_sem,hk0,h1l,q1,fK,eq_self,decide_true,decide_false,ne_eq,not_true_eq_false,not_false_eq_true];(repeat ((first|refine hC1 _ (hSk _) (by simp (disch:=first|omega|assumption) only [go_sem]) ?_);simp (disch:=first|omega|assumption) only [go_sem]));refine hK ?_;clear hK hS hC hC1 K S C hf)|((first|refine zn ?_|refine ze ?_|refine zk ?_);with_reducible (constructor;repeat constructor);try refine zl ?_)))
    refine dE [0,1,6,9,53] (fun s'=>∃ c,s' = ⟨[(0,.str s),(1,.bool qt),(6,.ptr (.sub 0 0 x.p) 0),(9,.int .i64 k),(53,.bool b4)],Mem.of [(Oid.sub 0 0 x.p,ar.cells [.int .i64 0,.bool false,.str [],.str [],.str [],.list 6 []])],c,[]⟩) ?_ ?_
    ·by_cases h4:4 < k
     ·have h4I:(k:Int) > 4:=by omega
      by_cases h40:s.getD 2 0=40
      ·have q2:=q40.1 h40
       by_cases h41:s.getD (k - 2) 0=41
       ·have q3:=q41.1 h41
        rw [decide_eq_true ⟨h4,h40,h41⟩] at hb4
        subst hb4
        refine af nmd [(2,42),(7,47)] hng (by kernel_rfl) fun hf C S K hC1 hC hS hK=>?_;simp (disch:=first|omega|assumption) only [go_sem,h4I,h2l,q2,q3,hk2',hk21,hk22,eq_self,decide_true,decide_false,ne_eq,not_true_eq_false,not_false_eq_true]
        refine hK ?_;clear hK hS hC hC1 K S C hf
        exact aR ⟨_,rfl⟩
       ·have q3:¬ ((s.getD (k - 2) 0).toNat:Int)=41:=fun h=>h41 (q41.2 h)
        rw [decide_eq_false (fun h=>h41 h.2.2)] at hb4
        subst hb4
        refine af nmd [(2,42),(7,47)] hng (by kernel_rfl) fun hf C S K hC1 hC hS hK=>?_;simp (disch:=first|omega|assumption) only [go_sem,h4I,h2l,q2,q3,hk2',hk21,hk22,eq_self,decide_true,decide_false,ne_eq,not_true_eq_false,not_false_eq_true]
        refine hK ?_;clear hK hS hC hC1 K S C hf
        exact aR ⟨_,rfl⟩
      ·have q2:¬ ((s.getD 2 0).toNat:Int)=40:=fun h=>h40 (q40.2 h)
       rw [decide_eq_false (fun h=>h40 h.2.1)] at hb4
       subst hb4
       refine af nmd [(2,42),(7,47)] hng (by kernel_rfl) fun hf C S K hC1 hC hS hK=>?_;simp (disch:=first|omega|assumption) only [go_sem,h4I,h2l,q2,decide_true,decide_false,ne_eq,not_true_eq_false,not_false_eq_true]
       refine hK ?_;clear hK hS hC hC1 K S C hf
       exact aR ⟨_,rfl⟩
     ·have h4I:¬ (k:Int) > 4:=by omega
      rw [decide_eq_false (fun h=>h4 h.1)] at hb4
      subst hb4
      refine af nmd [(2,42),(7,47)] hng (by kernel_rfl) fun hf C S K hC1 hC hS hK=>?_;simp (disch:=first|omega|assumption) only [go_sem,h4I,decide_true,decide_false,ne_eq,not_true_eq_false,not_false_eq_true]
      refine hK ?_;clear hK hS hC hC1 K S C hf
      exact aR ⟨_,rfl⟩
    rintro s' ⟨c,rfl⟩
    cases b4
    ·rw [if_neg (of_decide_eq_false hb4.symm)] at hbm
     rw [hbm]
     (repeat (first|(refine ah rfl rfl ?_)|(refine aj rfl rfl ?_)|(refine af nmd [] hng (by kernel_rfl) fun hf C S K hC1 hC hS hK=>?_;simp (disch:=first|omega|assumption) only [go_sem,hk1,hk11,hk12,hk13];refine hK ?_;clear hK hS hC hC1 K S C hf)|((first|refine zn ?_|refine ze ?_|refine zk ?_);with_reducible (constructor;repeat constructor);try refine zl ?_)))
     refine dN (.sub 0 0 x.p) _ _ (by rw [Mem.ae,if_pos rfl]) (.cons (.refl _) (.cons (.refl _) (.cons (.refl _) (.cons (.refl _) (.cons (.refl _) (.cons (.bO 6) .nil)))))) ?_
     exact aC (aE (by simp (disch:=first|omega|assumption) only [go_sem,Mem.set,Pt.av,if_true,eq_self];rfl))
    ·have hh:=of_decide_eq_true hb4.symm
     rw [if_pos hh] at hbm
     have h23:3≤k - 2:=by omega
     have h24:k - 2≤s.length:=by omega
     rw [hbm]
     (repeat (first|(refine ah rfl rfl ?_)|(refine aj rfl rfl ?_)|(refine af nmd [] hng (by kernel_rfl) fun hf C S K hC1 hC hS hK=>?_;simp (disch:=first|omega|assumption) only [go_sem,hk2',hk21,h23,h24];refine hK ?_;clear hK hS hC hC1 K S C hf)|((first|refine zn ?_|refine ze ?_|refine zk ?_);with_reducible (constructor;repeat constructor);try refine zl ?_)))
     refine dN (.sub 0 0 x.p) _ _ (by rw [Mem.ae,if_pos rfl]) (.cons (.refl _) (.cons (.refl _) (.cons (.refl _) (.cons (.refl _) (.cons (.refl _) (.cons (.bO 6) .nil)))))) ?_
     exact aC (aE (by simp (disch:=first|omega|assumption) only [go_sem,Mem.set,Pt.av,if_true,eq_self];rfl))
end Go.Proofs.YtlfeacmbhldjcaaGreatDoor
namespace Go.Ab
theorem afG {P:Program} [Laid P] {x:Ctx} {n:Nat} {Q:AX→AS→Prop} {fr:List (Nat × AV)} {m:Mem} {c:Nat} {ds:List AD} {a:Code} (t:Nat) (v w:AV) (ht:F fr t=v) (hw:fc v w) (h:T P x n a ⟨(t,w)::fr,m,c,ds⟩ Q):T P x n a ⟨fr,m,c,ds⟩ Q:=by
 refine fg (s:=⟨fr,m,c,ds⟩) (s':=⟨(t,w)::fr,m,c,ds⟩) (fun g b w' hr=>⟨g,hr.mr,hr.tm,hr.df,fun u hu=>?_,hr.young⟩) h
 simp only [F]
 split
 ·rename_i e;subst e
  have:=hr.fr u hu
  simp only [ht] at this
  exact hw _ _ this
 ·exact hr.fr u hu
end Go.Ab
namespace Go.Proofs.YtlfeacmbhldjcaaGreatDoor
open Go Go.Ab
set_option maxRecDepth 20000
set_option maxHeartbeats 4000000
theorem iI (out:List Pt) (p:Pt) (h:wtL out+p.wt≤130000000000) (q:Oid):aA Tryz.prog 84 [.list 6 (Pt.avs out),p.av] (Oid.under q) ⟨[],.list 6 (Pt.avs (di out p)),[]⟩ :=
 Db out (by have:=jt out;omega) p (fun a ha=>by
  have h1:=mO ha
  have h2:=a.jW
  have h3:=p.jW
  omega) q
theorem zo (sub:Str→PsE) (hsub:nD sub) (d B:Nat) (hd:d≤40) (hB:B≤60000000000) (hP:gK sub (d+1) B) (s:Str) (hs:s.length≤B) (q:Oid) :
  aA Tryz.prog 85 [.str s,.int .i64 d] (Oid.under q) ⟨[],.tuple [.list 6 (Pt.avs (dQ sub s).1),.int .i64 (dQ sub s).2],[]⟩:=by
 by_cases hs0:s=[]
 ·subst hs0
  rw [show dQ sub []=([.mk 0 true [] [] [] []],0) from rfl]
  refine aN (n:=71) (rs:=[.tmp 4,.tmp 5]) Tryz.func85 rfl rfl (by decide) rfl rfl rfl ?_;rintro x rfl hrd hng
  (repeat (first|(refine ah rfl rfl ?_)|(refine aj rfl rfl ?_)|(refine af nmd [] hng (by kernel_rfl) fun hf C S K hC1 hC hS hK=>?_;simp (disch:=first|omega|assumption) only [go_sem,eq_self,decide_true,decide_false,ne_eq,not_true_eq_false,not_false_eq_true];refine hK ?_;clear hK hS hC hC1 K S C hf)|((first|refine zn ?_|refine ze ?_|refine zk ?_);with_reducible (constructor;repeat constructor);try refine zl ?_)))
  refine afG 4 _ (.list 6 (Pt.avs [.mk 0 true [] [] [] []])) rfl (fc.list (.cons (A3.agg (.cons (.refl _) (.cons (.refl _) (.cons (.refl _) (.cons (.refl _) (.cons (.refl _) (.cons (.bO 6) .nil))))))) .nil)) ?_
  exact aC (aE (by simp (disch:=first|omega|assumption) only [go_sem,Pt.av];rfl))
 have e0:dQ sub s=doubleL sub s.length s []:=by unfold dQ;rw [if_neg hs0]
 rw [e0]
 generalize hZ:doubleL sub s.length s []=Z
 refine aN (n:=71) (rs:=[.tmp 4,.tmp 5]) Tryz.func85 rfl rfl (by decide) rfl rfl rfl ?_;rintro x rfl hrd hng
 (repeat (first|(refine ah rfl rfl ?_)|(refine aj rfl rfl ?_)|(refine af nmd [] hng (by kernel_rfl) fun hf C S K hC1 hC hS hK=>?_;simp (disch:=first|omega|assumption) only [go_sem,hs0,decide_true,decide_false,ne_eq,not_true_eq_false,not_false_eq_true];refine hK ?_;clear hK hS hC hC1 K S C hf)|((first|refine zn ?_|refine ze ?_|refine zk ?_);with_reducible (constructor;repeat constructor);try refine zl ?_)))
 refine bX 6 6 rfl ?_
 refine a6 [0,1,6] (fun k s'=>∃ (u:Str) (out:List Pt) (f c:Nat),s' = ⟨[(0,.str u),(1,.int .i64 d),(6,.list 6 (Pt.avs out))],Mem.of [],c,[]⟩∧k=u.length∧u.length≤f∧Z=doubleL sub f u out∧wtL out+2 * u.length≤2 * s.length) _ ⟨s,[],s.length,_,rfl,rfl,Nat.le_refl _,hZ.symm,by simp [wtL]⟩ ?_
 rintro k s' ⟨u,out,f,c,rfl,rfl,hf,hz,hw⟩
 by_cases hu0:u=[]
 ·subst hu0
  have hz':Z=(out,0):=by
   rw [hz]
   cases f<;>simp [doubleL]
  rw [hz']
  have h0:¬ ((([]:Str).length:Int) > 0):=by decide
  (repeat (first|(refine ah rfl rfl ?_)|(refine aj rfl rfl ?_)|(refine af nmd [] hng (by kernel_rfl) fun hf C S K hC1 hC hS hK=>?_;simp (disch:=first|omega|assumption) only [go_sem,h0,decide_true,decide_false,ne_eq,not_true_eq_false,not_false_eq_true];refine hK ?_;clear hK hS hC hC1 K S C hf)|((first|refine zn ?_|refine ze ?_|refine zk ?_);with_reducible (constructor;repeat constructor);try refine zl ?_)))
  exact aC (aE (by simp (disch:=first|omega|assumption) only [go_sem,Pt.av];rfl))
 have hpos:=List.length_pos_iff.2 hu0
 have hposI:(u.length:Int) > 0:=by omega
 have h1l:1≤u.length:=hpos
 obtain ⟨f,rfl⟩:∃ f',f=f' + 1:=⟨f - 1,by omega⟩
 rw [doubleL,if_neg hu0] at hz
 simp only at hz
 have q36:u.getD 0 0=36↔((u.getD 0 0).toNat:Int)=36:=cb (n:=36) (by omega)
 have q92:u.getD 0 0=92↔((u.getD 0 0).toNat:Int)=92:=cb (n:=92) (by omega)
 have ht1:u.take 1=[u.getD 0 0]:=by
  cases u with
  | nil=>exact absurd rfl hu0
  | cons a u=>rfl
 (try ((first|refine zn ?_|refine ze ?_|refine zk ?_);with_reducible (constructor;repeat constructor));try refine zl ?_)
 refine af nmd [] hng (by kernel_rfl) fun hf C S K hC1 hC hS hK=>?_;simp (disch:=first|omega|assumption) only [go_sem,hposI,decide_true,decide_false,ne_eq,not_true_eq_false,not_false_eq_true]
 refine hK ?_;clear hK hS hC hC1 K S C hf
 (try ((first|refine zn ?_|refine ze ?_|refine zk ?_);with_reducible (constructor;repeat constructor));try refine zl ?_)
 refine ah rfl rfl ?_
 (try ((first|refine zn ?_|refine ze ?_|refine zk ?_);with_reducible (constructor;repeat constructor));try refine zl ?_)
 refine af nmd [] hng (by kernel_rfl) fun hf C S K hC1 hC hS hK=>?_;simp (disch:=first|omega|assumption) only [go_sem,h1l,ht1]
 refine hK ?_;clear hK hS hC hC1 K S C hf
 (try ((first|refine zn ?_|refine ze ?_|refine zk ?_);with_reducible (constructor;repeat constructor));try refine zl ?_)
 refine dN (Oid.sub (c+1) 3 x.p) _ _ (by rw [Mem.ae,if_pos rfl]) (.cons (.refl _) (.cons (.refl _) (.cons (.refl _) (.cons (.refl _) (.cons (.refl _) (.cons (.bO 6) .nil)))))) ?_
 refine bq [(Oid.sub (c+1) 3 x.p,.cells [.int .i64 0,.bool true,.str [u.getD 0 0],.str [],.str [],.list 6 []])] (by simp [Mem.set,Mem.ae]) ?_
 obtain ⟨X0,hX0⟩:∃ X:Pt × Nat × Nat,X=if u.getD 0 0=36 then bK sub u true else (.mk 0 true [u.getD 0 0] [] [] [],1,0):=⟨_,rfl⟩
 obtain ⟨b5,hb5⟩:∃ b,b=decide (u.getD 0 0=92∧1 < u.length∧(u.getD 1 0=36∨u.getD 1 0=96∨u.getD 1 0=34∨u.getD 1 0=92)):=⟨_,rfl⟩
 obtain ⟨X,hX⟩:∃ X:Pt × Nat × Nat,X=if b5=true then (.mk 0 true [u.getD 1 0] [] [] [],2,0) else X0:=⟨_,rfl⟩
 have hXX:(if u.getD 0 0=36 then bK sub u true else if u.getD 0 0=92∧1 < u.length∧(u.getD 1 0=36∨u.getD 1 0=96∨u.getD 1 0=34∨u.getD 1 0=92) then (.mk 0 true [u.getD 1 0] [] [] [],2,0) else (Pt.mk 0 true [u.getD 0 0] [] [] [],1,0))=X:=by
  rw [hX,hX0]
  by_cases h1:u.getD 0 0=36
  ·rw [if_pos h1,if_pos h1,hb5,decide_eq_false (fun h=>by rw [h1] at h;exact absurd h.1 (by decide)),if_neg Bool.false_ne_true]
  ·rw [if_neg h1,if_neg h1]
   by_cases h2:u.getD 0 0=92∧1 < u.length∧(u.getD 1 0=36∨u.getD 1 0=96∨u.getD 1 0=34∨u.getD 1 0=92)
   ·rw [if_pos h2,hb5,decide_eq_true h2,if_pos rfl]
   ·rw [if_neg h2,hb5,decide_eq_false h2,if_neg Bool.false_ne_true]
 rw [hXX] at hz
 have hXb:X.2.2=0→0 < X.2.1∧X.2.1≤u.length∧X.1.wt≤2 * X.2.1:=fun he=>by
  rw [← hXX] at he ⊢
  split at he
  ·rename_i h1;rw [if_pos h1];exact iG sub hsub u true hu0 he
  ·rename_i h1;rw [if_neg h1]
   split
   ·rename_i h2;simp [Pt.wt,wtL];omega
   ·simp [Pt.wt,wtL];omega
 clear hXX
 have hdl:=fun p=>oG sub hsub d B hd hB hP u (by omega) hu0 true p
 (try ((first|refine zn ?_|refine ze ?_|refine zk ?_);with_reducible (constructor;repeat constructor));try refine zl ?_)
 refine af nmd [] hng (by kernel_rfl) fun hf C S K hC1 hC hS hK=>?_;simp (disch:=first|omega|assumption) only [go_sem,hpos]
 refine hK ?_;clear hK hS hC hC1 K S C hf
 (try ((first|refine zn ?_|refine ze ?_|refine zk ?_);with_reducible (constructor;repeat constructor));try refine zl ?_)
 refine dE [0,1,6,7,8,9] (fun s'=>∃ c',s' = ⟨[(0,.str u),(1,.int .i64 d),(6,.list 6 (Pt.avs out)),(7,.ptr (Oid.sub (c+1) 3 x.p) 0),(8,.int .i64 X0.2.1),(9,.int .i64 X0.2.2)],Mem.of [(Oid.sub (c+1) 3 x.p,.cells X0.1.av.cells)],c',[]⟩) ?_ ?_
 ·by_cases h36:u.getD 0 0=36
  ·rw [if_pos h36] at hX0
   have k36:=q36.1 h36
   rw [← hX0] at hdl
   obtain ⟨⟨pk,pq,pt,pn,po,pw⟩,pn',pe⟩:=X0
   simp only [Pt.av,AV.cells] at hdl ⊢
   refine l8 rfl rfl (fun _=>?_) (fun h=>absurd (of_decide_eq_false h) (fun hh=>hh k36))
   (try ((first|refine zn ?_|refine ze ?_|refine zk ?_);with_reducible (constructor;repeat constructor));try refine zl ?_)
   refine af nmd [] hng (by kernel_rfl) fun hf C S K hC1 hC hS hK=>?_;simp (disch:=first|omega|assumption) only [go_sem]
   refine hC1 _ (hdl _) (fun _ h=>by cases h) ?_
   simp (disch:=first|omega|assumption) only [go_sem]
   refine hK ?_;clear hK hS hC hC1 K S C hf
   (repeat (first|(refine ah rfl rfl ?_)|(refine aj rfl rfl ?_)|(refine af nmd [] hng (by kernel_rfl) fun hf C S K hC1 hC hS hK=>?_;simp (disch:=first|omega|assumption) only [go_sem];refine hK ?_;clear hK hS hC hC1 K S C hf)|((first|refine zn ?_|refine ze ?_|refine zk ?_);with_reducible (constructor;repeat constructor);try refine zl ?_)))
   exact aR ⟨_,rfl⟩
  ·rw [if_neg h36] at hX0
   have k36:¬ ((u.getD 0 0).toNat:Int)=36:=fun h=>h36 (q36.2 h)
   subst hX0
   refine l8 rfl rfl (fun h=>absurd (of_decide_eq_true h) k36) (fun _=>?_)
   (repeat (first|(refine ah rfl rfl ?_)|(refine aj rfl rfl ?_)|(refine af nmd [] hng (by kernel_rfl) fun hf C S K hC1 hC hS hK=>?_;simp (disch:=first|omega|assumption) only [go_sem];refine hK ?_;clear hK hS hC hC1 K S C hf)|((first|refine zn ?_|refine ze ?_|refine zk ?_);with_reducible (constructor;repeat constructor);try refine zl ?_)))
   exact aR ⟨_,rfl⟩
 rintro s' ⟨c',rfl⟩
 (try ((first|refine zn ?_|refine ze ?_|refine zk ?_);with_reducible (constructor;repeat constructor));try refine zl ?_)
 refine dE [0,1,6,7,8,9,57] (fun s'=>∃ c',s' = ⟨[(0,.str u),(1,.int .i64 d),(6,.list 6 (Pt.avs out)),(7,.ptr (Oid.sub (c+1) 3 x.p) 0),(8,.int .i64 X0.2.1),(9,.int .i64 X0.2.2),(57,.bool b5)],Mem.of [(Oid.sub (c+1) 3 x.p,.cells X0.1.av.cells)],c',[]⟩) ?_ ?_
 ·clear hX hXb
  by_cases h92:u.getD 0 0=92
  ·have k92:=q92.1 h92
   by_cases h1:1 < u.length
   ·have h1I:(u.length:Int) > 1:=by omega
    have r36:u.getD 1 0=36↔((u.getD 1 0).toNat:Int)=36:=cb (n:=36) (by omega)
    have r96:u.getD 1 0=96↔((u.getD 1 0).toNat:Int)=96:=cb (n:=96) (by omega)
    have r34:u.getD 1 0=34↔((u.getD 1 0).toNat:Int)=34:=cb (n:=34) (by omega)
    have r92:u.getD 1 0=92↔((u.getD 1 0).toNat:Int)=92:=cb (n:=92) (by omega)
    have hb5':b5=decide (((u.getD 1 0).toNat:Int)=36∨((u.getD 1 0).toNat:Int)=96∨((u.getD 1 0).toNat:Int)=34∨((u.getD 1 0).toNat:Int)=92):=by
     rw [hb5];apply decide_eq_decide.2;rw [← r36,← r96,← r34,← r92]
     exact ⟨fun h=>h.2.2,fun h=>⟨h92,h1,h⟩⟩
    refine af nmd [(3,33),(8,38),(12,42),(17,47),(22,52)] hng (by kernel_rfl) fun hf C S K hC1 hC hS hK=>?_;simp (disch:=first|omega|assumption) only [go_sem,hpos,h1,h1I,k92,eq_self,decide_true,decide_false,ne_eq,not_true_eq_false,not_false_eq_true]
    (repeat' (first|(refine bm (fun hv=>?_) (fun hv=>?_)<;>(try simp only [zb1,zb2,zb3,zb4,zb5] at hv)<;>simp (disch:=first|omega|assumption) only [go_sem,hv,hpos,h1,h1I,k92,eq_self,decide_true,decide_false,ne_eq,not_true_eq_false,not_false_eq_true])|(refine hK ?_;clear hK hS hC hC1 K S C hf)))
    all_goals first
     | (obtain rfl:b5=true:=by rw [hb5'];exact decide_eq_true (by omega));exact aR ⟨_,rfl⟩
     | (obtain rfl:b5=decide (((u.getD 1 0).toNat:Int)=92):=by rw [hb5'];exact decide_eq_decide.2 (by omega));exact aR ⟨_,rfl⟩
   ·have h1I:¬ (u.length:Int) > 1:=by omega
    rw [decide_eq_false (fun h=>h1 h.2.1)] at hb5
    subst hb5
    refine af nmd [(3,33),(8,38),(12,42),(17,47),(22,52)] hng (by kernel_rfl) fun hf C S K hC1 hC hS hK=>?_;simp (disch:=first|omega|assumption) only [go_sem,hpos,h1I,k92,eq_self,decide_true,decide_false,ne_eq,not_true_eq_false,not_false_eq_true]
    refine hK ?_;clear hK hS hC hC1 K S C hf
    exact aR ⟨_,rfl⟩
  ·have k92:¬ ((u.getD 0 0).toNat:Int)=92:=fun h=>h92 (q92.2 h)
   rw [decide_eq_false (fun h=>h92 h.1)] at hb5
   subst hb5
   refine af nmd [(3,33),(8,38),(12,42),(17,47),(22,52)] hng (by kernel_rfl) fun hf C S K hC1 hC hS hK=>?_;simp (disch:=first|omega|assumption) only [go_sem,hpos,k92,decide_true,decide_false,ne_eq,not_true_eq_false,not_false_eq_true]
   refine hK ?_;clear hK hS hC hC1 K S C hf
   exact aR ⟨_,rfl⟩
 rintro s' ⟨c',rfl⟩
 refine dE [0,1,6,7,8,9] (fun s'=>∃ c' cs,s' = ⟨[(0,.str u),(1,.int .i64 d),(6,.list 6 (Pt.avs out)),(7,.ptr (Oid.sub (c+1) 3 x.p) 0),(8,.int .i64 X.2.1),(9,.int .i64 X.2.2)],Mem.of [(Oid.sub (c+1) 3 x.p,.cells cs)],c',[]⟩∧c7 cs X.1.av.cells) ?_ ?_
 ·cases b5
  ·rw [if_neg Bool.false_ne_true] at hX
   subst hX
   (repeat (first|(refine ah rfl rfl ?_)|(refine aj rfl rfl ?_)|(refine af nmd [] hng (by kernel_rfl) fun hf C S K hC1 hC hS hK=>?_;simp (disch:=first|omega|assumption) only [go_sem];refine hK ?_;clear hK hS hC hC1 K S C hf)|((first|refine zn ?_|refine ze ?_|refine zk ?_);with_reducible (constructor;repeat constructor);try refine zl ?_)))
   exact aR ⟨_,_,rfl,c7.refl _⟩
  ·rw [if_pos rfl] at hX
   subst hX
   have h2:2≤u.length:=(of_decide_eq_true hb5.symm).2.1
   have ht2:(u.take 2).drop 1=[u.getD 1 0]:=by
    rcases u with _|⟨a,_|⟨b,u⟩⟩
    ·exact absurd rfl hu0
    ·simp at h2
    ·rfl
   obtain ⟨⟨pk,pq,pt,pn,po,pw⟩,pn',pe⟩:=X0
   simp only [Pt.av,AV.cells]
   have he0:pe=0:=by
    by_cases h:u.getD 0 0=36
    ·have:=(of_decide_eq_true hb5.symm).1
     rw [h] at this;exact absurd this (by decide)
    ·rw [if_neg h] at hX0;injection hX0 with _ h;injection h
   subst he0
   refine ah rfl rfl ?_
   (try ((first|refine zn ?_|refine ze ?_|refine zk ?_);with_reducible (constructor;repeat constructor));try refine zl ?_)
   refine af nmd [] hng (by kernel_rfl) fun hf C S K hC1 hC hS hK=>?_;simp (disch:=first|omega|assumption) only [go_sem,h2,ht2]
   refine hK ?_;clear hK hS hC hC1 K S C hf
   exact aR ⟨_,_,rfl,(.cons (.refl _) (.cons (.refl _) (.cons (.refl _) (.cons (.refl _) (.cons (.refl _) (.cons (.bO 6) .nil))))))⟩
 clear hX0 hX hb5
 rintro s' ⟨c',cs,rfl,hcs⟩
 refine dN (Oid.sub (c+1) 3 x.p) _ _ (by rw [Mem.ae,if_pos rfl]) hcs ?_
 refine bq [(Oid.sub (c+1) 3 x.p,.cells X.1.av.cells)] (by simp [Mem.set,Mem.ae]) ?_
 obtain ⟨⟨pk,pq,pt,pn,po,pw⟩,pn',pe⟩:=X
 simp only at hz hXb
 by_cases he:pe=0
 ·subst he
  obtain ⟨k1,k2,k3⟩:=hXb rfl
  rw [if_neg (fun h=>h rfl)] at hz
  have hA:=fun q=>iI out (.mk pk pq pt pn po pw) (by omega) q
  have haw:=cC out (.mk pk pq pt pn po pw)
  generalize di out (.mk pk pq pt pn po pw)=iM at hA haw hz
  simp only [Pt.av,AV.cells] at hA ⊢
  have h00:(((0:Nat):Int)=0)=True:=eq_true rfl
  (repeat (first|(refine ah rfl rfl ?_)|(refine aj rfl rfl ?_)|(refine af nmd [] hng (by kernel_rfl) fun hf C S K hC1 hC hS hK=>?_;simp (disch:=first|omega|assumption) only [go_sem,h00,ne_eq,not_true_eq_false,decide_false,k2];(repeat ((first|refine hC1 _ (hA _) (by simp (disch:=first|omega|assumption) only [go_sem]) ?_);simp (disch:=first|omega|assumption) only [go_sem]));refine hK ?_;clear hK hS hC hC1 K S C hf)|((first|refine zn ?_|refine ze ?_|refine zk ?_);with_reducible (constructor;repeat constructor);try refine zl ?_)))
  exact ⟨_,Mem.of [],by rw [List.length_drop];omega,(fun _ _ h=>by cases h),u.drop pn',iM,f,_,rfl,rfl,by rw [List.length_drop];omega,hz,by rw [List.length_drop];omega⟩
 ·rw [if_pos he] at hz
  rw [hz]
  have heI:¬ (pe:Int)=0:=by omega
  (repeat (first|(refine ah rfl rfl ?_)|(refine aj rfl rfl ?_)|(refine af nmd [] hng (by kernel_rfl) fun hf C S K hC1 hC hS hK=>?_;simp (disch:=first|omega|assumption) only [go_sem,heI,ne_eq,not_false_eq_true,decide_true];refine hK ?_;clear hK hS hC hC1 K S C hf)|((first|refine zn ?_|refine ze ?_|refine zk ?_);with_reducible (constructor;repeat constructor);try refine zl ?_)))
  refine bX 4 6 rfl ?_
  exact aC (aE (by simp (disch:=first|omega|assumption) only [go_sem,Pt.av];rfl))
end Go.Proofs.YtlfeacmbhldjcaaGreatDoor
namespace Go.Proofs.YtlfeacmbhldjcaaGreatDoor
open Go Go.Ab
set_option maxRecDepth 20000
set_option maxHeartbeats 4000000
theorem De (sub:Str→PsE) (hsub:nD sub) (d B:Nat) (hd:d≤30) (hB:B≤60000000000) (hP:gK sub (d+1) B):gK (fun s=>dk sub s.length s []) d B:=by
 intro s hs q
 simp only
 generalize hZ:dk sub s.length s []=Z
 have hdI:¬ (d:Int) > 30:=by omega
 refine aN (n:=88) (rs:=[.tmp 4,.tmp 5]) Tryz.func37 rfl rfl (by decide) rfl rfl rfl ?_;rintro x rfl hrd hng
 (repeat (first|(refine ah rfl rfl ?_)|(refine aj rfl rfl ?_)|(refine af nmd [] hng (by kernel_rfl) fun hf C S K hC1 hC hS hK=>?_;simp (disch:=first|omega|assumption) only [go_sem,hdI,decide_true,decide_false,ne_eq,not_true_eq_false,not_false_eq_true];refine hK ?_;clear hK hS hC hC1 K S C hf)|((first|refine zn ?_|refine ze ?_|refine zk ?_);with_reducible (constructor;repeat constructor);try refine zl ?_)))
 refine bX 6 6 rfl ?_
 refine a6 [0,1,6] (fun k s'=>∃ (u:Str) (out:List Pt) (f c:Nat),s' = ⟨[(0,.str u),(1,.int .i64 d),(6,.list 6 (Pt.avs out))],Mem.of [],c,[]⟩∧k=u.length∧u.length≤f∧Z=dk sub f u out∧wtL out+2 * u.length≤2 * s.length) _ ⟨s,[],s.length,_,rfl,rfl,Nat.le_refl _,hZ.symm,by simp [wtL]⟩ ?_
 rintro k s' ⟨u,out,f,c,rfl,rfl,hf,hz,hw⟩
 by_cases hu0:u=[]
 ·subst hu0
  have hz':Z=(out,0):=by
   rw [hz]
   cases f<;>simp [dk]
  rw [hz']
  have h0:¬ ((([]:Str).length:Int) > 0):=by decide
  (repeat (first|(refine ah rfl rfl ?_)|(refine aj rfl rfl ?_)|(refine af nmd [] hng (by kernel_rfl) fun hf C S K hC1 hC hS hK=>?_;simp (disch:=first|omega|assumption) only [go_sem,h0,decide_true,decide_false,ne_eq,not_true_eq_false,not_false_eq_true];refine hK ?_;clear hK hS hC hC1 K S C hf)|((first|refine zn ?_|refine ze ?_|refine zk ?_);with_reducible (constructor;repeat constructor);try refine zl ?_)))
  exact aC (aE (by simp (disch:=first|omega|assumption) only [go_sem,Pt.av];rfl))
 have hpos:=List.length_pos_iff.2 hu0
 have hposI:(u.length:Int) > 0:=by omega
 have h1l:1≤u.length:=hpos
 obtain ⟨f,rfl⟩:∃ f',f=f' + 1:=⟨f - 1,by omega⟩
 rw [dk,if_neg hu0] at hz
 simp only at hz
 have q36:u.getD 0 0=36↔((u.getD 0 0).toNat:Int)=36:=cb (n:=36) (by omega)
 have q92:u.getD 0 0=92↔((u.getD 0 0).toNat:Int)=92:=cb (n:=92) (by omega)
 have q39:u.getD 0 0=39↔((u.getD 0 0).toNat:Int)=39:=cb (n:=39) (by omega)
 have q34:u.getD 0 0=34↔((u.getD 0 0).toNat:Int)=34:=cb (n:=34) (by omega)
 have ht1:u.take 1=[u.getD 0 0]:=by
  cases u with
  | nil=>exact absurd rfl hu0
  | cons a u=>rfl
 have hSk:=fun p=>u7 u (by omega) 0 hpos p
 by_cases h36:u.getD 0 0=36
 ·have k36:=q36.1 h36
  have k92:¬ ((u.getD 0 0).toNat:Int)=92:=by omega
  have k39:¬ ((u.getD 0 0).toNat:Int)=39:=by omega
  have k34:¬ ((u.getD 0 0).toNat:Int)=34:=by omega
  rw [if_pos h36] at hz
  have hdl:=fun p=>oG sub hsub d B (by omega) hB hP u (by omega) hu0 false p
  have hXb:=iG sub hsub u false hu0
  generalize bK sub u false=X at hdl hXb hz
  obtain ⟨⟨pk,pq,pt,pn,po,pw⟩,pn',pe⟩:=X
  simp only at hz hXb
  by_cases he:pe=0
  ·subst he
   obtain ⟨k1,k2,k3⟩:=hXb rfl
   rw [if_neg (fun h=>h rfl)] at hz
   have hA:=fun q=>iI out (.mk pk pq pt pn po pw) (by omega) q
   have haw:=cC out (.mk pk pq pt pn po pw)
   generalize di out (.mk pk pq pt pn po pw)=iM at hA haw hz
   simp only [Pt.av] at hA hdl
   have h00:(((0:Nat):Int)=0)=True:=eq_true rfl
   have k34':¬ (36:Int)=34:=by decide
   have k92':¬ (36:Int)=92:=by decide
   have k39':¬ (36:Int)=39:=by decide
   (repeat (first|(refine ah rfl rfl ?_)|(refine aj rfl rfl ?_)|(refine af nmd [] hng (by kernel_rfl) fun hf C S K hC1 hC hS hK=>?_;simp (disch:=first|omega|assumption) only [go_sem,hposI,h1l,ht1,hpos,k36,k34',k92',k39',h00,k2,eq_self,decide_true,decide_false,ne_eq,not_true_eq_false,not_false_eq_true];(repeat ((first|refine hC1 _ (hdl _) (by simp (disch:=first|omega|assumption) only [go_sem]) ?_|refine hC1 _ (hA _) (by simp (disch:=first|omega|assumption) only [go_sem]) ?_);simp (disch:=first|omega|assumption) only [go_sem]));refine hK ?_;clear hK hS hC hC1 K S C hf)|((first|refine zn ?_|refine ze ?_|refine zk ?_);with_reducible (constructor;repeat constructor);try refine zl ?_)))
   exact ⟨_,Mem.of [],by rw [List.length_drop];omega,(fun _ _ h=>by cases h),_,iM,f,_,rfl,rfl,by rw [List.length_drop];omega,hz,by rw [List.length_drop];omega⟩
  ·rw [if_pos he] at hz
   rw [hz]
   have heI:¬ (pe:Int)=0:=by omega
   simp only [Pt.av] at hdl
   have k92':¬ (36:Int)=92:=by decide
   have k39':¬ (36:Int)=39:=by decide
   have k34':¬ (36:Int)=34:=by decide
   (repeat (first|(refine ah rfl rfl ?_)|(refine aj rfl rfl ?_)|(refine af nmd [] hng (by kernel_rfl) fun hf C S K hC1 hC hS hK=>?_;simp (disch:=first|omega|assumption) only [go_sem,hposI,h1l,ht1,hpos,k36,k34',k92',k39',heI,eq_self,decide_true,decide_false,ne_eq,not_true_eq_false,not_false_eq_true];(repeat ((first|refine hC1 _ (hdl _) (by simp (disch:=first|omega|assumption) only [go_sem]) ?_);simp (disch:=first|omega|assumption) only [go_sem]));refine hK ?_;clear hK hS hC hC1 K S C hf)|((first|refine zn ?_|refine ze ?_|refine zk ?_);with_reducible (constructor;repeat constructor);try refine zl ?_)))
   refine bX 4 6 rfl ?_
   exact aC (aE (by simp (disch:=first|omega|assumption) only [go_sem,Pt.av];rfl))
 have k36:¬ ((u.getD 0 0).toNat:Int)=36:=fun h=>h36 (q36.2 h)
 rw [if_neg h36] at hz
 by_cases hq:u.getD 0 0=92∨u.getD 0 0=39∨u.getD 0 0=34
 case neg =>
  rw [if_neg hq] at hz
  have k92:¬ ((u.getD 0 0).toNat:Int)=92:=fun h=>hq (.inl (q92.2 h))
  have k39:¬ ((u.getD 0 0).toNat:Int)=39:=fun h=>hq (.inr (.inl (q39.2 h)))
  have k34:¬ ((u.getD 0 0).toNat:Int)=34:=fun h=>hq (.inr (.inr (q34.2 h)))
  have hwp:(Pt.mk 0 false [u.getD 0 0] [] [] []).wt=2:=rfl
  have hA:=fun q=>(iI out (.mk 0 false [u.getD 0 0] [] [] []) (by omega) q).pj (.cons (.refl _) (.cons (fc.agg (.cons (.refl _) (.cons (.refl _) (.cons (.refl _) (.cons (.refl _) (.cons (.refl _) (.cons (.bO 6) .nil))))))) .nil))
  have haw:=cC out (.mk 0 false [u.getD 0 0] [] [] [])
  generalize di out (.mk 0 false [u.getD 0 0] [] [] [])=iM at hA haw hz
  (repeat (first|(refine ah rfl rfl ?_)|(refine aj rfl rfl ?_)|(refine af nmd [] hng (by kernel_rfl) fun hf C S K hC1 hC hS hK=>?_;simp (disch:=first|omega|assumption) only [go_sem,hposI,h1l,ht1,hpos,k36,k34,k92,k39,eq_self,decide_true,decide_false,ne_eq,not_true_eq_false,not_false_eq_true];(repeat ((first|refine hC1 _ (hA _) (by simp (disch:=first|omega|assumption) only [go_sem]) ?_);simp (disch:=first|omega|assumption) only [go_sem]));refine hK ?_;clear hK hS hC hC1 K S C hf)|((first|refine zn ?_|refine ze ?_|refine zk ?_);with_reducible (constructor;repeat constructor);try refine zl ?_)))
  exact ⟨_,Mem.of [],by rw [List.length_drop];omega,(fun _ _ h=>by cases h),_,iM,f,_,rfl,rfl,by rw [List.length_drop];omega,hz,by rw [List.length_drop];omega⟩
 rw [if_pos hq] at hz
 have hk:=lD u
 have hk2:=uX u
 generalize iW u 0=o at hSk hk hk2 hz
 cases o with
 | none =>
  simp only at hz
  rw [hz]
  have hm1:(-1:Int) < 0:=by decide
  rcases hq with h|h|h
  ·have k:=q92.1 h
   (repeat (first|(refine ah rfl rfl ?_)|(refine aj rfl rfl ?_)|(refine af nmd [] hng (by kernel_rfl) fun hf C S K hC1 hC hS hK=>?_;simp (disch:=first|omega|assumption) only [go_sem,hposI,h1l,ht1,hpos,k,fK,hm1,eq_self,decide_true,decide_false,ne_eq,not_true_eq_false,not_false_eq_true];(repeat ((first|refine hC1 _ (hSk _) (by simp (disch:=first|omega|assumption) only [go_sem]) ?_);simp (disch:=first|omega|assumption) only [go_sem]));refine hK ?_;clear hK hS hC hC1 K S C hf)|((first|refine zn ?_|refine ze ?_|refine zk ?_);with_reducible (constructor;repeat constructor);try refine zl ?_)))
   refine bX 4 6 rfl ?_
   exact aC (aE (by simp (disch:=first|omega|assumption) only [go_sem,Pt.av];rfl))
  ·have k:=q39.1 h
   have k':¬ (39:Int)=92:=by decide
   (repeat (first|(refine ah rfl rfl ?_)|(refine aj rfl rfl ?_)|(refine af nmd [] hng (by kernel_rfl) fun hf C S K hC1 hC hS hK=>?_;simp (disch:=first|omega|assumption) only [go_sem,hposI,h1l,ht1,hpos,k,k',fK,hm1,eq_self,decide_true,decide_false,ne_eq,not_true_eq_false,not_false_eq_true];(repeat ((first|refine hC1 _ (hSk _) (by simp (disch:=first|omega|assumption) only [go_sem]) ?_);simp (disch:=first|omega|assumption) only [go_sem]));refine hK ?_;clear hK hS hC hC1 K S C hf)|((first|refine zn ?_|refine ze ?_|refine zk ?_);with_reducible (constructor;repeat constructor);try refine zl ?_)))
   refine bX 4 6 rfl ?_
   exact aC (aE (by simp (disch:=first|omega|assumption) only [go_sem,Pt.av];rfl))
  ·have k:=q34.1 h
   have k':¬ (34:Int)=92:=by decide
   have k'':¬ (34:Int)=39:=by decide
   (repeat (first|(refine ah rfl rfl ?_)|(refine aj rfl rfl ?_)|(refine af nmd [] hng (by kernel_rfl) fun hf C S K hC1 hC hS hK=>?_;simp (disch:=first|omega|assumption) only [go_sem,hposI,h1l,ht1,hpos,k,k',k'',fK,hm1,eq_self,decide_true,decide_false,ne_eq,not_true_eq_false,not_false_eq_true];(repeat ((first|refine hC1 _ (hSk _) (by simp (disch:=first|omega|assumption) only [go_sem]) ?_);simp (disch:=first|omega|assumption) only [go_sem]));refine hK ?_;clear hK hS hC hC1 K S C hf)|((first|refine zn ?_|refine ze ?_|refine zk ?_);with_reducible (constructor;repeat constructor);try refine zl ?_)))
   refine bX 4 6 rfl ?_
   exact aC (aE (by simp (disch:=first|omega|assumption) only [go_sem,Pt.av];rfl))
 | some m =>
  simp only at hz
  have hm2:=hk2 m hu0 hq rfl
  have hml:=(hk m hu0 rfl).2
  have hm0:¬ (m:Int) < 0:=by omega
  have hm1:((m:Int) - 1).toNat=m - 1:=by omega
  have hm3:(0:Int)≤(m:Int) - 1:=by omega
  have hm4:1≤m - 1:=by omega
  have hm5:m - 1≤u.length:=by omega
  clear hk hk2
  by_cases h92:u.getD 0 0=92
  ·have k:=q92.1 h92
   rw [if_pos h92] at hz
   have h2:2≤u.length:=by omega
   have ht2:(u.take 2).drop 1=[u.getD 1 0]:=by
    rcases u with _|⟨a,_|⟨b,u⟩⟩
    ·exact absurd rfl hu0
    ·simp at h2
    ·rfl
   have hwp:(Pt.mk 0 true [u.getD 1 0] [] [] []).wt=2:=rfl
   have hA:=fun q=>(iI out (.mk 0 true [u.getD 1 0] [] [] []) (by omega) q).pj (.cons (.refl _) (.cons (fc.agg (.cons (.refl _) (.cons (.refl _) (.cons (.refl _) (.cons (.refl _) (.cons (.refl _) (.cons (.bO 6) .nil))))))) .nil))
   have haw:=cC out (.mk 0 true [u.getD 1 0] [] [] [])
   generalize di out (.mk 0 true [u.getD 1 0] [] [] [])=iM at hA haw hz
   have k34:¬ (92:Int)=34:=by decide
   (repeat (first|(refine ah rfl rfl ?_)|(refine aj rfl rfl ?_)|(refine af nmd [] hng (by kernel_rfl) fun hf C S K hC1 hC hS hK=>?_;simp (disch:=first|omega|assumption) only [go_sem,hposI,h1l,ht1,ht2,h2,hpos,k,k34,fK,hm0,hm1,hm3,hm4,hm5,hml,eq_self,decide_true,decide_false,ne_eq,not_true_eq_false,not_false_eq_true];(repeat ((first|refine hC1 _ (hSk _) (by simp (disch:=first|omega|assumption) only [go_sem]) ?_|refine hC1 _ (hA _) (by simp (disch:=first|omega|assumption) only [go_sem]) ?_);simp (disch:=first|omega|assumption) only [go_sem]));refine hK ?_;clear hK hS hC hC1 K S C hf)|((first|refine zn ?_|refine ze ?_|refine zk ?_);with_reducible (constructor;repeat constructor);try refine zl ?_)))
   exact ⟨_,Mem.of [],by rw [List.length_drop];omega,(fun _ _ h=>by cases h),_,iM,f,_,rfl,rfl,by rw [List.length_drop];omega,hz,by rw [List.length_drop];omega⟩
  ·rw [if_neg h92] at hz
   have hmd:((u.take (m - 1)).drop 1).length=m - 2:=by rw [List.length_drop,List.length_take];omega
   by_cases h39:u.getD 0 0=39
   ·have k:=q39.1 h39
    rw [if_pos h39] at hz
    have hwp:(Pt.mk 0 true ((u.take (m - 1)).drop 1) [] [] []).wt=m - 2+0+1:=by rw [← hmd];rfl
    have hA:=fun q=>(iI out (.mk 0 true ((u.take (m - 1)).drop 1) [] [] []) (by omega) q).pj (.cons (.refl _) (.cons (fc.agg (.cons (.refl _) (.cons (.refl _) (.cons (.refl _) (.cons (.refl _) (.cons (.refl _) (.cons (.bO 6) .nil))))))) .nil))
    have haw:=cC out (.mk 0 true ((u.take (m - 1)).drop 1) [] [] [])
    generalize di out (.mk 0 true ((u.take (m - 1)).drop 1) [] [] [])=iM at hA haw hz
    have k92:¬ (39:Int)=92:=by decide
    have k34:¬ (39:Int)=34:=by decide
    (repeat (first|(refine ah rfl rfl ?_)|(refine aj rfl rfl ?_)|(refine af nmd [] hng (by kernel_rfl) fun hf C S K hC1 hC hS hK=>?_;simp (disch:=first|omega|assumption) only [go_sem,hposI,h1l,ht1,hpos,k,k92,k34,fK,hm0,hm1,hm3,hm4,hm5,hml,eq_self,decide_true,decide_false,ne_eq,not_true_eq_false,not_false_eq_true];(repeat ((first|refine hC1 _ (hSk _) (by simp (disch:=first|omega|assumption) only [go_sem]) ?_|refine hC1 _ (hA _) (by simp (disch:=first|omega|assumption) only [go_sem]) ?_);simp (disch:=first|omega|assumption) only [go_sem]));refine hK ?_;clear hK hS hC hC1 K S C hf)|((first|refine zn ?_|refine ze ?_|refine zk ?_);with_reducible (constructor;repeat constructor);try refine zl ?_)))
    exact ⟨_,Mem.of [],by rw [List.length_drop];omega,(fun _ _ h=>by cases h),_,iM,f,_,rfl,rfl,by rw [List.length_drop];omega,hz,by rw [List.length_drop];omega⟩
   ·rw [if_neg h39] at hz
    have k:=q34.1 ((hq.resolve_left h92).resolve_left h39)
    have k92:¬ (34:Int)=92:=by decide
    have k39:¬ (34:Int)=39:=by decide
    have hDb:=fun q=>zo sub hsub d B (by omega) hB hP ((u.take (m - 1)).drop 1) (by omega) q
    have hDw:=oE sub hsub ((u.take (m - 1)).drop 1)
    rw [hmd] at hDw
    generalize dQ sub ((u.take (m - 1)).drop 1)=w at hDb hDw hz
    obtain ⟨w,e⟩:=w
    simp only at hDb hDw hz
    by_cases he:e=0
    ·subst he
     rw [if_neg (fun h=>h rfl)] at hz
     have hww:=hDw rfl
     have hwl:=jt w
     have haw:=ju w out
     have h00:(((0:Nat):Int)=0)=True:=eq_true rfl
     (repeat (first|(refine ah rfl rfl ?_)|(refine aj rfl rfl ?_)|(refine af nmd [] hng (by kernel_rfl) fun hf C S K hC1 hC hS hK=>?_;simp (disch:=first|omega|assumption) only [go_sem,hposI,h1l,ht1,hpos,k,k92,k39,fK,hm0,hm1,hm3,hm4,hm5,hml,h00,eq_self,decide_true,decide_false,ne_eq,not_true_eq_false,not_false_eq_true];(repeat ((first|refine hC1 _ (hSk _) (by simp (disch:=first|omega|assumption) only [go_sem]) ?_|refine hC1 _ (hDb _) (by simp (disch:=first|omega|assumption) only [go_sem]) ?_);simp (disch:=first|omega|assumption) only [go_sem]));refine hK ?_;clear hK hS hC hC1 K S C hf)|((first|refine zn ?_|refine ze ?_|refine zk ?_);with_reducible (constructor;repeat constructor);try refine zl ?_)))
     refine bq [] (fun _ h=>by cases h) ?_
     refine a6 [0,1,6,8,10,11] (fun k s'=>∃ (j c:Nat) (o:List Pt),s' = ⟨[(0,.str u),(1,.int .i64 d),(6,.list 6 (Pt.avs o)),(8,.int .i64 m),(10,.list 6 (Pt.avs w)),(11,.int .i64 j)],Mem.of [],c,[]⟩∧k=w.length - j∧j≤w.length∧w.foldl di out=(w.drop j).foldl di o∧wtL o+wtL (w.drop j)≤wtL out+wtL w) _ ⟨0,_,out,rfl,rfl,Nat.zero_le _,rfl,Nat.le_refl _⟩ ?_
     rintro k s' ⟨j,c,o,rfl,rfl,hj,ho,how⟩
     have hx:=iH w
     by_cases hlt:j < w.length
     ·have hI:(j:Int) < w.length:=by omega
      obtain ⟨p,hm,hdr,hg⟩:=mS hlt
      rw [hdr,List.foldl_cons] at ho
      rw [hdr,wtL] at how
      have hA:=fun q=>iI o p (by omega) q
      have haw:=cC o p
      generalize di o p=o' at hA haw ho
      obtain ⟨pk,pq,pt,pn,po,pw⟩:=p
      simp only [Pt.av] at hA hg
      have hlx:j < (Pt.avs w).length:=by omega
      (repeat (first|(refine ah rfl rfl ?_)|(refine aj rfl rfl ?_)|(refine af nmd [] hng (by kernel_rfl) fun hf C S K hC1 hC hS hK=>?_;simp (disch:=first|omega|assumption) only [go_sem,hx,hI,hg,hlx,decide_true,decide_false,ne_eq,not_true_eq_false,not_false_eq_true];(repeat ((first|refine hC1 _ (hA _) (by simp (disch:=first|omega|assumption) only [go_sem]) ?_);simp (disch:=first|omega|assumption) only [go_sem]));refine hK ?_;clear hK hS hC hC1 K S C hf)|((first|refine zn ?_|refine ze ?_|refine zk ?_);with_reducible (constructor;repeat constructor);try refine zl ?_)))
      exact ⟨_,_,by omega,fun _ _ h=>h,j+1,_,o',rfl,rfl,by omega,ho,by omega⟩
     ·have hI:¬ (j:Int) < w.length:=by omega
      rw [List.drop_eq_nil_of_le (by omega),List.foldl_nil] at ho
      rw [ho] at hz haw
      generalize o=iM at hz haw
      (repeat (first|(refine ah rfl rfl ?_)|(refine aj rfl rfl ?_)|(refine af nmd [] hng (by kernel_rfl) fun hf C S K hC1 hC hS hK=>?_;simp (disch:=first|omega|assumption) only [go_sem,hx,hI,hml,decide_true,decide_false,ne_eq,not_true_eq_false,not_false_eq_true];refine hK ?_;clear hK hS hC hC1 K S C hf)|((first|refine zn ?_|refine ze ?_|refine zk ?_);with_reducible (constructor;repeat constructor);try refine zl ?_)))
      exact ⟨_,Mem.of [],by rw [List.length_drop];omega,(fun _ _ h=>by cases h),_,iM,f,_,rfl,rfl,by rw [List.length_drop];omega,hz,by rw [List.length_drop];omega⟩
    ·rw [if_pos he] at hz
     rw [hz]
     have heI:¬ (e:Int)=0:=by omega
     (repeat (first|(refine ah rfl rfl ?_)|(refine aj rfl rfl ?_)|(refine af nmd [] hng (by kernel_rfl) fun hf C S K hC1 hC hS hK=>?_;simp (disch:=first|omega|assumption) only [go_sem,hposI,h1l,ht1,hpos,k,k92,k39,fK,hm0,hm1,hm3,hm4,hm5,hml,heI,eq_self,decide_true,decide_false,ne_eq,not_true_eq_false,not_false_eq_true];(repeat ((first|refine hC1 _ (hSk _) (by simp (disch:=first|omega|assumption) only [go_sem]) ?_|refine hC1 _ (hDb _) (by simp (disch:=first|omega|assumption) only [go_sem]) ?_);simp (disch:=first|omega|assumption) only [go_sem]));refine hK ?_;clear hK hS hC hC1 K S C hf)|((first|refine zn ?_|refine ze ?_|refine zk ?_);with_reducible (constructor;repeat constructor);try refine zl ?_)))
     refine bX 4 6 rfl ?_
     exact aC (aE (by simp (disch:=first|omega|assumption) only [go_sem,Pt.av];rfl))
theorem tL (B:Nat):gK (gJ 0) 31 B:=by
 intro s hs q
 rw [show gJ 0 s=([],2) from rfl]
 refine aN (n:=88) (rs:=[.tmp 4,.tmp 5]) Tryz.func37 rfl rfl (by decide) rfl rfl rfl ?_;rintro x rfl hrd hng
 (repeat (first|(refine ah rfl rfl ?_)|(refine aj rfl rfl ?_)|(refine af nmd [] hng (by kernel_rfl) fun hf C S K hC1 hC hS hK=>?_;simp (disch:=first|omega|assumption) only [go_sem];refine hK ?_;clear hK hS hC hC1 K S C hf)|((first|refine zn ?_|refine ze ?_|refine zk ?_);with_reducible (constructor;repeat constructor);try refine zl ?_)))
 refine bX 4 6 rfl ?_
 exact aC (aE (by simp (disch:=first|omega|assumption) only [go_sem,Pt.av];rfl))
theorem oH (B:Nat) (hB:B≤60000000000):∀ (r d:Nat),d+r=31→gK (gJ r) d B
 | 0,d,h=>by obtain rfl:d=31:=by omega
             exact tL B
 | r+1,d,h=>De (gJ r) (mP r) d B (by omega) hB (oH B hB r (d+1) (by omega))
theorem rZ (s:Str) (hs:s.length≤60000000000) (q:Oid):aA Tryz.prog 16 [.str s] (Oid.under q) ⟨[],.tuple [.list 6 (Pt.avs (kv s).1),.int .i64 (kv s).2],[]⟩:=by
 have h:=fun q=>oH 60000000000 (Nat.le_refl _) 30 1 rfl s hs q
 refine aN (n:=8) (rs:=[.tmp 2,.tmp 3]) Tryz.func16 rfl rfl (by decide) rfl rfl rfl ?_;rintro x rfl hrd hng
 (repeat (first|(refine ah rfl rfl ?_)|(refine aj rfl rfl ?_)|(refine af nmd [] hng (by kernel_rfl) fun hf C S K hC1 hC hS hK=>?_;simp (disch:=first|omega|assumption) only [go_sem];(repeat ((first|refine hC1 _ (h _) (by simp (disch:=first|omega|assumption) only [go_sem]) ?_);simp (disch:=first|omega|assumption) only [go_sem]));refine hK ?_;clear hK hS hC hC1 K S C hf)|((first|refine zn ?_|refine ze ?_|refine zk ?_);with_reducible (constructor;repeat constructor);try refine zl ?_)))
 exact aC (aE (by simp (disch:=first|omega|assumption) only [go_sem];rfl))
end Go.Proofs.YtlfeacmbhldjcaaGreatDoor
namespace Go.Proofs.YtlfeacmbhldjcaaGreatDoor
open Go Go.Ab
set_option maxRecDepth 20000
def e8:Str→Str
 | []=>[]
 | b::s=>92::b::e8 s
theorem gj:∀ s:Str,(e8 s).length=2 * s.length
 | []=>rfl
 | b::s=>by
  have:=gj s
  simp only [e8,List.length_cons];omega
theorem Df (s:Str) (b:UInt8):e8 (s++[b])=e8 s++[92,b]:=by
 induction s with
 | nil=>rfl
 | cons c s ih=>simp only [List.cons_append,e8,ih]
def gm (s:Str):Str:=if 1 < s.length∧s.getD 0 0=92 then s.drop 2 else s.drop 1
def oI (s:Str):UInt8:=if 1 < s.length∧s.getD 0 0=92 then s.getD 1 0 else s.getD 0 0
theorem gp (s:Str) (h:¬ s=[]):(gm s).length < s.length:=by
 have:=List.length_pos_iff.2 h
 unfold gm
 split<;>(rw [List.length_drop];omega)
def b8 (s:Str):Str:=if h:s=[] then [] else oI s::b8 (gm s)
termination_by s.length
decreasing_by exact gp s h
def sf (b:UInt8):Bool:=b=42 || b=63 || b=91
def iv (s:Str):Bool:=if h:s=[] then false else if sf (s.getD 0 0)=true then true else iv (gm s)
termination_by s.length
decreasing_by exact gp s h
theorem mT:b8 []=[]:=by unfold b8;rw [dif_pos rfl]
theorem k7 {s:Str} (h:¬ s=[]):b8 s=oI s::b8 (gm s):=by
 rw [b8,dif_neg h]
theorem zp:iv []=false:=by unfold iv;rw [dif_pos rfl]
theorem tM {s:Str} (h:¬ s=[]):iv s=if sf (s.getD 0 0)=true then true else iv (gm s):=by
 rw [iv,dif_neg h]
theorem tN (s:Str):(b8 s).length≤s.length:=by
 induction hn:s.length using Nat.strongRecOn generalizing s with
 | _ n ih =>
  by_cases h:s=[]
  ·subst h;rw [mT];exact Nat.zero_le _
  ·have h1:=gp s h
   have h2:=ih _ (hn ▸ h1) (gm s) rfl
   rw [k7 h,List.length_cons];omega
theorem XC (b:UInt8):decide (Lib.indexByte [42,63,91] b ≥ 0)=sf b:=by
 by_cases h1:b=42
 ·subst h1;decide
 by_cases h2:b=63
 ·subst h2;decide
 by_cases h3:b=91
 ·subst h3;decide
 have e:sf b=false:=by simp [sf,h1,h2,h3]
 rw [e]
 exact decide_eq_false (by simp [Lib.indexByte,Ne.symm h1,Ne.symm h2,Ne.symm h3,h1,h2,h3])
end Go.Proofs.YtlfeacmbhldjcaaGreatDoor
namespace Go.Proofs
open Go.Shelf
def Tryz.k8:Go.Shelf.Ren:=⟨fun|156=>179|165=>202|166=>79|169=>72|240=>115|241=>236|276=>146|277=>265|n=>n,fun|31=>27|9=>9|3=>3|4=>4|0=>0|20=>20|72=>117|76=>141|70=>114|37=>115|75=>119|127=>165|164=>190|5=>5|80=>83|n=>n,fun|n=>n⟩
theorem Tryz.XD:Go.Proofs.Lays.n156 Tryz.prog Tryz.k8:={
 mixed:=by kernel_rfl
 f156:=Tryz.func179.trans (congrArg some (by kernel_rfl))
 f165:=Tryz.func202.trans (congrArg some (by kernel_rfl))
 f166:=Tryz.func79.trans (congrArg some (by kernel_rfl))
 f169:=Tryz.func72.trans (congrArg some (by kernel_rfl))
 f240:=Tryz.func115.trans (congrArg some (by kernel_rfl))
 f241:=Tryz.func236.trans (congrArg some (by kernel_rfl))
 f276:=Tryz.func146.trans (congrArg some (by kernel_rfl))
 f277:=Tryz.func265.trans (congrArg some (by kernel_rfl))
 t0:=Tryz.underlying0
 a0:=Tryz.isAgg0
 z0:=Tryz.sizeOf0
 v0:=Tryz.zeroValue0
 t3:=Tryz.underlying3
 a3:=Tryz.isAgg3
 z3:=Tryz.sizeOf3
 v3:=Tryz.zeroValue3
 t4:=Tryz.underlying4
 a4:=Tryz.isAgg4
 z4:=Tryz.sizeOf4
 v4:=Tryz.zeroValue4
 t9:=Tryz.underlying9
 a9:=Tryz.isAgg9
 z9:=Tryz.sizeOf9
 v9:=Tryz.zeroValue9
 t20:=Tryz.underlying20
 a20:=Tryz.isAgg20
 z20:=Tryz.sizeOf20
 v20:=Tryz.zeroValue20
 t31:=Tryz.underlying27
 a31:=Tryz.isAgg27
 z31:=Tryz.sizeOf27
 v31:=Tryz.zeroValue27
 t37:=Tryz.underlying115
 a37:=Tryz.isAgg115
 z37:=Tryz.sizeOf115
 v37:=Tryz.zeroValue115
 t70:=Tryz.underlying114
 a70:=Tryz.isAgg114
 z70:=Tryz.sizeOf114
 v70:=Tryz.zeroValue114
 t72:=Tryz.underlying117
 a72:=Tryz.isAgg117
 z72:=Tryz.sizeOf117
 v72:=Tryz.zeroValue117
 t75:=Tryz.underlying119
 a75:=Tryz.isAgg119
 z75:=Tryz.sizeOf119
 v75:=Tryz.zeroValue119
 t76:=Tryz.underlying141
 a76:=Tryz.isAgg141
 z76:=Tryz.sizeOf141
 v76:=Tryz.zeroValue141
 t127:=Tryz.underlying165
 a127:=Tryz.isAgg165
 z127:=Tryz.sizeOf165
 v127:=Tryz.zeroValue165
 t164:=Tryz.underlying190
 a164:=Tryz.isAgg190
 z164:=Tryz.sizeOf190
 v164:=Tryz.zeroValue190 }
theorem Tryz.jX:Builder.Extra Tryz.prog Tryz.k8:={
 sizeBuilder:=by kernel_rfl
 liesBuilder:=by kernel_rfl
 t5:=Tryz.underlying5
 a5:=Tryz.isAgg5
 z5:=Tryz.sizeOf5
 v5:=Tryz.zeroValue5
 infoByte:=by kernel_rfl
 cellsByte:=by kernel_rfl
 sizeByte:=by kernel_rfl
 neB5:=by decide }
open Go.RowKit in
open Go.RowKit in
theorem Tryz.strings_Join (bk o c:Nat) (xs:List ByteArray) (sep:ByteArray) (w:World) (hcells:∀ (j:Nat) x,xs[j]? = some x→w.cell? ⟨bk,o+j,none⟩=some (.string x)) (hbk:bk < w.heap.size) (hN:xs.length≤140737488355328) (hcap:xs.length≤c) (hlen:(Lib.join (xs.map (·.data.toList)) sep.data.toList).length≤140737488355328) :
  Calls Tryz.prog 179 #[.slice (some ⟨bk,o,none⟩) xs.length c,.string sep] w fun e w'=>e = .returned (.string ⟨(Lib.join (xs.map (·.data.toList)) sep.data.toList).toArray⟩)∧Below w.heap.size w w':=Any.strings_Join Tryz.XD Tryz.jX bk o c xs sep w hcells hbk hN hcap hlen
def Tryz.sg:Go.Shelf.Ren:=⟨fun|106=>163|213=>200|265=>233|n=>n,fun|9=>9|3=>3|n=>n,fun|n=>n⟩
theorem Tryz.XE:Go.Proofs.Lays.n106 Tryz.prog Tryz.sg:={
 mixed:=by kernel_rfl
 f106:=Tryz.func163.trans (congrArg some (by kernel_rfl))
 f213:=Tryz.func200.trans (congrArg some (by kernel_rfl))
 f265:=Tryz.func233.trans (congrArg some (by kernel_rfl))
 t3:=Tryz.underlying3
 a3:=Tryz.isAgg3
 z3:=Tryz.sizeOf3
 v3:=Tryz.zeroValue3
 t9:=Tryz.underlying9
 a9:=Tryz.isAgg9
 z9:=Tryz.sizeOf9
 v9:=Tryz.zeroValue9 }
open Go.RowKit in
theorem Tryz.strings_Compare (a b:ByteArray) (w:World) :
  Calls Tryz.prog 163 #[.string a,.string b] w fun e w'=>e = .returned (.int .i64 (Lib.compareBytes a.data.toList b.data.toList))∧w' = w:=Any.strings_Compare Tryz.XE a b w
def Tryz.sj:Go.Shelf.Ren:=⟨fun|137=>64|217=>110|266=>142|n=>n,fun|9=>9|5=>5|3=>3|n=>n,fun|n=>n⟩
theorem Tryz.XF:Go.Proofs.Lays.n137 Tryz.prog Tryz.sj:={
 mixed:=by kernel_rfl
 f137:=Tryz.func64.trans (congrArg some (by kernel_rfl))
 f217:=Tryz.func110.trans (congrArg some (by kernel_rfl))
 f266:=Tryz.func142.trans (congrArg some (by kernel_rfl))
 t3:=Tryz.underlying3
 a3:=Tryz.isAgg3
 z3:=Tryz.sizeOf3
 v3:=Tryz.zeroValue3
 t5:=Tryz.underlying5
 a5:=Tryz.isAgg5
 z5:=Tryz.sizeOf5
 v5:=Tryz.zeroValue5
 t9:=Tryz.underlying9
 a9:=Tryz.isAgg9
 z9:=Tryz.sizeOf9
 v9:=Tryz.zeroValue9 }
open Go.RowKit in
theorem Tryz.strings_IndexByte (s:ByteArray) (c:Int) (w:World) :
  Calls Tryz.prog 64 #[.string s,.int .u8 c] w fun e w'=>e = .returned (.int .i64 (Lib.indexByte s.data.toList c.toNat.toUInt8))∧w' = w:=Any.strings_IndexByte Tryz.XF s c w
def Tryz.k9:Go.Shelf.Ren:=⟨fun|155=>124|154=>164|138=>201|165=>202|143=>199|166=>79|197=>203|169=>72|195=>234|218=>235|240=>115|241=>236|219=>232|260=>237|276=>146|277=>265|217=>110|225=>262|224=>263|267=>264|266=>142|314=>290|n=>n,fun|9=>9|3=>3|4=>4|72=>117|0=>0|76=>141|105=>241|21=>21|5=>5|70=>114|20=>20|37=>115|75=>119|127=>165|164=>190|46=>239|119=>286|139=>289|138=>288|146=>311|51=>298|80=>83|n=>n,fun|1=>0|3=>1|4=>2|n=>n⟩
theorem Tryz.XG:Go.Proofs.Lays.n155 Tryz.prog Tryz.k9:={
 mixed:=by kernel_rfl
 f138:=Tryz.func201.trans (congrArg some (by kernel_rfl))
 f143:=Tryz.func199.trans (congrArg some (by kernel_rfl))
 f154:=Tryz.func164.trans (congrArg some (by kernel_rfl))
 f155:=Tryz.func124.trans (congrArg some (by kernel_rfl))
 f165:=Tryz.func202.trans (congrArg some (by kernel_rfl))
 f166:=Tryz.func79.trans (congrArg some (by kernel_rfl))
 f169:=Tryz.func72.trans (congrArg some (by kernel_rfl))
 f195:=Tryz.func234.trans (congrArg some (by kernel_rfl))
 f197:=Tryz.func203.trans (congrArg some (by kernel_rfl))
 f217:=Tryz.func110.trans (congrArg some (by kernel_rfl))
 f218:=Tryz.func235.trans (congrArg some (by kernel_rfl))
 f219:=Tryz.func232.trans (congrArg some (by kernel_rfl))
 f224:=Tryz.func263.trans (congrArg some (by kernel_rfl))
 f225:=Tryz.func262.trans (congrArg some (by kernel_rfl))
 f240:=Tryz.func115.trans (congrArg some (by kernel_rfl))
 f241:=Tryz.func236.trans (congrArg some (by kernel_rfl))
 f260:=Tryz.func237.trans (congrArg some (by kernel_rfl))
 f266:=Tryz.func142.trans (congrArg some (by kernel_rfl))
 f267:=Tryz.func264.trans (congrArg some (by kernel_rfl))
 f276:=Tryz.func146.trans (congrArg some (by kernel_rfl))
 f277:=Tryz.func265.trans (congrArg some (by kernel_rfl))
 f314:=Tryz.func290.trans (congrArg some (by kernel_rfl))
 t0:=Tryz.underlying0
 a0:=Tryz.isAgg0
 z0:=Tryz.sizeOf0
 v0:=Tryz.zeroValue0
 t3:=Tryz.underlying3
 a3:=Tryz.isAgg3
 z3:=Tryz.sizeOf3
 v3:=Tryz.zeroValue3
 t4:=Tryz.underlying4
 a4:=Tryz.isAgg4
 z4:=Tryz.sizeOf4
 v4:=Tryz.zeroValue4
 t5:=Tryz.underlying5
 a5:=Tryz.isAgg5
 z5:=Tryz.sizeOf5
 v5:=Tryz.zeroValue5
 t9:=Tryz.underlying9
 a9:=Tryz.isAgg9
 z9:=Tryz.sizeOf9
 v9:=Tryz.zeroValue9
 t20:=Tryz.underlying20
 a20:=Tryz.isAgg20
 z20:=Tryz.sizeOf20
 v20:=Tryz.zeroValue20
 t21:=Tryz.underlying21
 a21:=Tryz.isAgg21
 z21:=Tryz.sizeOf21
 v21:=Tryz.zeroValue21
 t37:=Tryz.underlying115
 a37:=Tryz.isAgg115
 z37:=Tryz.sizeOf115
 v37:=Tryz.zeroValue115
 t46:=Tryz.underlying239
 a46:=Tryz.isAgg239
 z46:=Tryz.sizeOf239
 v46:=Tryz.zeroValue239
 t51:=Tryz.underlying298
 a51:=Tryz.isAgg298
 z51:=Tryz.sizeOf298
 v51:=Tryz.zeroValue298
 t70:=Tryz.underlying114
 a70:=Tryz.isAgg114
 z70:=Tryz.sizeOf114
 v70:=Tryz.zeroValue114
 t72:=Tryz.underlying117
 a72:=Tryz.isAgg117
 z72:=Tryz.sizeOf117
 v72:=Tryz.zeroValue117
 t75:=Tryz.underlying119
 a75:=Tryz.isAgg119
 z75:=Tryz.sizeOf119
 v75:=Tryz.zeroValue119
 t76:=Tryz.underlying141
 a76:=Tryz.isAgg141
 z76:=Tryz.sizeOf141
 v76:=Tryz.zeroValue141
 t105:=Tryz.underlying241
 a105:=Tryz.isAgg241
 z105:=Tryz.sizeOf241
 v105:=Tryz.zeroValue241
 t119:=Tryz.underlying286
 a119:=Tryz.isAgg286
 z119:=Tryz.sizeOf286
 t127:=Tryz.underlying165
 a127:=Tryz.isAgg165
 z127:=Tryz.sizeOf165
 v127:=Tryz.zeroValue165
 t138:=Tryz.underlying288
 a138:=Tryz.isAgg288
 z138:=Tryz.sizeOf288
 v138:=Tryz.zeroValue288
 t139:=Tryz.underlying289
 a139:=Tryz.isAgg289
 z139:=Tryz.sizeOf289
 v139:=Tryz.zeroValue289
 t146:=Tryz.underlying311
 a146:=Tryz.isAgg311
 z146:=Tryz.sizeOf311
 v146:=Tryz.zeroValue311
 t164:=Tryz.underlying190
 a164:=Tryz.isAgg190
 z164:=Tryz.sizeOf190
 v164:=Tryz.zeroValue190
 g1:=by kernel_rfl
 g3:=by kernel_rfl
 g4:=by kernel_rfl }
theorem Tryz.jY:Builder.Extra Tryz.prog Tryz.k9:={
 sizeBuilder:=by kernel_rfl
 liesBuilder:=by kernel_rfl
 t5:=Tryz.underlying5
 a5:=Tryz.isAgg5
 z5:=Tryz.sizeOf5
 v5:=Tryz.zeroValue5
 infoByte:=by kernel_rfl
 cellsByte:=by kernel_rfl
 sizeByte:=by kernel_rfl
 neB5:=by decide }
open Go.RowKit Go.Lib in
theorem Tryz.strings_ReplaceAll (s old new:ByteArray) (m:Int) (w:World) (hs:s.size < 4294967281) (hm:w.cell? ⟨0,0,none⟩=some (.int .i64 m)) (h1:1≤old.size) (hlen:s.size+Lib.countB s old * new.size≤140737488355328) :
  Calls Tryz.prog 124 #[.string s,.string old,.string new] w fun e w' =>
   e = .returned (.string ⟨(Lib.replaceAll s.data.toList old.data.toList new.data.toList).toArray⟩)∧Below w.heap.size w w':=Any.strings_ReplaceAll Tryz.XG Tryz.jY s old new m w hs hm h1 hlen
end Go.Proofs
namespace Go.Ab
theorem sn {P:Program} [Laid P] {o:Oper} {ρ:Operand→AV} {sp:Oid→Prop} {t el:TypeId} {y z:Operand} {nid:Oid} {sz n cp bytes:Nat} {agg:Bool} {k1 k2:IntKind} {v0:AV} (ho:o.op = .makeSlice t y z) (hy:ρ y = .int k1 n) (hz:ρ z = .int k2 cp) (hnc:n≤cp)
  (htk:tyk P t=some (.slice el agg sz bytes)) (hzer:zer P el=some v0.cells) (hone:v0.cells.all AV.one=true) (hsz:v0.cells.length=sz) (h0:0 < sz) (hb:bytes * cp≤281474976710656) (h63:cp≤9223372036854775807) (hs:sp nid) (hnt:nid.tyd=none) :
  aG P o ρ sp ⟨[],.sl nid sz n,[(nid,some (.arr sz (List.replicate n v0)))]⟩:=by
 intro x g a w m hm _ hop hsp hng next Q K
 have vy:=hop y (by simp [Op.operands,ho])
 have vz:=hop z (by simp [Op.operands,ho])
 rw [hy] at vy;rw [hz] at vz
 have hyv:=vy.aY
 have hzv:=vz.aY
 have htk':P.underlying t=some (.slice el)∧∃ i,P.info? el=some i∧i.bytes=bytes∧i.size=sz:=by
  unfold tyk at htk
  split at htk<;>try (cases htk;done)
  ·rename_i e hu
   split at htk
   ·rename_i q i hq hi
    simp only [Option.some.injEq,TyK.slice.injEq] at htk
    obtain ⟨rfl,-,h3,h4⟩:=htk
    refine ⟨hu,i,hi,h4,?_⟩
    obtain ⟨d,i',_,hi',_,hn'⟩:=ea (b:=q.1) (n:=q.2) hq
    rw [hi] at hi';simp only [Option.some.injEq] at hi';subst hi'
    rw [hn',h3]
   ·cases htk
  ·rename_i n' e' hu
   cases hs':shp P e'<;>simp [hs'] at htk
  ·rename_i fs hu
   cases hmm:(fs.toList.mapM fun f=>(shp P f.type).map fun q=>(f.offset,q.1,q.2))<;>simp [hmm] at htk
 obtain ⟨hu,i,hi,hbi,hsi⟩:=htk'
 obtain ⟨zv,hzv0,hzc⟩:∃ zv,i.zero=some zv∧(cB zv).cells=v0.cells:=by
  simp only [zer,hi,Option.bind_some] at hzer
  cases hzz:i.zero with
  | none=>rw [hzz] at hzer;cases hzer
  | some zv=>rw [hzz] at hzer;exact ⟨zv,rfl,by simpa using hzer⟩
 have hzs:zv.cells.size=sz:=by rw [← dI,hzc,hsz]
 have hcell:∀ (g:Gh) j,j < sz→VR g (v0.cells.getD j .undef) (zv.cells.getD j undef):=fun g j hj=>by
  rw [← hzc];exact fi g zv j (by rw [hzc,hsz];exact hj)
 have hbb:(i.bytes:Int) * (cp:Int)≤281474976710656:=by
  rw [hbi,← Int.natCast_mul]
  omega
 have hrun:=run_make (P:=P) w t el i zv hu hi hzv0 k1 k2 (n:Int) (cp:Int) (by omega) (by omega) hbb (by omega)
 simp only [Int.toNat_natCast,hsi] at hrun
 have hex:(execOp a.eval o).run P w = .ok (.value (.slice (some ⟨w.heap.size,0,none⟩) n cp)) (w.alloc (.cells (madeCells zv.cells (cp * sz)) el)):=by
  simp only [execOp,ho,hyv,hzv,Sem.run_bind,hrun,Result.andThen_ok,Sem.run_pure]
 refine ⟨fun _ _=>trivial,?_⟩
 rw [Oper.semAt_eq _ _ _ (fun c hc=>by rw [ho] at hc;cases hc),hex,Oper.uponIn_value]
 obtain ⟨hl,hun⟩:=hsp nid hs
 have hrn:g.row w.heap.size=none:=hm.jA (Nat.le_refl _)
 have hcs:∀ i j,i < n→j < sz→(madeCells zv.cells (cp * sz)).getD (i * sz+j) undef=zv.cells.getD j undef:=fun i j hi hj=>by
  have hlt:i * sz+j < cp * sz:=by
   have:(i+1) * sz≤cp * sz:=Nat.mul_le_mul_right _ (by omega)
   rw [Nat.add_mul,Nat.one_mul] at this;omega
  have hmod:(i * sz+j) % sz=j:=by rw [Nat.mul_comm,Nat.mul_add_mod,Nat.mod_eq_of_lt hj]
  simp only [madeCells,Array.getD_eq_getD_getElem?,Array.getElem?_map,Array.getElem?_range,hlt,if_true,Option.map_some,Option.getD_some,hzs,hmod]
  rw [getElem!_def,Array.getElem?_eq_getElem (show j < zv.cells.size by rw [hzs];exact hj)]
  rfl
 have hone':∀ j,j < sz→(zv.cells.getD j undef).oneCell' = true:=fun j hj=>by
  have h1:=hcell g j hj
  have h2:(v0.cells.getD j .undef).one=true:=by
   rw [List.all_eq_true] at hone
   rw [List.getD_eq_getElem?_getD,List.getElem?_eq_getElem (by rw [hsz];exact hj),Option.getD_some]
   exact hone _ (List.getElem_mem _)
  generalize v0.cells.getD j .undef=q at h1 h2
  generalize zv.cells.getD j undef=r at h1 ⊢
  cases q<;>first|(simp [AV.one] at h2;done)|(cases h1<;>rfl)
 have hgetr:∀ i,i < n→(List.replicate n v0).getD i .undef=v0:=fun i hi=>by
  rw [List.getD_eq_getElem?_getD,List.getElem?_replicate,if_pos hi];rfl
 have hnew:=hm.new hl hun (o:=.arr sz (List.replicate n v0)) (ob:=.cells (madeCells zv.cells (cp * sz)) el) ⟨madeCells zv.cells (cp * sz),el,(0,0),bC w _,by rw [List.length_replicate,size_madeCells];exact Nat.mul_le_mul_right _ hnc,fun j _ hj=>by omega,fun i hi=>by
  rw [List.length_replicate] at hi
  rw [hgetr i hi];exact hsz,fun j hj=>by
  rw [List.length_replicate] at hj
  have hd:j / sz < n:=Nat.div_lt_of_lt_mul (by rw [Nat.mul_comm];exact hj)
  have:=hcs (j / sz) (j % sz) hd (Nat.mod_lt _ h0)
  rw [Nat.mul_comm (j / sz) sz,Nat.div_add_mod] at this
  rw [this];exact hone' _ (Nat.mod_lt _ h0),fun i j hi hj=>by
  rw [List.length_replicate] at hi
  rw [hgetr i hi,hcs i j hi hj];exact hcell _ j hj⟩ (fun t ht=>by rw [hnt] at ht;cases ht)
 refine K ((g.bind nid w.heap.size).measure w.heap.size (cp * sz)) _ _ (Gh.le_trans (Gh.bs hl) (Gh.dw (.inl hrn))) (fun j hj=>?_) ?_ (hnew.measure ⟨madeCells zv.cells (cp * sz),el,(0,0),bC w _,size_madeCells _ _⟩ (.inl hrn))
 ·have hne:¬ j=nid:=fun e=>by subst e;exact hj hs
  simp only [Gh.bind,Gh.measure];rw [if_neg hne]
 ·exact .sl _ _ _ _ _ (by simp [Gh.bind,Gh.measure]) hnc (by simp [Gh.measure])
end Go.Ab
namespace Go.Proofs.YtlfeacmbhldjcaaGreatDoor
open Go Go.Ab
set_option maxRecDepth 20000
set_option maxHeartbeats 4000000
theorem afH (s:Str) (c:UInt8) (sp:Oid→Prop):aA Tryz.prog 64 [.str s,.int .u8 c.toNat] sp ⟨[],.int .i64 (Lib.indexByte s c),[]⟩ :=
 fp (by kernel_rfl) fun g args w ha _=>by
  obtain ⟨v,u,rfl,hv,hu⟩:=ha.two
  obtain ⟨b,rfl,hb⟩:=hv.bf
  obtain rfl:=hu.aY
  refine (Tryz.strings_IndexByte b c.toNat w).mono ?_
  rintro e w' ⟨rfl,rfl⟩
  refine ⟨_,rfl,?_,rfl⟩
  rw [show ((c.toNat:Int).toNat).toUInt8=c from by simp,hb]
  exact .int _ _
theorem oJ (s:Str) (h0:¬ s=[]) (hl:s.length≤140737488355328) (p:Oid):aA Tryz.prog 65 [.str s] (Oid.under p) ⟨[],.tuple [.int .u8 (oI s).toNat,.str (gm s)],[]⟩:=by
 have hpos:=List.length_pos_iff.2 h0
 unfold oI gm
 by_cases h1:1 < s.length
 ·have e1:(s.length:Int) > 1:=by omega
  have hl1:1 < s.length:=h1
  have hl2:2≤s.length:=h1
  by_cases h2:s.getD 0 0=92
  ·have e2:((s.getD 0 0).toNat:Int)=92:=by rw [h2];rfl
   rw [if_pos ⟨h1,h2⟩,if_pos ⟨h1,h2⟩]
   refine aN (n:=20) (rs:=[.tmp 2,.tmp 3]) Tryz.func65 rfl rfl (by decide) rfl rfl rfl ?_;rintro x rfl hrd hng
   refine qw0 ?_
   refine qr (.d [] [(3,7)] []) (ai e1 (ai e2 hpos)) trivial ?_
   refine qw0 ?_
   refine qd (.d [] [] [2,3]) (ai hl1 hl2) trivial ?_
   refine qw0 ?_
   exact aC (aE qs0)
  ·have e2:¬ ((s.getD 0 0).toNat:Int)=92:=fun h=>h2 (UInt8.toNat_inj.1 (by have:(92:UInt8).toNat=92:=rfl;omega))
   rw [if_neg (fun h=>h2 h.2),if_neg (fun h=>h2 h.2)]
   refine aN (n:=20) (rs:=[.tmp 2,.tmp 3]) Tryz.func65 rfl rfl (by decide) rfl rfl rfl ?_;rintro x rfl hrd hng
   refine qw0 ?_
   refine qr (.d [] [(3,7)] []) (ai e1 (ai e2 hpos)) trivial ?_
   refine qw0 ?_
   refine qd (.d [] [] [2,3]) hpos trivial ?_
   refine qw0 ?_
   exact aC (aE qs0)
 ·have e1:¬ (s.length:Int) > 1:=by omega
  rw [if_neg (fun h=>h1 h.1),if_neg (fun h=>h1 h.1)]
  refine aN (n:=20) (rs:=[.tmp 2,.tmp 3]) Tryz.func65 rfl rfl (by decide) rfl rfl rfl ?_;rintro x rfl hrd hng
  refine qw0 ?_
  refine qr (.d [] [(3,7)] []) e1 trivial ?_
  refine qw0 ?_
  refine qd (.d [] [] [2,3]) hpos trivial ?_
  refine qw0 ?_
  exact aC (aE qs0)
theorem tO (s:Str) (hl:s.length≤140737488355328) (p:Oid):aA Tryz.prog 22 [.str s] (Oid.under p) ⟨[],.bool (iv s),[]⟩:=by
 refine aN (n:=14) (rs:=[.tmp 2]) Tryz.func22 rfl rfl (by decide) rfl rfl rfl ?_;rintro x rfl hrd hng
 refine qw0 ?_
 refine a6 [0] (fun k s'=>∃ (u:Str) (c:Nat),s' = ⟨[(0,.str u)],Mem.of [],c,[]⟩∧k=u.length∧u.length≤s.length∧iv u=iv s) _ ⟨s,_,rfl,rfl,Nat.le_refl _,rfl⟩ ?_
 rintro k s' ⟨u,c,rfl,rfl,hu,hs⟩
 by_cases h0:u=[]
 ·subst h0
  rw [zp] at hs
  rw [← hs]
  refine qw0 ?_
  exact aC (aT rfl)
 ·have hpos:=List.length_pos_iff.2 h0
  have hr:=gp u h0
  rw [tM h0,← XC] at hs
  have hI:=fun p:Oid=>afH [42,63,91] (u.getD 0 0) (Oid.under p)
  have hG:=fun p=>oJ u h0 (by omega) p
  refine qw h0 ?_
  refine qr .o hpos (cq (hI _) trivial) ?_
  refine qw0 ?_
  refine bD rfl rfl (fun hb=>?_) (fun hb=>?_)
  ·rw [decide_eq_true hb,if_pos rfl] at hs
   rw [← hs]
   refine qw0 ?_
   exact aC (aT rfl)
  ·rw [decide_eq_false hb,if_neg (by decide)] at hs
   refine qw0 ?_
   refine qr1 (hG _) ?_
   refine qw0 ?_
   exact ⟨_,_,hr,fun _ _ h=>h,gm u,_,rfl,rfl,by omega,hs⟩
theorem sq (q:Oid) (b:UInt8) (p:Oid) (hq:¬ Oid.under p (.ty 117 q)) :
  aA Tryz.prog 71 [.ptr (.ty 117 q) 0,.int .u8 b.toNat] (Oid.under p) ⟨[(.ty 117 q,.cells [.nilPtr,.nilSl])],.nilIface,
   [(.ty 117 q,some (.cells [.ptr (.ty 117 q) 0,.sl (.ty 5 (.sub 2 7 p)) 1 1])),(.ty 5 (.sub 2 7 p),some (.arr 1 ([b].map byA)))]⟩:=by
 refine aN (n:=17) (rs:=[.tmp 4]) Tryz.func71 rfl rfl (by decide) rfl rfl rfl ?_;rintro x rfl hrd hng
 (repeat (first|(refine ah rfl rfl ?_)|(refine aj rfl rfl ?_)|(refine af nmd [] hng (by kernel_rfl) fun hf C S K hC1 hC hS hK=>?_;simp (disch:=first|omega|assumption) only [go_sem];(repeat ((first|refine hC1 _ (rq _ .nilSl _) (by simp (disch:=first|omega|assumption) only [go_sem]) ?_);simp (disch:=first|omega|assumption) only [go_sem]));refine hK ?_;clear hK hS hC hC1 K S C hf)|((first|refine zn ?_|refine ze ?_|refine zk ?_);with_reducible (constructor;repeat constructor);try refine zl ?_)))
 refine af nmd [] hng (by kernel_rfl) fun hf C S K hC1 hC hS hK=>?_;simp (disch:=first|omega|assumption) only [go_sem,fq]
 refine hK ?_;clear hK hS hC hC1 K S C hf
 refine qw0 ?_
 refine aC (aP rfl ?_ ?_)
 all_goals simp only [List.mem_cons,List.not_mem_nil,or_false,forall_eq_or_imp,forall_eq,Option.some.injEq,forall_eq',Mem.ae,eq_self,if_true,↓reduceIte,reduceCtorEq,implies_true,not_true_eq_false,false_imp_iff,true_and,and_true,false_and,and_false,imp_self,Oid.aO hq,Oid.aS hq]
 rfl
theorem u9 (q r:Oid) (s0:List UInt8) (b:UInt8) (hl:s0.length+1≤140737488355328) (p:Oid) (hq:¬ Oid.under p (.ty 117 q)) (hr:¬ Oid.under p (.ty 5 r)) :
  aA Tryz.prog 71 [.ptr (.ty 117 q) 0,.int .u8 b.toNat] (Oid.under p) ⟨[(.ty 117 q,.cells [.ptr (.ty 117 q) 0,.sl (.ty 5 r) 1 s0.length]),(.ty 5 r,.arr 1 (s0.map byA))],.nilIface,
   [(.ty 117 q,some (.cells [.ptr (.ty 117 q) 0,.sl (.ty 5 (.sub 2 7 p)) 1 (s0++[b]).length])),(.ty 5 r,none),(.ty 5 (.sub 2 7 p),some (.arr 1 ((s0++[b]).map byA)))]⟩:=by
 have hr':(Oid.ty 5 r=Oid.ty 5 (.sub 2 7 p))=False:=Oid.aO hr _ _ _
 refine aN (n:=17) (rs:=[.tmp 4]) Tryz.func71 rfl rfl (by decide) rfl rfl rfl ?_;rintro x rfl hrd hng
 (repeat (first|(refine ah rfl rfl ?_)|(refine aj rfl rfl ?_)|(refine af nmd [] hng (by kernel_rfl) fun hf C S K hC1 hC hS hK=>?_;simp (disch:=first|omega|assumption) only [go_sem];(repeat ((first|refine hC1 _ (uB _ (.sl (.ty 5 r) 1 s0.length) _) (by simp (disch:=first|omega|assumption) only [go_sem]) ?_);simp (disch:=first|omega|assumption) only [go_sem]));refine hK ?_;clear hK hS hC hC1 K S C hf)|((first|refine zn ?_|refine ze ?_|refine zk ?_);with_reducible (constructor;repeat constructor);try refine zl ?_)))
 refine aC (aP rfl ?_ ?_)
 all_goals simp only [List.mem_cons,List.not_mem_nil,or_false,forall_eq_or_imp,forall_eq,Option.some.injEq,forall_eq',Mem.ae,eq_self,if_true,↓reduceIte,reduceCtorEq,implies_true,not_true_eq_false,false_imp_iff,true_and,and_true,false_and,and_false,imp_self,Oid.aO hq,Oid.aS hq,Oid.aO hr,Oid.aS hr,List.length_append,List.map_append]
 exact ⟨rfl,rfl⟩
end Go.Proofs.YtlfeacmbhldjcaaGreatDoor
namespace Go.Proofs.YtlfeacmbhldjcaaGreatDoor
open Go Go.Ab
set_option maxRecDepth 20000
set_option maxHeartbeats 4000000
theorem lE {c c' i j:Nat} {t:Nat} {p:Oid} (h:c' < c):¬ Oid.under (.sub c j p) (.ty t (.sub c' i p)):=by
 have hself:¬ Oid.under (.sub c j p) p:=fun h=>by have:=Oid.cn h;simp [Oid.depth] at this;omega
 have h1:¬ c=c':=by omega
 have h2:¬ c' = c:=by omega
 simp only [Oid.under,reduceCtorEq,false_or,Oid.sub.injEq,h1,h2,false_and,and_false,hself,or_false,not_false_eq_true]
theorem agZ {c c0 j i a b:Nat} {t:Nat} {p:Oid} (h:c0 < c):¬ Oid.under (.sub c j p) (.ty t (.sub a b (.sub c0 i p))):=by
 have hself:¬ Oid.under (.sub c j p) p:=fun h=>by have:=Oid.cn h;simp [Oid.depth] at this;omega
 have hself2:¬ Oid.sub a b (.sub c0 i p) = .sub c j p:=fun h=>by have:=congrArg Oid.depth h;simp [Oid.depth] at this
 have hself3:¬ Oid.sub c j p = .sub a b (.sub c0 i p):=fun h=>hself2 h.symm
 have h1:¬ c=c0:=by omega
 have h2:¬ c0=c:=by omega
 simp only [Oid.under,reduceCtorEq,false_or,hself2,hself3,Oid.sub.injEq,h1,h2,false_and,and_false,hself,or_false,not_false_eq_true]
theorem Dg (s:Str) (hl:s.length≤140737488355328) (p:Oid):aA Tryz.prog 26 [.str s] (Oid.under p) ⟨[],.str (b8 s),[]⟩:=by
 refine aN (n:=15) (rs:=[.tmp 2]) Tryz.func26 rfl rfl (by decide) rfl rfl rfl ?_;rintro x rfl hrd hng
 refine qw0 ?_
 refine a6 [0,3] (fun k s'=>∃ (u d:Str) (c:Nat) (M:List (Oid × ar)),k=u.length∧d++b8 u=b8 s∧u.length≤s.length∧1 < c∧(d=[]∧M=[(.ty 117 (.sub 1 0 x.p),.cells [.nilPtr,.nilSl])] ∨
   ¬ d=[]∧∃ c0,c0 < c∧M=[(.ty 117 (.sub 1 0 x.p),.cells [.ptr (.ty 117 (.sub 1 0 x.p)) 0,.sl (.ty 5 (.sub 2 7 (.sub c0 1 x.p))) 1 d.length]),(.ty 5 (.sub 2 7 (.sub c0 1 x.p)),.arr 1 (d.map byA))]) ∧
   s' = ⟨[(0,.str u),(3,.ptr (.ty 117 (.sub 1 0 x.p)) 0)],Mem.of M,c,[]⟩) _ ⟨s,[],_,_,rfl,rfl,Nat.le_refl _,by omega,.inl ⟨rfl,rfl⟩,rfl⟩ ?_
 rintro k s' ⟨u,d,c,M,rfl,hd,hu,hc,hM,rfl⟩
 have hpl:=tN s
 by_cases h0:u=[]
 ·subst h0
  rw [mT,List.append_nil] at hd
  rw [← hd]
  rcases hM with ⟨rfl,rfl⟩|⟨hd0,c0,hc0,rfl⟩
  ·refine qw0 ?_
   (repeat (first|(refine ah rfl rfl ?_)|(refine aj rfl rfl ?_)|(refine af nmd [] hng (by kernel_rfl) fun hf C S K hC1 hC hS hK=>?_;simp (disch:=first|omega|assumption) only [go_sem];(repeat ((first|refine hC1 _ (jj (.sub 1 0 _) _) (by simp (disch:=first|omega|assumption) only [go_sem]) ?_);simp (disch:=first|omega|assumption) only [go_sem]));refine hK ?_;clear hK hS hC hC1 K S C hf)|((first|refine zn ?_|refine ze ?_|refine zk ?_);with_reducible (constructor;repeat constructor);try refine zl ?_)))
   exact aC (aT rfl)
  ·have hdp:=List.length_pos_iff.2 hd0
   refine qw0 ?_
   (repeat (first|(refine ah rfl rfl ?_)|(refine aj rfl rfl ?_)|(refine af nmd [] hng (by kernel_rfl) fun hf C S K hC1 hC hS hK=>?_;simp (disch:=first|omega|assumption) only [go_sem];(repeat ((first|refine hC1 _ (kg (.sub 1 0 _) (.sub 2 7 (.sub c0 1 x.p)) d hdp (by rw [hd];omega) _) (by simp (disch:=first|omega|assumption) only [go_sem]) ?_);simp (disch:=first|omega|assumption) only [go_sem]));refine hK ?_;clear hK hS hC hC1 K S C hf)|((first|refine zn ?_|refine ze ?_|refine zk ?_);with_reducible (constructor;repeat constructor);try refine zl ?_)))
   exact aC (aT rfl)
 ·have hpos:=List.length_pos_iff.2 h0
  have hr:=gp u h0
  have hG:=fun p=>oJ u h0 (by omega) p
  rw [k7 h0] at hd
  have hdl:d.length+1≤140737488355328:=by
   have:=congrArg List.length hd
   simp only [List.length_append,List.length_cons] at this;omega
  have hd':(d++[oI u])++b8 (gm u)=b8 s:=by rw [← hd];simp
  generalize oI u=b at hG hd'
  rcases hM with ⟨rfl,rfl⟩|⟨hd0,c0,hc0,rfl⟩
  ·refine qw h0 ?_
   refine qr1 (hG _) ?_
   (repeat (first|(refine ah rfl rfl ?_)|(refine aj rfl rfl ?_)|(refine af nmd [] hng (by kernel_rfl) fun hf C S K hC1 hC hS hK=>?_;simp (disch:=first|omega|assumption) only [go_sem];(repeat ((first|refine hC1 _ (sq (.sub 1 0 x.p) b _ (lE (by omega))) (by simp (disch:=first|omega|assumption) only [go_sem]) ?_);simp (disch:=first|omega|assumption) only [go_sem]));refine hK ?_;clear hK hS hC hC1 K S C hf)|((first|refine zn ?_|refine ze ?_|refine zk ?_);with_reducible (constructor;repeat constructor);try refine zl ?_)))
   exact ⟨_,_,hr,fun _ _ h=>h,gm u,[b],_,_,rfl,hd',by omega,by omega,.inr ⟨by simp,_,Nat.lt_succ_self _,rfl⟩,rfl⟩
  ·refine qw h0 ?_
   refine qr1 (hG _) ?_
   (repeat (first|(refine ah rfl rfl ?_)|(refine aj rfl rfl ?_)|(refine af nmd [] hng (by kernel_rfl) fun hf C S K hC1 hC hS hK=>?_;simp (disch:=first|omega|assumption) only [go_sem];(repeat ((first|refine hC1 _ (u9 (.sub 1 0 x.p) (.sub 2 7 (.sub c0 1 x.p)) d b hdl _ (lE (by omega)) (agZ (c:=c+1+1+1) (by omega))) (by simp (disch:=first|omega|assumption) only [go_sem]) ?_);simp (disch:=first|omega|assumption) only [go_sem]));refine hK ?_;clear hK hS hC hC1 K S C hf)|((first|refine zn ?_|refine ze ?_|refine zk ?_);with_reducible (constructor;repeat constructor);try refine zl ?_)))
   exact ⟨_,_,hr,fun _ _ h=>h,gm u,d++[b],c+1+1+1+1,_,rfl,hd',by omega,by omega,.inr ⟨by simp,c+1+1+1,Nat.lt_succ_self _,rfl⟩,by rw [List.length_append];rfl⟩
theorem zq {P:Program} [Laid P] {o:Oper} {ρ:Operand→AV} {sp:Oid→Prop} {s d el:TypeId} {y:Operand} {sz sz0 by':Nat} {ag:Bool} (ho:o.op = .convert s d y) (hy:ρ y = .list sz []) (e1:tyk P s=some (.slice el ag sz0 by')) (e2:tyk P d=some .str) (h8:u8K (tyk P el)=true):aG P o ρ sp ⟨[],.str [],[]⟩:=by
 refine aG.of fun x g a w m hm _ hop _=>?_
 have hv:=hop y (by simp [Op.operands,ho])
 rw [hy] at hv
 obtain ⟨ds,hds,rfl,_⟩:=aI e1
 obtain ⟨dd,hdd,rfl⟩:=aI e2
 have he8:P.underlying el=some (.int .u8):=by
  unfold u8K at h8
  split at h8
  ·rename_i hk;obtain ⟨d8,h9,rfl⟩:=aI hk;exact h9
  ·cases h8
 rcases hv.dH with ⟨_,hu|⟨a0,cap,hu⟩⟩|⟨b,oo,cap,cs,hu,_⟩
 ·have hrun:=run_convert_bytes_string (P:=P) w s d el none 0 0 hds he8 hdd
  have h2:(Conv.bytesToString (.slice none 0 0)).run P w = .ok (.string ⟨([]:List UInt8).toArray⟩) w:=rfl
  refine ⟨g,.value (.string ⟨([]:List UInt8).toArray⟩),_,w,?_,.inl rfl,Gh.le_refl g,fun _ _=>rfl,.str _ _ rfl,hm⟩
  simp [execOp,ho,hu,hrun,h2]
 ·have hrun:=run_convert_bytes_string (P:=P) w s d el (some a0) 0 cap hds he8 hdd
  have h2:(Conv.bytesToString (.slice (some a0) 0 cap)).run P w = .ok (.string ⟨([]:List UInt8).toArray⟩) w:=rfl
  refine ⟨g,.value (.string ⟨([]:List UInt8).toArray⟩),_,w,?_,.inl rfl,Gh.le_refl g,fun _ _=>rfl,.str _ _ rfl,hm⟩
  simp [execOp,ho,hu,hrun,h2]
 ·have hrun:=run_convert_bytes_string (P:=P) w s d el (some ⟨b,oo,none⟩) 0 cap hds he8 hdd
  have h2:(Conv.bytesToString (.slice (some ⟨b,oo,none⟩) 0 cap)).run P w = .ok (.string ⟨([]:List UInt8).toArray⟩) w:=rfl
  refine ⟨g,.value (.string ⟨([]:List UInt8).toArray⟩),_,w,?_,.inl rfl,Gh.le_refl g,fun _ _=>rfl,.str _ _ rfl,hm⟩
  simp [execOp,ho,hu,hrun,h2]
theorem oK (s:Str) (hl:s.length≤70368744177664) (p:Oid):aA Tryz.prog 80 [.str s] (Oid.under p) ⟨[],.str (e8 s),[]⟩:=by
 have e2:(2:Int) * (s.length:Int)=((2 * s.length:Nat):Int):=by omega
 refine aN (n:=23) (rs:=[.tmp 2]) Tryz.func80 rfl rfl (by decide) rfl rfl rfl ?_;rintro x rfl hrd hng
 refine qw0 ?_
 refine af nmd [] hng (by kernel_rfl) fun hf C S K hC1 hC hS hK=>?_;simp (disch:=first|omega|assumption) only [go_sem,e2]
 refine hS _ _ _ (fun o' hd ho'=>(sn (nid:=.sub 1 3 x.p) (n:=0) (cp:=2 * s.length) (v0:=.int .u8 0) (sz:=1) (bytes:=1) ho' rfl rfl (by omega) rfl rfl rfl rfl (by omega) (by omega) (by omega) (Oid.az _) rfl).nd) (fun _ h=>by cases h) ?_ (fun _ _ h=>h.elim)
 rintro _ _ ⟨rfl,rfl⟩
 simp (disch:=first|omega|assumption) only [go_sem,e2,List.replicate_zero]
 refine hK ?_;clear hK hS hC hC1 K S C hf
 refine qw0 ?_
 refine a6 [0,3,10,11] (fun k s'=>∃ (i c d j:Nat),s' = ⟨[(0,.str s),(3,.sl (.sub d j x.p) 1 (2 * i)),(10,.int .i64 s.length),(11,.int .i64 i)],Mem.of [(.sub d j x.p,.arr 1 ((e8 (s.take i)).map byA))],c,[]⟩∧k=s.length - i∧i≤s.length∧d < c) _ ⟨0,_,1,3,rfl,rfl,Nat.zero_le _,by omega⟩ ?_
 rintro k s' ⟨i,c,d,j,rfl,rfl,hi,hdc⟩
 refine qw0 ?_
 refine bD rfl rfl (fun hb=>?_) (fun hb=>?_)
 ·have hlt:i < s.length:=by omega
  have htk:s.take (i+1)=s.take i++[s.getD i 0]:=by
   rw [List.take_add_one,List.getElem?_eq_getElem hlt,List.getD_eq_getElem?_getD,List.getElem?_eq_getElem hlt];rfl
  have hel:=gj (s.take i)
  rw [List.length_take,Nat.min_eq_left hi] at hel
  have hE:e8 (s.take (i+1))=e8 (s.take i)++[92,s.getD i 0]:=by rw [htk,Df]
  generalize e8 (s.take i)=E at hel hE ⊢
  (repeat (first|(refine ah rfl rfl ?_)|(refine aj rfl rfl ?_)|(refine af nmd [] hng (by kernel_rfl) fun hf C S K hC1 hC hS hK=>?_;simp (disch:=first|omega|assumption) only [go_sem,hlt,List.length_map,hel];refine hK ?_;clear hK hS hC hC1 K S C hf)|((first|refine zn ?_|refine ze ?_|refine zk ?_);with_reducible (constructor;repeat constructor);try refine zl ?_)))
  exact ⟨_,Mem.of [(.sub (c+1+1) 5 x.p,.arr 1 ((e8 (s.take (i+1))).map byA))],by omega,D5 (by rw [hE,List.map_append];simp (disch:=first|omega|assumption) only [go_sem,List.map_cons,List.map_nil,byA];rfl),i+1,c+1+1+1+1,c+1+1,5,rfl,rfl,by omega,by omega⟩
 ·obtain rfl:i=s.length:=by omega
  rw [List.take_length]
  have hel:=gj s
  have hel2:((e8 s).map byA).length=2 * s.length:=by rw [List.length_map,hel]
  refine qw0 ?_
  (refine l9 (.sub d j x.p) _ _ (by simp (disch:=first|omega|assumption) only [go_sem];rfl) ?_;simp (disch:=first|omega|assumption) only [go_sem])
  simp (disch:=first|omega|assumption) only [go_sem,hel,hel2]
  by_cases h0:s=[]
  ·subst h0
   refine af nmd [] hng (by kernel_rfl) fun hf C S K hC1 hC hS hK=>?_;simp (disch:=first|omega|assumption) only [go_sem]
   refine hS _ _ _ (fun o' hd ho'=>(zq ho' rfl rfl rfl rfl).nd) (fun _ h=>by cases h) ?_ (fun _ _ h=>h.elim)
   rintro _ _ ⟨rfl,rfl⟩
   simp (disch:=first|omega|assumption) only [go_sem]
   refine hK ?_;clear hK hS hC hC1 K S C hf
   exact aC (aT rfl)
  ·have hpos:=List.length_pos_iff.2 h0
   have hg:(0 < ((e8 s).map byA).length∧((e8 s).map byA).all gy=true):=⟨by omega,mh _⟩
   have hbo:=mi (e8 s)
   generalize (e8 s).map byA=R at hg hbo ⊢
   refine qr .o (ai hg hbo) trivial ?_
   refine qw0 ?_
   exact aC (aT rfl)
end Go.Proofs.YtlfeacmbhldjcaaGreatDoor
namespace Go.Proofs.YtlfeacmbhldjcaaGreatDoor
open Go Go.Ab Go.RowKit
set_option maxRecDepth 100000
set_option maxHeartbeats 1000000
theorem XH:liesAt Tryz.prog Tryz.prog.depth 133 (6 / Tryz.prog.cellsOf 133) 2 117 1=true:=by kernel_rfl
theorem ln (b:Nat) (w:World) (h0:w.cell? ⟨b,2,none⟩=some (.pointer (some ⟨b,2,none⟩))) :
  Calls Tryz.prog 115 #[.pointer (some ⟨b,2,none⟩)] w fun e w'=>e = .returned (.tuple #[])∧w' = w:=by
 obtain ⟨j,hj,_⟩:=Option.map_eq_some_iff.1 lx
 go_enter Tryz.func115,Tryz.ntmps115
 go_wp2
 rw [Lib.run_neq_ptr_same w _ Tryz.underlying114 hj]
 go_wp2
 go_end0
 exact ⟨rfl,rfl⟩
theorem kA (b:Nat) (w:World) (h0:w.cell? ⟨b,2,none⟩=some (.pointer none)) (hsh:w.shape? b=some (133,6)) (hfz:w.frozen? ⟨b,2,none⟩=false) :
  Calls Tryz.prog 115 #[.pointer (some ⟨b,2,none⟩)] w fun e w'=>e = .returned (.tuple #[])∧w' = w.setCell ⟨b,2,none⟩ (.pointer (some ⟨b,2,none⟩)):=by
 obtain ⟨j,hj,hjs⟩:=Option.map_eq_some_iff.1 lx
 go_enter Tryz.func115,Tryz.ntmps115
 go_wp2
 rw [Lib.run_to_unsafe w ⟨b,2,none⟩ Tryz.underlying114 Tryz.underlying190 hj (by rw [hjs];decide) hsh (show 2 < 6 by decide)]
 simp only [Result.andThen]
 rw [Oper.upon_value]
 go_wp2
 rw [run_callFunc_extern Tryz.func146 (by kernel_rfl) (by kernel_rfl) (by kernel_rfl) (e:=Extern.AbiNoEscape.same) (by kernel_rfl)]
 rw [Lib.run_noEscape]
 simp only [Result.andThen]
 rw [Oper.upon_value]
 go_wp2
 rw [Lib.run_from_unsafe w ⟨b,2,none⟩ Tryz.underlying190 Tryz.underlying114 hj hsh XH]
 simp only [Result.andThen]
 rw [Oper.upon_value]
 go_wp2
 go_end0
 exact ⟨rfl,rfl⟩
theorem zr (q:Oid) (A B V D E:AV) (sp:Oid→Prop):aA Tryz.prog 115 [.ptr (.ty 133 q) 2] sp ⟨[(.ty 133 q,.cells [A,B,.nilPtr,V,D,E])],.tuple [],[(.ty 133 q,some (.cells [A,B,.ptr (.ty 133 q) 2,V,D,E]))]⟩ :=
 ⟨by kernel_rfl,fun x g args w m hm hn ha hs hx=>by
  obtain ⟨u,rfl,hu⟩:=ha.one
  obtain ⟨b,rfl,hb⟩:=hu.cA
  have hmid:=hn (.ty 133 q,.cells [A,B,.nilPtr,V,D,E]) (by simp)
  obtain ⟨b',h1,h2,h3,h4⟩:=hm.fO hmid hb
  rw [hb] at h1;simp only [Option.some.injEq] at h1;subst h1
  obtain ⟨c,t,fz,c1,c2,c3,c4⟩:=h4
  obtain ⟨c',fz',h5⟩:=hm.typs 133 q b hb
  rw [c1] at h5;simp only [Option.some.injEq,Obj.cells.injEq] at h5
  obtain ⟨_,rfl,_⟩:=h5
  have hsz:c.size=6:=c2
  have k0:=c4 2 (by simp)
  simp only [List.getD_cons_zero,List.getD_cons_succ] at k0
  have k0':=k0.cP
  have hlt:b < w.heap.size:=(Array.getElem?_eq_some_iff.1 c1).1
  have hg0:c[2]? = some (.pointer none):=by
   rw [Array.getD_eq_getD_getElem?] at k0'
   rw [Array.getElem?_eq_getElem (by omega)] at k0' ⊢
   simpa using k0'
  have hf:¬ (fz.1≤2∧2 < fz.2):=c3 2 (by omega)
  refine (kA b w (by simp [World.cell?,c1,hg0]) (by simp [World.shape?,c1,hsz]) (by
   obtain ⟨lo,hi⟩:=fz
   simp only [World.frozen?,c1]
   simp only at hf
   by_cases h:lo≤2
   ·have:¬ 2 < hi:=fun h'=>hf ⟨h,h'⟩
    simp [this]
   ·simp [h])).mono ?_
  rintro e w' ⟨rfl,rfl⟩
  have hnew:(w.setCell ⟨b,2,none⟩ (.pointer (some ⟨b,2,none⟩))).heap[b]? = some (.cells (c.setIfInBounds 2 (.pointer (some ⟨b,2,none⟩))) 133 fz):=by simp [World.setCell,Array.getElem?_modify,c1]
  refine ⟨g,_,rfl,Gh.le_refl g,fun _ _=>rfl,.tuple _ _ rfl (fun j hj=>absurd hj (Nat.not_lt_zero _)),?_⟩
  refine hm.fS (o:=.cells [A,B,.ptr (.ty 133 q) 2,V,D,E]) (w':=w.setCell ⟨b,2,none⟩ (.pointer (some ⟨b,2,none⟩))) hmid hb rfl rfl ⟨rfl,Nat.le_refl _⟩ (by simp [World.setCell]) (fun k hk _=>Below.heap_setCell w ⟨b,2,none⟩ _ k hk) (fun r hr=>?_) (fun c9 t9 fz9 h9=>?_) ?_
  ·obtain ⟨c',t',fz',h6,h7⟩:=hm.rows b r hr
   rw [c1] at h6;simp only [Option.some.injEq,Obj.cells.injEq] at h6
   obtain ⟨rfl,rfl,rfl⟩:=h6
   exact ⟨_,_,_,hnew,by simp [h7]⟩
  ·rw [c1] at h9;simp only [Option.some.injEq,Obj.cells.injEq] at h9
   obtain ⟨rfl,rfl,rfl⟩:=h9
   exact ⟨_,_,hnew⟩
  ·refine ⟨_,_,_,hnew,by simp [hsz],fun j hj=>c3 j (by simpa using hj),fun j hj=>?_⟩
   have hj2:j < 6:=hj
   have kj:=c4 j (by simpa using hj)
   by_cases e2:j=2
   ·subst e2
    simp only [List.getD_cons_zero,List.getD_cons_succ,Array.getD_eq_getD_getElem?]
    rw [Array.getElem?_setIfInBounds_self_of_lt (by omega)]
    exact .ptr _ 2 b hb
   ·rw [Array.getD_eq_getD_getElem?,Array.getElem?_setIfInBounds_ne (by omega),← Array.getD_eq_getD_getElem?]
    match j,hj2,e2 with
    | 0,_,_=>exact kj
    | 1,_,_=>exact kj
    | 3,_,_=>exact kj
    | 4,_,_=>exact kj
    | 5,_,_=>exact kj⟩
theorem Dh (q:Oid) (A B V D E:AV) (sp:Oid→Prop):aA Tryz.prog 115 [.ptr q 2] sp ⟨[(q,.cells [A,B,.ptr q 2,V,D,E])],.tuple [],[]⟩ :=
 ⟨by kernel_rfl,fun x g args w m hm hn ha hs hx=>by
  obtain ⟨u,rfl,hu⟩:=ha.one
  obtain ⟨b,rfl,hb⟩:=hu.cA
  have hmid:=hn (q,.cells [A,B,.ptr q 2,V,D,E]) (by simp)
  obtain ⟨b',h1,h2,h3,h4⟩:=hm.fO hmid hb
  rw [hb] at h1;simp only [Option.some.injEq] at h1;subst h1
  obtain ⟨c,t,fz,c1,c2,c3,c4⟩:=h4
  have hsz:c.size=6:=c2
  have k0:=c4 2 (by simp)
  simp only [List.getD_cons_zero,List.getD_cons_succ] at k0
  obtain ⟨b2,k0',hb2⟩:=k0.cA
  rw [hb] at hb2;simp only [Option.some.injEq] at hb2;subst hb2
  have hg0:c[2]? = some (.pointer (some ⟨b,2,none⟩)):=by
   rw [Array.getD_eq_getD_getElem?] at k0'
   rw [Array.getElem?_eq_getElem (by omega)] at k0' ⊢
   simpa using k0'
  refine (ln b w (by simp [World.cell?,c1,hg0])).mono ?_
  rintro e w' ⟨rfl,rfl⟩
  exact ⟨g,_,rfl,Gh.le_refl g,fun _ _=>rfl,.tuple _ _ rfl (fun j hj=>absurd hj (Nat.not_lt_zero _)),hm⟩⟩
end Go.Proofs.YtlfeacmbhldjcaaGreatDoor
namespace Go.Proofs.YtlfeacmbhldjcaaGreatDoor
open Go Go.Ab
set_option maxRecDepth 20000
set_option maxHeartbeats 4000000
theorem zx (q:Oid) (A B D E:AV) (s:List UInt8) (hl:s.length≤140737488355328) (p:Oid) (hq:¬ Oid.under p (.ty 133 q)) :
  aA Tryz.prog 79 [.ptr (.ty 133 q) 2,.str s] (Oid.under p) ⟨[(.ty 133 q,.cells [A,B,.nilPtr,.nilSl,D,E])],.tuple [.int .i64 s.length,.nilIface],
   [(.ty 133 q,some (.cells [A,B,.ptr (.ty 133 q) 2,.sl (.ty 5 (.sub 2 6 p)) 1 s.length,D,E])),(.ty 5 (.sub 2 6 p),some (.arr 1 (s.map byA)))]⟩:=by
 refine aN (n:=19) (rs:=[.tmp 4,.tmp 5]) Tryz.func79 rfl rfl (by decide) rfl rfl rfl ?_;rintro x rfl hrd hng
 (repeat (first|(refine ah rfl rfl ?_)|(refine aj rfl rfl ?_)|(refine af nmd [] hng (by kernel_rfl) fun hf C S K hC1 hC hS hK=>?_;simp (disch:=first|omega|assumption) only [go_sem];(repeat ((first|refine hC1 _ (zr _ A B .nilSl D E _) (by simp (disch:=first|omega|assumption) only [go_sem]) ?_);simp (disch:=first|omega|assumption) only [go_sem]));refine hK ?_;clear hK hS hC hC1 K S C hf)|((first|refine zn ?_|refine ze ?_|refine zk ?_);with_reducible (constructor;repeat constructor);try refine zl ?_)))
 refine aC (aP rfl ?_ ?_)
 all_goals simp only [List.mem_cons,List.not_mem_nil,or_false,forall_eq_or_imp,forall_eq,Option.some.injEq,forall_eq',Mem.ae,eq_self,if_true,↓reduceIte,reduceCtorEq,implies_true,not_true_eq_false,false_imp_iff,true_and,and_true,false_and,and_false,imp_self,Oid.aO hq,Oid.aS hq]
 rfl
theorem Di (q r:Oid) (A B D E:AV) (s0 s:List UInt8) (hl:s0.length+s.length≤140737488355328) (p:Oid) (hq:¬ Oid.under p (.ty 133 q)) (hr:¬ Oid.under p (.ty 5 r)) :
  aA Tryz.prog 79 [.ptr (.ty 133 q) 2,.str s] (Oid.under p) ⟨[(.ty 133 q,.cells [A,B,.ptr (.ty 133 q) 2,.sl (.ty 5 r) 1 s0.length,D,E]),(.ty 5 r,.arr 1 (s0.map byA))],.tuple [.int .i64 s.length,.nilIface],
   [(.ty 133 q,some (.cells [A,B,.ptr (.ty 133 q) 2,.sl (.ty 5 (.sub 2 6 p)) 1 (s0++s).length,D,E])),(.ty 5 r,none),(.ty 5 (.sub 2 6 p),some (.arr 1 ((s0++s).map byA)))]⟩:=by
 have hr':(Oid.ty 5 r=Oid.ty 5 (.sub 2 6 p))=False:=Oid.aO hr _ _ _
 refine aN (n:=19) (rs:=[.tmp 4,.tmp 5]) Tryz.func79 rfl rfl (by decide) rfl rfl rfl ?_;rintro x rfl hrd hng
 (repeat (first|(refine ah rfl rfl ?_)|(refine aj rfl rfl ?_)|(refine af nmd [] hng (by kernel_rfl) fun hf C S K hC1 hC hS hK=>?_;simp (disch:=first|omega|assumption) only [go_sem];(repeat ((first|refine hC1 _ (Dh _ A B (.sl (.ty 5 r) 1 s0.length) D E _) (by simp (disch:=first|omega|assumption) only [go_sem]) ?_);simp (disch:=first|omega|assumption) only [go_sem]));refine hK ?_;clear hK hS hC hC1 K S C hf)|((first|refine zn ?_|refine ze ?_|refine zk ?_);with_reducible (constructor;repeat constructor);try refine zl ?_)))
 refine aC (aP rfl ?_ ?_)
 all_goals simp only [List.mem_cons,List.not_mem_nil,or_false,forall_eq_or_imp,forall_eq,Option.some.injEq,forall_eq',Mem.ae,eq_self,if_true,↓reduceIte,reduceCtorEq,implies_true,not_true_eq_false,false_imp_iff,true_and,and_true,false_and,and_false,imp_self,Oid.aO hq,Oid.aS hq,Oid.aO hr,Oid.aS hr,List.length_append,List.map_append]
 rfl
theorem mU (q r:Oid) (A B D E:AV) (s:List UInt8) (h0:0 < s.length) (hl:s.length≤140737488355328) (p:Oid) :
  aA Tryz.prog 72 [.ptr (.ty 133 q) 2] (Oid.under p) ⟨[(.ty 133 q,.cells [A,B,.ptr (.ty 133 q) 2,.sl (.ty 5 r) 1 s.length,D,E]),(.ty 5 r,.arr 1 (s.map byA))],.str s,[(.ty 5 r,none)]⟩:=by
 refine aN (n:=14) (rs:=[.tmp 2]) Tryz.func72 rfl rfl (by decide) rfl rfl rfl ?_;rintro x rfl hrd hng
 refine qw0 ?_
 refine qd (.d [] [] [0,2]) trivial trivial ?_
 refine aC (aP rfl ?_ ?_)
 all_goals simp only [List.mem_cons,List.not_mem_nil,or_false,forall_eq_or_imp,forall_eq,Option.some.injEq,forall_eq',Mem.ae,eq_self,if_true,↓reduceIte,reduceCtorEq,implies_true,not_true_eq_false,false_imp_iff,true_and,and_true,false_and,and_false,imp_self]
theorem la (q:Oid) (A B D E X:AV) (p:Oid) :
  aA Tryz.prog 72 [.ptr (.ty 133 q) 2] (Oid.under p) ⟨[(.ty 133 q,.cells [A,B,X,.nilSl,D,E])],.str [],[]⟩:=by
 refine aN (n:=14) (rs:=[.tmp 2]) Tryz.func72 rfl rfl (by decide) rfl rfl rfl ?_;rintro x rfl hrd hng
 refine qw0 ?_
 refine bE nmd [] [] mixed hng (by kernel_rfl) [0,2] fun hf C S K hC hS hK=>?_;simp (disch:=first|omega|assumption) only [go_sem,fq]
 (first|refine hK (aK rfl) ?_|refine hK (by simp (disch:=first|omega|assumption) only [go_sem,List.reverse_cons,List.reverse_nil,ne_eq,not_false_eq_true,implies_true]) ?_);clear hK hS hC K S C hf
 refine aC (aP rfl ?_ ?_)
 all_goals simp only [List.mem_cons,List.not_mem_nil,or_false,forall_eq_or_imp,forall_eq,Option.some.injEq,forall_eq',Mem.ae,eq_self,if_true,↓reduceIte,reduceCtorEq,implies_true,not_true_eq_false,false_imp_iff,true_and,and_true,false_and,and_false,imp_self]
theorem eQ (q:Oid) (A B X Y D E:AV) (p:Oid) :
  aA Tryz.prog 122 [.ptr (.ty 133 q) 2] (Oid.under p) ⟨[(.ty 133 q,.cells [A,B,X,Y,D,E])],.tuple [],[(.ty 133 q,some (.cells [A,B,.nilPtr,.nilSl,D,E]))]⟩:=by
 refine aN (n:=8) (rs:=[]) Tryz.func122 rfl rfl (by decide) rfl rfl rfl ?_;rintro x rfl hrd hng
 refine qw0 ?_
 refine br (bc (.tuple []) _ rfl ⟨rfl,rfl⟩ (ck ?_ ?_))
 all_goals simp only [List.mem_cons,List.not_mem_nil,or_false,forall_eq_or_imp,forall_eq,Option.some.injEq,forall_eq',Mem.ae,eq_self,if_true,↓reduceIte,reduceCtorEq,implies_true,not_true_eq_false,false_imp_iff,true_and,and_true,false_and,and_false,imp_self]
end Go.Proofs.YtlfeacmbhldjcaaGreatDoor
namespace Go.Proofs.YtlfeacmbhldjcaaGreatDoor
open Go Go.Ab Go.RowKit
set_option maxRecDepth 100000
set_option maxHeartbeats 1000000
theorem gL (w:World) (o:Obj) (b j:Nat) (v:Value) (h:w.cell? ⟨b,j,none⟩=some v):(w.alloc o).cell? ⟨b,j,none⟩=some v:=by
 by_cases hb:b < w.heap.size
 ·simp only [World.cell?] at h ⊢;rw [Lib.alloc_old w o b hb];exact h
 ·simp [World.cell?,Array.getElem?_eq_none (by omega:w.heap.size≤b)] at h
theorem lp (b:Nat) (w:World) (a:Addr) (c:Nat) (hc:c≠0) (h0:w.cell? ⟨b,3,none⟩=some (.slice (some a) 0 c)) :
  Calls Tryz.prog 72 #[.pointer (some ⟨b,2,none⟩)] w fun e w'=>e = .returned (.string ⟨#[]⟩)∧Below w.heap.size w w':=by
 have hUS:=fun (W:World) (q:Option Addr)=>Lib.run_unsafeString_none (P:=Tryz.prog) W 165 3 9 q
 have c1:w.drew.cell? ⟨b,3,none⟩=some (.slice (some a) 0 c):=h0
 have hSD:(Builtin.unsafeSliceData_ #[115] 165 #[.slice (some a) 0 c]).run Tryz.prog w.drew = .ok (.pointer (some a)) w.drew:=Lib.run_unsafeSliceData_row _ _ _ _ _ _ hc
 have mixed:Tryz.prog.follows .mixedOrders=true:=by kernel_rfl
 go_enter Tryz.func72,Tryz.ntmps72
 go_wp2
 go_region_o
 all_goals (go_wp2;go_ret;exact ⟨rfl,Below.drew (Below.refl w.heap.size w)⟩)
theorem kB (b:Nat) (w:World) (a:Addr) (sh:TypeId × Nat) (hsh:w.shape? a.block=some sh) (h0:w.cell? ⟨b,3,none⟩=some (.slice (some a) 0 0)) :
  Calls Tryz.prog 72 #[.pointer (some ⟨b,2,none⟩)] w fun e w'=>e = .returned (.string ⟨#[]⟩)∧Below w.heap.size w w':=by
 have hUS:=fun (W:World) (q:Option Addr)=>Lib.run_unsafeString_none (P:=Tryz.prog) W 165 3 9 q
 have c1:w.drew.cell? ⟨b,3,none⟩=some (.slice (some a) 0 0):=h0
 have hSD:(Builtin.unsafeSliceData_ #[115] 165 #[.slice (some a) 0 0]).run Tryz.prog w.drew = .ok (.pointer (some ⟨w.drew.heap.size,0,none⟩)) (w.drew.alloc (.view a 5)):=Lib.run_unsafeSliceData_zero _ _ _ 5 (by kernel_rfl) a 0 sh hsh
 have c2:(w.drew.alloc (.view a 5)).cell? ⟨b,3,none⟩=some (.slice (some a) 0 0):=gL _ _ _ _ _ c1
 have c3:(w.alloc (.view a 5)).cell? ⟨b,3,none⟩=some (.slice (some a) 0 0):=gL _ _ _ _ _ h0
 have mixed:Tryz.prog.follows .mixedOrders=true:=by kernel_rfl
 go_enter Tryz.func72,Tryz.ntmps72
 go_wp2
 go_region_o
 all_goals (go_wp2;go_ret;first|exact ⟨rfl,Below.alloc (Below.drew (Below.refl _ w)) (Nat.le_refl _) _⟩|exact ⟨rfl,Below.drew (Below.alloc (Below.refl _ w) (Nat.le_refl _) _)⟩)
theorem lq (b:Nat) (w:World) (h0:w.cell? ⟨b,3,none⟩=some (.slice none 0 0)) :
  Calls Tryz.prog 72 #[.pointer (some ⟨b,2,none⟩)] w fun e w'=>e = .returned (.string ⟨#[]⟩)∧Below w.heap.size w w':=by
 have hUS:=fun (W:World) (q:Option Addr)=>Lib.run_unsafeString_none (P:=Tryz.prog) W 165 3 9 q
 have c1:w.drew.cell? ⟨b,3,none⟩=some (.slice none 0 0):=h0
 have hSD:(Builtin.unsafeSliceData_ #[115] 165 #[.slice none 0 0]).run Tryz.prog w.drew = .ok (.pointer none) w.drew:=rfl
 have mixed:Tryz.prog.follows .mixedOrders=true:=by kernel_rfl
 go_enter Tryz.func72,Tryz.ntmps72
 go_wp2
 go_region_o
 all_goals (go_wp2;go_ret;exact ⟨rfl,Below.drew (Below.refl w.heap.size w)⟩)
theorem jZ (q r:Oid) (A B X D E:AV) (p:Oid) (hp:p.mono=false) :
  aA Tryz.prog 72 [.ptr q 2] (Oid.under p) ⟨[(q,.cells [A,B,X,.sl r 1 0,D,E])],.str [],[]⟩ :=
 ⟨by kernel_rfl,fun x g args w m hm hn ha hs hx=>by
  obtain ⟨u,rfl,hu⟩:=ha.one
  obtain ⟨b,rfl,hb⟩:=hu.cA
  have hmid:=hn (q,.cells [A,B,X,.sl r 1 0,D,E]) (by simp)
  obtain ⟨b',h1,h2,h3,h4⟩:=hm.fO hmid hb
  rw [hb] at h1;simp only [Option.some.injEq] at h1;subst h1
  obtain ⟨c,t,fz,c1,c2,c3,c4⟩:=h4
  have hsz:c.size=6:=c2
  have k0:=c4 3 (by simp)
  simp only [List.getD_cons_zero,List.getD_cons_succ] at k0
  have at3:∀ v,c.getD 3 undef=v→w.cell? ⟨b,3,none⟩=some v:=fun v h=>by
   rw [Array.getD_eq_getD_getElem?,Array.getElem?_eq_getElem (by omega)] at h
   simp only [Option.getD_some] at h
   simp [World.cell?,c1,Array.getElem?_eq_getElem (show 3 < c.size by omega),h]
  rcases k0.dq with ⟨_,hv,_⟩|⟨b2,cap,hv,hb2,_,hrow⟩
  ·exact (lq b w (at3 _ hv)).mono fun _ _ h=>⟨g,_,h.1,Gh.le_refl g,fun _ _=>rfl,.str _ _ rfl,hm.below h.2 (cU (hs p (Oid.az p)).2 hp)⟩
  ·by_cases h0:cap=0
   ·subst h0
    obtain ⟨c',t',fz',h6,h7⟩:=hm.rows b2 _ hrow
    exact (kB b w ⟨b2,0,none⟩ _ (by simp [World.shape?,h6];rfl) (at3 _ hv)).mono fun _ _ h=>⟨g,_,h.1,Gh.le_refl g,fun _ _=>rfl,.str _ _ rfl,hm.below h.2 (cU (hs p (Oid.az p)).2 hp)⟩
   ·exact (lp b w _ cap h0 (at3 _ hv)).mono fun _ _ h=>⟨g,_,h.1,Gh.le_refl g,fun _ _=>rfl,.str _ _ rfl,hm.below h.2 (cU (hs p (Oid.az p)).2 hp)⟩⟩
end Go.Proofs.YtlfeacmbhldjcaaGreatDoor
namespace Go.Proofs.YtlfeacmbhldjcaaGreatDoor
open Go Go.Ab
set_option maxRecDepth 20000
set_option maxHeartbeats 4000000
theorem bM {p i:Oid} (c j:Nat) (h:¬ Oid.under p i):¬ Oid.under (.sub c j p) i:=fun k=>h (Oid.bY (Oid.ay (Oid.az _)) k)
theorem zy (q:Oid) (A B D E:AV) (s:Str) (hl:s.length≤140737488355328) (p:Oid) (hq:¬ Oid.under p (.ty 133 q)) :
  aA Tryz.prog 120 [.ptr (.ty 133 q) 0,.str s] (Oid.under p) ⟨[(.ty 133 q,.cells [A,B,.nilPtr,.nilSl,D,E])],.tuple [],
   [(.ty 133 q,some (.cells [A,B,.ptr (.ty 133 q) 2,.sl (.ty 5 (.sub 2 6 (.sub 0 4 p))) 1 s.length,.bool true,.bool false])),(.ty 5 (.sub 2 6 (.sub 0 4 p)),some (.arr 1 (s.map byA)))]⟩:=by
 refine aN (n:=15) (rs:=[]) Tryz.func120 rfl rfl (by decide) rfl rfl rfl ?_;rintro x rfl hrd hng
 (repeat (first|(refine ah rfl rfl ?_)|(refine aj rfl rfl ?_)|(refine af nmd [] hng (by kernel_rfl) fun hf C S K hC1 hC hS hK=>?_;simp (disch:=first|omega|assumption) only [go_sem];(repeat ((first|refine hC1 _ (zx q A B D E s hl _ (bM _ _ hq)) (by simp (disch:=first|omega|assumption) only [go_sem]) ?_);simp (disch:=first|omega|assumption) only [go_sem]));refine hK ?_;clear hK hS hC hC1 K S C hf)|((first|refine zn ?_|refine ze ?_|refine zk ?_);with_reducible (constructor;repeat constructor);try refine zl ?_)))
 refine br (bc (.tuple []) _ rfl ⟨rfl,rfl⟩ (ck ?_ ?_))
 all_goals simp only [List.mem_cons,List.not_mem_nil,or_false,forall_eq_or_imp,forall_eq,Option.some.injEq,forall_eq',Mem.ae,eq_self,if_true,↓reduceIte,reduceCtorEq,implies_true,not_true_eq_false,false_imp_iff,true_and,and_true,false_and,and_false,imp_self,Oid.aO (bM 0 4 hq),Oid.aS (bM 0 4 hq)]
theorem Dj (q r:Oid) (A B D E:AV) (s0 s:Str) (hl:s0.length+s.length≤140737488355328) (p:Oid) (hq:¬ Oid.under p (.ty 133 q)) (hr:¬ Oid.under p (.ty 5 r)) :
  aA Tryz.prog 120 [.ptr (.ty 133 q) 0,.str s] (Oid.under p) ⟨[(.ty 133 q,.cells [A,B,.ptr (.ty 133 q) 2,.sl (.ty 5 r) 1 s0.length,D,E]),(.ty 5 r,.arr 1 (s0.map byA))],.tuple [],
   [(.ty 133 q,some (.cells [A,B,.ptr (.ty 133 q) 2,.sl (.ty 5 (.sub 2 6 (.sub 0 4 p))) 1 (s0++s).length,.bool true,.bool false])),(.ty 5 r,none),(.ty 5 (.sub 2 6 (.sub 0 4 p)),some (.arr 1 ((s0++s).map byA)))]⟩:=by
 refine aN (n:=15) (rs:=[]) Tryz.func120 rfl rfl (by decide) rfl rfl rfl ?_;rintro x rfl hrd hng
 (repeat (first|(refine ah rfl rfl ?_)|(refine aj rfl rfl ?_)|(refine af nmd [] hng (by kernel_rfl) fun hf C S K hC1 hC hS hK=>?_;simp (disch:=first|omega|assumption) only [go_sem];(repeat ((first|refine hC1 _ (Di q r A B D E s0 s hl _ (bM _ _ hq) (bM _ _ hr)) (by simp (disch:=first|omega|assumption) only [go_sem]) ?_);simp (disch:=first|omega|assumption) only [go_sem]));refine hK ?_;clear hK hS hC hC1 K S C hf)|((first|refine zn ?_|refine ze ?_|refine zk ?_);with_reducible (constructor;repeat constructor);try refine zl ?_)))
 refine br (bc (.tuple []) _ rfl ⟨rfl,rfl⟩ (ck ?_ ?_))
 all_goals simp only [List.mem_cons,List.not_mem_nil,or_false,forall_eq_or_imp,forall_eq,Option.some.injEq,forall_eq',Mem.ae,eq_self,if_true,↓reduceIte,reduceCtorEq,implies_true,not_true_eq_false,false_imp_iff,true_and,and_true,false_and,and_false,imp_self,Oid.aO (bM 0 4 hq),Oid.aS (bM 0 4 hq),Oid.aO (bM 0 4 hr),Oid.aS (bM 0 4 hr),List.length_append]
theorem nE (q:Oid) (A D E:AV) (p:Oid) (hq:¬ Oid.under p (.ty 133 q)) :
  aA Tryz.prog 76 [.ptr (.ty 133 q) 0] (Oid.under p) ⟨[(.ty 133 q,.cells [A,.nilSl,.nilPtr,.nilSl,D,E])],.tuple [],[(.ty 133 q,some (.cells [A,.sl (.sub 0 10 p) 1 1,.nilPtr,.nilSl,.bool false,E])),(.sub 0 10 p,some (.arr 1 [.str ([]:Str)]))]⟩:=by
 refine aN (n:=22) (rs:=[]) Tryz.func76 rfl rfl (by decide) rfl rfl rfl ?_;rintro x rfl hrd hng
 refine qw0 ?_
 refine qd (.d [(4,8),(4,9)] [] [0]) trivial (cq (la q A (.nilSl) D E .nilPtr _) trivial) ?_
 (repeat (first|(refine ah rfl rfl ?_)|(refine aj rfl rfl ?_)|(refine af nmd [] hng (by kernel_rfl) fun hf C S K hC1 hC hS hK=>?_;simp (disch:=first|omega|assumption) only [go_sem];(repeat ((first|refine hC1 _ (eQ q A (.sl (.sub 0 10 x.p) 1 1) (.nilPtr) (.nilSl) D E _) (by simp (disch:=first|omega|assumption) only [go_sem]) ?_);simp (disch:=first|omega|assumption) only [go_sem]));refine hK ?_;clear hK hS hC hC1 K S C hf)|((first|refine zn ?_|refine ze ?_|refine zk ?_);with_reducible (constructor;repeat constructor);try refine zl ?_)))
 refine br (bc (.tuple []) _ rfl ⟨rfl,rfl⟩ (ck ?_ ?_))
 all_goals simp only [List.mem_cons,List.not_mem_nil,or_false,forall_eq_or_imp,forall_eq,Option.some.injEq,forall_eq',Mem.ae,eq_self,if_true,↓reduceIte,reduceCtorEq,implies_true,not_true_eq_false,false_imp_iff,true_and,and_true,false_and,and_false,imp_self,Oid.aO hq,Oid.aS hq,Oid.aa hq,Oid.ab hq]
theorem p5 (q:Oid) (A D E:AV) (r:Oid) (X:AV) (p:Oid) (hp:p.mono=false) (hq:¬ Oid.under p (.ty 133 q)) :
  aA Tryz.prog 76 [.ptr (.ty 133 q) 0] (Oid.under p) ⟨[(.ty 133 q,.cells [A,.nilSl,X,.sl r 1 0,D,E])],.tuple [],[(.ty 133 q,some (.cells [A,.sl (.sub 0 10 p) 1 1,.nilPtr,.nilSl,.bool false,E])),(.sub 0 10 p,some (.arr 1 [.str ([]:Str)]))]⟩:=by
 refine aN (n:=22) (rs:=[]) Tryz.func76 rfl rfl (by decide) rfl rfl rfl ?_;rintro x rfl hrd hng
 refine qw0 ?_
 refine qd (.d [(4,8),(4,9)] [] [0]) trivial (cq (jZ (.ty 133 q) r A (.nilSl) X D E _) trivial) ?_
 (repeat (first|(refine ah rfl rfl ?_)|(refine aj rfl rfl ?_)|(refine af nmd [] hng (by kernel_rfl) fun hf C S K hC1 hC hS hK=>?_;simp (disch:=first|omega|assumption) only [go_sem];(repeat ((first|refine hC1 _ (eQ q A (.sl (.sub 0 10 x.p) 1 1) (X) (.sl r 1 0) D E _) (by simp (disch:=first|omega|assumption) only [go_sem]) ?_);simp (disch:=first|omega|assumption) only [go_sem]));refine hK ?_;clear hK hS hC hC1 K S C hf)|((first|refine zn ?_|refine ze ?_|refine zk ?_);with_reducible (constructor;repeat constructor);try refine zl ?_)))
 refine br (bc (.tuple []) _ rfl ⟨rfl,rfl⟩ (ck ?_ ?_))
 all_goals simp only [List.mem_cons,List.not_mem_nil,or_false,forall_eq_or_imp,forall_eq,Option.some.injEq,forall_eq',Mem.ae,eq_self,if_true,↓reduceIte,reduceCtorEq,implies_true,not_true_eq_false,false_imp_iff,true_and,and_true,false_and,and_false,imp_self,Oid.aO hq,Oid.aS hq,Oid.aa hq,Oid.ab hq]
theorem p6 (q:Oid) (A D E:AV) (r:Oid) (f:Str) (h0f:0 < f.length) (hl:f.length≤140737488355328) (p:Oid) (hq:¬ Oid.under p (.ty 133 q)) (hr:¬ Oid.under p (.ty 5 r)) :
  aA Tryz.prog 76 [.ptr (.ty 133 q) 0] (Oid.under p) ⟨[(.ty 133 q,.cells [A,.nilSl,.ptr (.ty 133 q) 2,.sl (.ty 5 r) 1 f.length,D,E]),(.ty 5 r,.arr 1 (f.map byA))],.tuple [],[(.ty 133 q,some (.cells [A,.sl (.sub 0 10 p) 1 1,.nilPtr,.nilSl,.bool false,E])),(.ty 5 r,none),(.sub 0 10 p,some (.arr 1 [.str f]))]⟩:=by
 refine aN (n:=22) (rs:=[]) Tryz.func76 rfl rfl (by decide) rfl rfl rfl ?_;rintro x rfl hrd hng
 refine qw0 ?_
 refine qd (.d [(4,8),(4,9)] [] [0]) trivial (cq (mU q r A (.nilSl) D E f h0f hl _) trivial) ?_
 (repeat (first|(refine ah rfl rfl ?_)|(refine aj rfl rfl ?_)|(refine af nmd [] hng (by kernel_rfl) fun hf C S K hC1 hC hS hK=>?_;simp (disch:=first|omega|assumption) only [go_sem];(repeat ((first|refine hC1 _ (eQ q A (.sl (.sub 0 10 x.p) 1 1) (.ptr (.ty 133 q) 2) (.sl (.ty 5 r) 1 f.length) D E _) (by simp (disch:=first|omega|assumption) only [go_sem]) ?_);simp (disch:=first|omega|assumption) only [go_sem]));refine hK ?_;clear hK hS hC hC1 K S C hf)|((first|refine zn ?_|refine ze ?_|refine zk ?_);with_reducible (constructor;repeat constructor);try refine zl ?_)))
 refine br (bc (.tuple []) _ rfl ⟨rfl,rfl⟩ (ck ?_ ?_))
 all_goals simp only [List.mem_cons,List.not_mem_nil,or_false,forall_eq_or_imp,forall_eq,Option.some.injEq,forall_eq',Mem.ae,eq_self,if_true,↓reduceIte,reduceCtorEq,implies_true,not_true_eq_false,false_imp_iff,true_and,and_true,false_and,and_false,imp_self,Oid.aO hq,Oid.aS hq,Oid.aa hq,Oid.ab hq,Oid.aO hr,Oid.aS hr,Oid.aa hr,Oid.ab hr]
theorem mV (q ro:Oid) (A D E:AV) (l:List Str) (hn:l.length≤1000000) (p:Oid) (hq:¬ Oid.under p (.ty 133 q)) (ho:¬ Oid.under p ro) (hqo:¬ ro=(.ty 133 q)) :
  aA Tryz.prog 76 [.ptr (.ty 133 q) 0] (Oid.under p) ⟨[(.ty 133 q,.cells [A,.sl ro 1 l.length,.nilPtr,.nilSl,D,E]),(ro,.arr 1 (l.map .str))],.tuple [],[(.ty 133 q,some (.cells [A,.sl (.sub 0 10 p) 1 (l++[([]:Str)]).length,.nilPtr,.nilSl,.bool false,E])),(ro,none),(.sub 0 10 p,some (.arr 1 ((l++[([]:Str)]).map AV.str)))]⟩:=by
 refine aN (n:=22) (rs:=[]) Tryz.func76 rfl rfl (by decide) rfl rfl rfl ?_;rintro x rfl hrd hng
 refine qw0 ?_
 refine bE nmd [] [(4,8),(4,9)] mixed hng (by kernel_rfl) [0] fun hf C S K hC hS hK=>?_;simp (disch:=first|omega|assumption) only [go_sem]
 refine hC _ (la q A (.sl ro 1 l.length) D E .nilPtr _) qs0 ?_
 simp (disch:=first|omega|assumption) only [go_sem,List.length_map,hqo,Ne.symm hqo,if_false,↓reduceIte]
 (first|refine hK (aK rfl) ?_|refine hK (by simp (disch:=first|omega|assumption) only [go_sem,List.reverse_cons,List.reverse_nil,ne_eq,not_false_eq_true,implies_true]) ?_);clear hK hS hC K S C hf
 (repeat (first|(refine ah rfl rfl ?_)|(refine aj rfl rfl ?_)|(refine af nmd [] hng (by kernel_rfl) fun hf C S K hC1 hC hS hK=>?_;simp (disch:=first|omega|assumption) only [go_sem];(repeat ((first|refine hC1 _ (eQ q A (.sl (.sub 0 10 x.p) 1 (l.length+1)) (.nilPtr) (.nilSl) D E _) (by simp (disch:=first|omega|assumption) only [go_sem]) ?_);simp (disch:=first|omega|assumption) only [go_sem]));refine hK ?_;clear hK hS hC hC1 K S C hf)|((first|refine zn ?_|refine ze ?_|refine zk ?_);with_reducible (constructor;repeat constructor);try refine zl ?_)))
 refine br (bc (.tuple []) _ rfl ⟨rfl,rfl⟩ (ck ?_ ?_))
 all_goals simp only [List.mem_cons,List.not_mem_nil,or_false,forall_eq_or_imp,forall_eq,Option.some.injEq,forall_eq',Mem.ae,eq_self,if_true,↓reduceIte,reduceCtorEq,implies_true,not_true_eq_false,false_imp_iff,true_and,and_true,false_and,and_false,imp_self,Oid.aO hq,Oid.aS hq,Oid.aa hq,Oid.ab hq,Oid.aa ho,Oid.ab ho,hqo,Ne.symm hqo,List.length_append,List.map_append,List.length_cons,List.length_nil,List.map_cons,List.map_nil]
theorem nF (q ro:Oid) (A D E:AV) (l:List Str) (hn:l.length≤1000000) (r:Oid) (X:AV) (p:Oid) (hp:p.mono=false) (hq:¬ Oid.under p (.ty 133 q)) (ho:¬ Oid.under p ro) (hqo:¬ ro=(.ty 133 q)) :
  aA Tryz.prog 76 [.ptr (.ty 133 q) 0] (Oid.under p) ⟨[(.ty 133 q,.cells [A,.sl ro 1 l.length,X,.sl r 1 0,D,E]),(ro,.arr 1 (l.map .str))],.tuple [],[(.ty 133 q,some (.cells [A,.sl (.sub 0 10 p) 1 (l++[([]:Str)]).length,.nilPtr,.nilSl,.bool false,E])),(ro,none),(.sub 0 10 p,some (.arr 1 ((l++[([]:Str)]).map AV.str)))]⟩:=by
 refine aN (n:=22) (rs:=[]) Tryz.func76 rfl rfl (by decide) rfl rfl rfl ?_;rintro x rfl hrd hng
 refine qw0 ?_
 refine bE nmd [] [(4,8),(4,9)] mixed hng (by kernel_rfl) [0] fun hf C S K hC hS hK=>?_;simp (disch:=first|omega|assumption) only [go_sem]
 refine hC _ (jZ (.ty 133 q) r A (.sl ro 1 l.length) X D E _ (aH rfl hp)) qs0 ?_
 simp (disch:=first|omega|assumption) only [go_sem,List.length_map,hqo,Ne.symm hqo,if_false,↓reduceIte]
 (first|refine hK (aK rfl) ?_|refine hK (by simp (disch:=first|omega|assumption) only [go_sem,List.reverse_cons,List.reverse_nil,ne_eq,not_false_eq_true,implies_true]) ?_);clear hK hS hC K S C hf
 (repeat (first|(refine ah rfl rfl ?_)|(refine aj rfl rfl ?_)|(refine af nmd [] hng (by kernel_rfl) fun hf C S K hC1 hC hS hK=>?_;simp (disch:=first|omega|assumption) only [go_sem];(repeat ((first|refine hC1 _ (eQ q A (.sl (.sub 0 10 x.p) 1 (l.length+1)) (X) (.sl r 1 0) D E _) (by simp (disch:=first|omega|assumption) only [go_sem]) ?_);simp (disch:=first|omega|assumption) only [go_sem]));refine hK ?_;clear hK hS hC hC1 K S C hf)|((first|refine zn ?_|refine ze ?_|refine zk ?_);with_reducible (constructor;repeat constructor);try refine zl ?_)))
 refine br (bc (.tuple []) _ rfl ⟨rfl,rfl⟩ (ck ?_ ?_))
 all_goals simp only [List.mem_cons,List.not_mem_nil,or_false,forall_eq_or_imp,forall_eq,Option.some.injEq,forall_eq',Mem.ae,eq_self,if_true,↓reduceIte,reduceCtorEq,implies_true,not_true_eq_false,false_imp_iff,true_and,and_true,false_and,and_false,imp_self,Oid.aO hq,Oid.aS hq,Oid.aa hq,Oid.ab hq,Oid.aa ho,Oid.ab ho,hqo,Ne.symm hqo,List.length_append,List.map_append,List.length_cons,List.length_nil,List.map_cons,List.map_nil]
theorem nG (q ro:Oid) (A D E:AV) (l:List Str) (hn:l.length≤1000000) (r:Oid) (f:Str) (h0f:0 < f.length) (hl:f.length≤140737488355328) (p:Oid) (hq:¬ Oid.under p (.ty 133 q)) (ho:¬ Oid.under p ro) (hqo:¬ ro=(.ty 133 q)) (hr:¬ Oid.under p (.ty 5 r)) (hro:¬ ro = .ty 5 r) :
  aA Tryz.prog 76 [.ptr (.ty 133 q) 0] (Oid.under p) ⟨[(.ty 133 q,.cells [A,.sl ro 1 l.length,.ptr (.ty 133 q) 2,.sl (.ty 5 r) 1 f.length,D,E]),(.ty 5 r,.arr 1 (f.map byA)),(ro,.arr 1 (l.map .str))],.tuple [],[(.ty 133 q,some (.cells [A,.sl (.sub 0 10 p) 1 (l++[f]).length,.nilPtr,.nilSl,.bool false,E])),(.ty 5 r,none),(ro,none),(.sub 0 10 p,some (.arr 1 ((l++[f]).map AV.str)))]⟩:=by
 refine aN (n:=22) (rs:=[]) Tryz.func76 rfl rfl (by decide) rfl rfl rfl ?_;rintro x rfl hrd hng
 refine qw0 ?_
 refine bE nmd [] [(4,8),(4,9)] mixed hng (by kernel_rfl) [0] fun hf C S K hC hS hK=>?_;simp (disch:=first|omega|assumption) only [go_sem]
 refine hC _ (mU q r A (.sl ro 1 l.length) D E f h0f hl _) qs0 ?_
 simp (disch:=first|omega|assumption) only [go_sem,List.length_map,hqo,Ne.symm hqo,if_false,↓reduceIte,hro,Ne.symm hro]
 (first|refine hK (aK rfl) ?_|refine hK (by simp (disch:=first|omega|assumption) only [go_sem,List.reverse_cons,List.reverse_nil,ne_eq,not_false_eq_true,implies_true]) ?_);clear hK hS hC K S C hf
 (repeat (first|(refine ah rfl rfl ?_)|(refine aj rfl rfl ?_)|(refine af nmd [] hng (by kernel_rfl) fun hf C S K hC1 hC hS hK=>?_;simp (disch:=first|omega|assumption) only [go_sem];(repeat ((first|refine hC1 _ (eQ q A (.sl (.sub 0 10 x.p) 1 (l.length+1)) (.ptr (.ty 133 q) 2) (.sl (.ty 5 r) 1 f.length) D E _) (by simp (disch:=first|omega|assumption) only [go_sem]) ?_);simp (disch:=first|omega|assumption) only [go_sem]));refine hK ?_;clear hK hS hC hC1 K S C hf)|((first|refine zn ?_|refine ze ?_|refine zk ?_);with_reducible (constructor;repeat constructor);try refine zl ?_)))
 refine br (bc (.tuple []) _ rfl ⟨rfl,rfl⟩ (ck ?_ ?_))
 all_goals simp only [List.mem_cons,List.not_mem_nil,or_false,forall_eq_or_imp,forall_eq,Option.some.injEq,forall_eq',Mem.ae,eq_self,if_true,↓reduceIte,reduceCtorEq,implies_true,not_true_eq_false,false_imp_iff,true_and,and_true,false_and,and_false,imp_self,Oid.aO hq,Oid.aS hq,Oid.aa hq,Oid.ab hq,Oid.aO hr,Oid.aS hr,Oid.aa hr,Oid.ab hr,Oid.aa ho,Oid.ab ho,hqo,Ne.symm hqo,List.length_append,List.map_append,List.length_cons,List.length_nil,List.map_cons,List.map_nil,hro,Ne.symm hro]
end Go.Proofs.YtlfeacmbhldjcaaGreatDoor
namespace Go.Proofs.YtlfeacmbhldjcaaGreatDoor
open Go Go.Ab
set_option maxRecDepth 20000
set_option maxHeartbeats 1000000
structure Spl where
 out:List Str
 fld:Str
 b:Bool
 g:Bool
def kC (s:Str) (x:Spl):Spl:={ x with fld:=x.fld++s,b:=true,g:=false }
def gM (x:Spl):Spl:={ x with out:=x.out++[x.fld],fld:=[],b:=false }
def afI (J:Oid→Prop) (ov:AV) (rows:List (Oid × ar)) (out:List Str):Prop :=
 (out=[]∧ov = .nilSl∧rows=[])∨∃ ro,J ro∧ro.tyd=none∧ov = .sl ro 1 out.length∧rows=[(ro,.arr 1 (out.map .str))]
def ahz (q:Oid) (J:Oid→Prop) (X Y:AV) (rows:List (Oid × ar)) (fld:Str):Prop :=
 (fld=[]∧X = .nilPtr∧Y = .nilSl∧rows=[])∨∃ r,J (.ty 5 r)∧X = .ptr (.ty 133 q) 2∧Y = .sl (.ty 5 r) 1 fld.length∧rows=[(.ty 5 r,.arr 1 (fld.map byA))]
def Rep (q:Oid) (J:Oid→Prop) (ifs:Str) (S:Spl) (M:List (Oid × ar)):Prop :=
 ∃ ov X Y ro rf,afI J ov ro S.out∧ahz q J X Y rf S.fld∧M=(.ty 133 q,.cells [.str ifs,ov,X,Y,.bool S.b,.bool S.g])::(rf++ro)
theorem Rep.mono {q:Oid} {J J':Oid→Prop} {ifs:Str} {S:Spl} {M:List (Oid × ar)} (h:Rep q J ifs S M) (hJ:∀ i,J i→J' i):Rep q J' ifs S M:=by
 obtain ⟨ov,X,Y,ro,rf,h1,h2,h3⟩:=h
 exact ⟨ov,X,Y,ro,rf,h1.imp id fun ⟨r,k,k'⟩=>⟨r,hJ _ k,k'⟩,h2.imp id fun ⟨r,k,k'⟩=>⟨r,hJ _ k,k'⟩,h3⟩
def Leaves (q:Oid) (J:Oid→Prop) (ifs:Str) (S:Spl) (M:List (Oid × ar)) (u:List (Oid × Option ar)):Prop :=
 ∃ M',Rep q J ifs S M'∧∀ m:Mem,(∀ e,e ∈ M→m e.1=some e.2)→∀ e,e ∈ M'→(m.aF u) e.1=some e.2
theorem gP {P:Program} [Laid P] {f:FuncId} {xs:List AV} {sp:Oid→Prop} {L0 M:List (Oid × ar)} {v:AV} {U:List (Oid × Option ar)} (h:aA P f xs sp ⟨L0,v,U⟩) (hL:∀ e,e ∈ L0→e ∈ M) :
  aX P f xs sp M (fun v' u=>v' = v∧u=U) (fun _ _=>False) :=
 ⟨h.enters,fun x g args w m hm hn ha hs hx=>h.nd.calls x g args w m hm (fun e he=>hn e (hL e he)) ha hs hx⟩
theorem kD {a:Oid} {t:Nat} {b:Oid} (h:a.tyd=none):¬ a = .ty t b:=fun e=>by rw [e] at h;cases h
theorem va (q:Oid) (J:Oid→Prop) (ifs s:Str) (S:Spl) (M:List (Oid × ar)) (hl:S.fld.length+s.length≤140737488355328) (p:Oid) (hq:¬ Oid.under p (.ty 133 q)) (hJ:∀ i,J i→¬ Oid.under p i) (hM:Rep q J ifs S M) :
  aX Tryz.prog 120 [.ptr (.ty 133 q) 0,.str s] (Oid.under p) M (fun v u=>v = .tuple []∧Leaves q (fun i=>J i∨Oid.under p i) ifs (kC s S) M u) (fun _ _=>False):=by
 obtain ⟨ov,X,Y,ro,rf,hO,hF,rfl⟩:=hM
 obtain ⟨out,fld,b,g⟩:=S
 have hyou:Oid.under p (.ty 5 (.sub 2 6 (.sub 0 4 p))):=Oid.bY (Oid.ay (Oid.ay (Oid.az _))) (Oid.fM _ _)
 have hq5:¬ Oid.ty 5 (.sub 2 6 (.sub 0 4 p)) = .ty 133 q:=fun e=>hq (by rw [← e];exact hyou)
 have hro:∀ e,e ∈ ro→∃ i,e.1=i∧i.tyd=none:=by
  rcases hO with ⟨_,_,rfl⟩|⟨r,_,k,_,rfl⟩
  ·exact fun e he=>by cases he
  ·exact fun e he=>⟨r,by rw [List.mem_singleton.1 he],k⟩
 have hO':afI (fun i=>J i∨Oid.under p i) ov ro out:=hO.imp id fun ⟨r,k,k'⟩=>⟨r,.inl k,k'⟩
 rcases hF with ⟨hf0,rfl,rfl,rfl⟩|⟨r,hr,rfl,rfl,rfl⟩
 ·simp only at hf0 hl
  subst hf0
  refine (gP (zy q (.str ifs) ov (.bool b) (.bool g) s (by simpa using hl) p hq) (fun e he=>by rw [List.mem_singleton.1 he];exact List.mem_cons_self ..)).weaken ?_ (fun _ _ h=>h)
  rintro v u ⟨rfl,rfl⟩
  refine ⟨rfl,_,⟨ov,_,_,ro,_,hO',.inr ⟨.sub 2 6 (.sub 0 4 p),.inr hyou,rfl,rfl,rfl⟩,rfl⟩,fun m hm e he=>?_⟩
  simp only [kC,List.nil_append,List.mem_cons,List.mem_append,List.not_mem_nil,or_false] at he
  rcases he with rfl|rfl|he
  ·simp only [Mem.aF,Mem.set,Ne.symm hq5,if_true,if_false,kC]
  ·simp only [Mem.aF,Mem.set,if_true,List.nil_append]
  ·obtain ⟨i,e1,e2⟩:=hro e he
   have:=hm e (List.mem_cons_of_mem _ he)
   rw [e1] at this ⊢
   simp only [Mem.aF,Mem.set,kD e2,if_false];exact this
 ·simp only at hl
  refine (gP (Dj q r (.str ifs) ov (.bool b) (.bool g) fld s hl p hq (hJ _ hr)) (fun e he=>by
   simp only [List.mem_cons,List.not_mem_nil,or_false] at he
   rcases he with rfl|rfl
   ·exact List.mem_cons_self ..
   ·exact List.mem_cons_of_mem _ (List.mem_append_left _ (List.mem_cons_self ..)))).weaken ?_ (fun _ _ h=>h)
  rintro v u ⟨rfl,rfl⟩
  refine ⟨rfl,_,⟨ov,_,_,ro,_,hO',.inr ⟨.sub 2 6 (.sub 0 4 p),.inr hyou,rfl,rfl,rfl⟩,rfl⟩,fun m hm e he=>?_⟩
  have hrq:¬ Oid.ty 5 (.sub 2 6 (.sub 0 4 p)) = .ty 5 r:=fun e=>hJ _ hr (by rw [← e];exact hyou)
  have h5:¬ .ty 133 q=Oid.ty 5 r:=fun e=>by injection e with e1 _;exact absurd e1 (by decide)
  simp only [kC,List.cons_append,List.nil_append,List.mem_cons] at he
  rcases he with rfl|rfl|he
  ·simp only [Mem.aF,Mem.set,Ne.symm hq5,h5,if_true,if_false]
  ·simp only [Mem.aF,Mem.set,if_true]
  ·obtain ⟨i,e1,e2⟩:=hro e he
   have:=hm e (List.mem_cons_of_mem _ (List.mem_append_right _ he))
   rw [e1] at this ⊢
   simp only [Mem.aF,Mem.set,kD e2,if_false];exact this
end Go.Proofs.YtlfeacmbhldjcaaGreatDoor
namespace Go.Proofs.YtlfeacmbhldjcaaGreatDoor
open Go Go.Ab
set_option maxRecDepth 20000
set_option maxHeartbeats 1000000
theorem tP (q:Oid) (J:Oid→Prop) (ifs:Str) (S:Spl) (M:List (Oid × ar)) (hl:S.fld.length≤140737488355328) (hn:S.out.length≤1000000) (p:Oid) (hp:p.mono=false) (hq:¬ Oid.under p (.ty 133 q)) (hJ:∀ i,J i→¬ Oid.under p i) (hM:Rep q J ifs S M) :
  aX Tryz.prog 76 [.ptr (.ty 133 q) 0] (Oid.under p) M (fun v u=>v = .tuple []∧Leaves q (fun i=>J i∨Oid.under p i) ifs (gM S) M u) (fun _ _=>False):=by
 obtain ⟨ov,X,Y,ro,rf,hO,hF,rfl⟩:=hM
 obtain ⟨out,fld,b,g⟩:=S
 simp only at hl hn hO hF
 have hyou:Oid.under p (.sub 0 10 p):=Oid.ay (Oid.az _)
 have hq5:¬ Oid.sub 0 10 p = .ty 133 q:=fun e=>by cases e
 have hOn:∀ l:List Str,afI (fun i=>J i∨Oid.under p i) (.sl (.sub 0 10 p) 1 l.length) [(.sub 0 10 p,.arr 1 (l.map .str))] l:=fun l=>.inr ⟨_,.inr hyou,rfl,rfl,rfl⟩
 have fin:∀ (f:Str) (U:List (Oid × Option ar)) (l:List Str),l=out++[f]→f=fld→(∀ m:Mem,(m.aF U) (.ty 133 q)=some (.cells [.str ifs,.sl (.sub 0 10 p) 1 l.length,.nilPtr,.nilSl,.bool false,.bool g]))→(∀ m:Mem,(m.aF U) (.sub 0 10 p)=some (.arr 1 (l.map .str))) →
   Leaves q (fun i=>J i∨Oid.under p i) ifs (gM ⟨out,fld,b,g⟩) ((.ty 133 q,.cells [.str ifs,ov,X,Y,.bool b,.bool g])::(rf++ro)) U:=by
  rintro f U l rfl rfl h1 h2
  refine ⟨_,⟨_,_,_,_,_,hOn _,.inl ⟨rfl,rfl,rfl,rfl⟩,rfl⟩,fun m _ e he=>?_⟩
  simp only [gM,List.nil_append,List.mem_cons,List.not_mem_nil,or_false] at he
  rcases he with rfl|rfl
  ·exact h1 m
  ·exact h2 m
 rcases hO with ⟨rfl,rfl,rfl⟩|⟨r0,h0,ht,rfl,rfl⟩
 ·rcases hF with ⟨rfl,rfl,rfl,rfl⟩|⟨r,hr,rfl,rfl,rfl⟩
  ·refine (gP (nE q (.str ifs) (.bool b) (.bool g) p hq) (fun e he=>by simpa using he)).weaken ?_ (fun _ _ h=>h)
   rintro v u ⟨rfl,rfl⟩
   refine ⟨rfl,fin [] _ _ rfl rfl (fun m=>?_) (fun m=>?_)⟩
   ·simp only [Mem.aF,Mem.set,if_true,if_false,Ne.symm hq5];rfl
   ·simp only [Mem.aF,Mem.set,if_true];rfl
  ·by_cases hf:fld=[]
   ·subst hf
    refine (gP (p5 q (.str ifs) (.bool b) (.bool g) (.ty 5 r) (.ptr (.ty 133 q) 2) p hp hq) (fun e he=>by rw [List.mem_singleton.1 he];exact List.mem_cons_self ..)).weaken ?_ (fun _ _ h=>h)
    rintro v u ⟨rfl,rfl⟩
    refine ⟨rfl,fin [] _ _ rfl rfl (fun m=>?_) (fun m=>?_)⟩
    ·simp only [Mem.aF,Mem.set,if_true,if_false,Ne.symm hq5];rfl
    ·simp only [Mem.aF,Mem.set,if_true];rfl
   ·have h5:¬ .ty 133 q=Oid.ty 5 r:=fun e=>by injection e with e1 _;exact absurd e1 (by decide)
    refine (gP (p6 q (.str ifs) (.bool b) (.bool g) r fld (List.length_pos_iff.2 hf) hl p hq (hJ _ hr)) (fun e he=>by simpa using he)).weaken ?_ (fun _ _ h=>h)
    rintro v u ⟨rfl,rfl⟩
    refine ⟨rfl,fin fld _ _ rfl rfl (fun m=>?_) (fun m=>?_)⟩
    ·simp only [Mem.aF,Mem.set,if_true,if_false,Ne.symm hq5,h5];rfl
    ·simp only [Mem.aF,Mem.set,if_true];rfl
 ·have hqo:¬ r0 = .ty 133 q:=kD ht
  have hqo':¬ .ty 133 q=r0:=Ne.symm hqo
  rcases hF with ⟨rfl,rfl,rfl,rfl⟩|⟨r,hr,rfl,rfl,rfl⟩
  ·refine (gP (mV q r0 (.str ifs) (.bool b) (.bool g) out hn p hq (hJ _ h0) hqo) (fun e he=>by simpa using he)).weaken ?_ (fun _ _ h=>h)
   rintro v u ⟨rfl,rfl⟩
   refine ⟨rfl,fin [] _ _ rfl rfl (fun m=>?_) (fun m=>?_)⟩
   ·simp only [Mem.aF,Mem.set,if_true,if_false,Ne.symm hq5,hqo']
   ·simp only [Mem.aF,Mem.set,if_true]
  ·by_cases hf:fld=[]
   ·subst hf
    refine (gP (nF q r0 (.str ifs) (.bool b) (.bool g) out hn (.ty 5 r) (.ptr (.ty 133 q) 2) p hp hq (hJ _ h0) hqo) (fun e he=>by
     simp only [List.mem_cons,List.not_mem_nil,or_false] at he
     rcases he with rfl|rfl
     ·exact List.mem_cons_self ..
     ·exact List.mem_cons_of_mem _ (List.mem_append_right _ (List.mem_cons_self ..)))).weaken ?_ (fun _ _ h=>h)
    rintro v u ⟨rfl,rfl⟩
    refine ⟨rfl,fin [] _ _ rfl rfl (fun m=>?_) (fun m=>?_)⟩
    ·simp only [Mem.aF,Mem.set,if_true,if_false,Ne.symm hq5,hqo']
    ·simp only [Mem.aF,Mem.set,if_true]
   ·have h5:¬ .ty 133 q=Oid.ty 5 r:=fun e=>by injection e with e1 _;exact absurd e1 (by decide)
    refine (gP (nG q r0 (.str ifs) (.bool b) (.bool g) out hn r fld (List.length_pos_iff.2 hf) hl p hq (hJ _ h0) hqo (hJ _ hr) (kD ht)) (fun e he=>by simpa using he)).weaken ?_ (fun _ _ h=>h)
    rintro v u ⟨rfl,rfl⟩
    refine ⟨rfl,fin fld _ _ rfl rfl (fun m=>?_) (fun m=>?_)⟩
    ·simp only [Mem.aF,Mem.set,if_true,if_false,Ne.symm hq5,hqo',h5]
    ·simp only [Mem.aF,Mem.set,if_true]
end Go.Proofs.YtlfeacmbhldjcaaGreatDoor
namespace Go.Proofs.YtlfeacmbhldjcaaGreatDoor
open Go Go.Ab
set_option maxRecDepth 20000
set_option maxHeartbeats 4000000
theorem XI {g:Gh} {w:World} (h:mo Tryz.prog g w):∃ m,w.cell? ⟨0,0,none⟩=some (.int .i64 m):=by
 obtain ⟨_,_,⟨m,h7⟩,_⟩:=h.facts
 exact ⟨m,h.com _ _ _ h7⟩
theorem VRs.three {g:Gh} {x y z:AV} {args:Array Value} (h:VRs g [x,y,z] args):∃ v u t,args=#[v,u,t]∧VR g x v∧VR g y u∧VR g z t:=by
 obtain ⟨h1,h2⟩:=h
 refine ⟨args.getD 0 undef,args.getD 1 undef,args.getD 2 undef,?_,h2 0 (by simp),h2 1 (by simp),h2 2 (by simp)⟩
 apply Array.ext
 ·rw [h1];rfl
 ·intro i hi hj
  have hs:args.size=3:=h1
  match i,hj with
  | 0,_=>simp [Array.getD_eq_getD_getElem?,Array.getElem?_eq_getElem hi]
  | 1,_=>simp [Array.getD_eq_getD_getElem?,Array.getElem?_eq_getElem hi]
  | 2,_=>simp [Array.getD_eq_getD_getElem?,Array.getElem?_eq_getElem hi]
def gR (s:Str):Str:=Lib.replaceAll s [92] [92,92]
theorem nH (s:Str) (hl:s.length≤1000000) (p:Oid) (hp:p.mono=false):aA Tryz.prog 124 [.str s,.str [92],.str [92,92]] (Oid.under p) ⟨[],.str (gR s),[]⟩ :=
 gz (by kernel_rfl) hp fun g args w ha ht=>by
  obtain ⟨v1,v2,v3,rfl,h1,h2,h3⟩:=VRs.three ha
  obtain ⟨b,rfl,hb⟩:=h1.bf
  obtain ⟨d,rfl,hd⟩:=h2.bf
  obtain ⟨e,rfl,he⟩:=h3.bf
  obtain rfl:d=⟨#[92]⟩:=by cases d with|mk a=>cases a with|mk l=>simp only at hd;rw [hd]
  obtain rfl:e=⟨#[92,92]⟩:=by cases e with|mk a=>cases a with|mk l=>simp only at he;rw [he]
  obtain ⟨m,hm⟩:=XI ht
  have hsz:b.size=s.length:=by rw [← hb];rfl
  have hc:=Lib.countB_mul_le ⟨#[92]⟩ (by decide) b.size b (Nat.le_refl _)
  have h1s:(ByteArray.mk #[92]).size=1:=rfl
  have h2s:(ByteArray.mk #[92,92]).size=2:=rfl
  refine (Tryz.strings_ReplaceAll b ⟨#[92]⟩ ⟨#[92,92]⟩ m w (by omega) hm (by decide) (by rw [h2s];rw [h1s] at hc;omega)).mono ?_
  rintro e w' ⟨rfl,hB⟩
  exact ⟨_,rfl,by rw [hb];exact .str _ _ rfl,hB⟩
theorem kE (s:Str) (hl:s.length≤1000000) (p:Oid) (hp:p.mono=false):aA Tryz.prog 81 [.str s] (Oid.under p) ⟨[],.str (gR s),[]⟩:=by
 have hR:=fun p hp=>nH s hl p hp
 refine aN (n:=5) (rs:=[.tmp 2]) Tryz.func81 rfl rfl (by decide) rfl rfl rfl ?_;rintro x rfl hrd hng
 refine qw0 ?_
 refine qr1 (hR _) ?_
 refine qw0 ?_
 exact aC (aT rfl)
end Go.Proofs.YtlfeacmbhldjcaaGreatDoor
namespace Go.Proofs.YtlfeacmbhldjcaaGreatDoor
open Go Go.Ab
set_option maxRecDepth 20000
set_option maxHeartbeats 1000000
def nI (M M':List (Oid × ar)):List (Oid × Option ar):=M.map (fun e=>(e.1,none))++M'.map (fun e=>(e.1,some e.2))
def sv (M:List (Oid × ar)):Prop:=∀ e,e ∈ M→∀ e',e' ∈ M→e.1=e'.1→e=e'
theorem p7 {M M':List (Oid × ar)} (hf:sv M') (m:Mem) (e:Oid × ar) (he:e ∈ M'):(m.aF (nI M M')) e.1=some e.2:=by
 rw [nI,bZ]
 obtain ⟨q',k1,k2,k3⟩:=ee (m:=m.aF (M.map fun e=>(e.1,none))) (u:=M'.map fun e=>(e.1,some e.2)) (i:=e.1) ⟨(e.1,some e.2),List.mem_map.2 ⟨e,he,rfl⟩,rfl⟩
 obtain ⟨e',h1,rfl⟩:=List.mem_map.1 k1
 rw [k3,hf e' h1 e he k2]
theorem sx {M M':List (Oid × ar)} {i:Oid} {o:ar} (h:((Mem.of M).aF (nI M M')) i=some o):(i,o) ∈ M':=by
 rw [nI,bZ] at h
 by_cases hk:∃ q ∈ M'.map (fun e=>(e.1,some e.2)),q.1=i
 ·obtain ⟨q',k1,k2,k3⟩:=ee (m:=(Mem.of M).aF (M.map fun e=>(e.1,none))) hk
  obtain ⟨e',h1,rfl⟩:=List.mem_map.1 k1
  rw [k3] at h
  simp only [Option.some.injEq] at h
  simp only at k2
  subst h;subst k2;exact h1
 ·rw [aU fun q hq e=>hk ⟨q,hq,e⟩] at h
  by_cases hk2:∃ q ∈ M.map (fun e=>(e.1,(none:Option ar))),q.1=i
  ·obtain ⟨q',k1,k2,k3⟩:=ee (m:=Mem.of M) hk2
   obtain ⟨e',h1,rfl⟩:=List.mem_map.1 k1
   rw [k3] at h;cases h
  ·rw [aU fun q hq e=>hk2 ⟨q,hq,e⟩] at h
   obtain ⟨q,k1,rfl,rfl⟩:=Mem.dK h
   exact absurd ⟨(q.1,none),List.mem_map.2 ⟨q,k1,rfl⟩,rfl⟩ hk2
theorem Rep.func {q:Oid} {J:Oid→Prop} {ifs:Str} {S:Spl} {M:List (Oid × ar)} (h:Rep q J ifs S M):sv M:=by
 obtain ⟨ov,X,Y,ro,rf,h1,h2,rfl⟩:=h
 have h5:∀ r,¬ .ty 133 q=Oid.ty 5 r:=fun r e=>by injection e with e1 _;exact absurd e1 (by decide)
 have h5':∀ r,¬ Oid.ty 5 r = .ty 133 q:=fun r e=>h5 r e.symm
 rcases h1 with ⟨_,_,rfl⟩|⟨r0,_,ht,_,rfl⟩
 ·rcases h2 with ⟨_,_,_,rfl⟩|⟨r,_,_,_,rfl⟩
  ·intro e he e' he' _
   simp only [List.append_nil,List.mem_cons,List.not_mem_nil,or_false] at he he'
   rw [he,he']
  ·intro e he e' he' k
   simp only [List.append_nil,List.mem_cons,List.not_mem_nil,or_false] at he he'
   rcases he with rfl|rfl<;>rcases he' with rfl|rfl
   ·rfl
   ·exact absurd k (h5 r)
   ·exact absurd k (h5' r)
   ·rfl
 ·have hq0:=kD (t:=133) (b:=q) ht
  rcases h2 with ⟨_,_,_,rfl⟩|⟨r,_,_,_,rfl⟩
  ·intro e he e' he' k
   simp only [List.nil_append,List.mem_cons,List.not_mem_nil,or_false] at he he'
   rcases he with rfl|rfl<;>rcases he' with rfl|rfl
   ·rfl
   ·exact absurd k.symm hq0
   ·exact absurd k hq0
   ·rfl
  ·have h50:=kD (t:=5) (b:=r) ht
   intro e he e' he' k
   simp only [List.cons_append,List.nil_append,List.mem_cons,List.not_mem_nil,or_false] at he he'
   rcases he with rfl|rfl|rfl<;>rcases he' with rfl|rfl|rfl
   ·rfl
   ·exact absurd k (h5 r)
   ·exact absurd k.symm hq0
   ·exact absurd k (h5' r)
   ·rfl
   ·exact absurd k.symm h50
   ·exact absurd k hq0
   ·exact absurd k h50
   ·rfl
theorem Rep.leaves {q:Oid} {J:Oid→Prop} {ifs:Str} {S:Spl} {M M':List (Oid × ar)} (h:Rep q J ifs S M'):Leaves q J ifs S M (nI M M'):=⟨M',h,fun m _ e he=>p7 h.func m e he⟩
theorem bA {P:Program} {rs:List ResultVar} {R Rp:AV→List (Oid × Option ar)→Prop} {fr:List (Nat × AV)} {m:Mem} {c:Nat} {M M':List (Oid × ar)} (val:AV) (h1:ib P m fr rs=some val) (h2:R val (nI M M')) (hm:∀ e,e ∈ M'→m e.1=some e.2):eZ P rs M R Rp .normal ⟨fr,m,c,[]⟩ :=
 bc val _ h1 h2 fun _ _ h=>hm _ (sx h)
def Old (p:Oid) (c:Nat) (i:Oid):Prop:=∀ c' j,c≤c'→¬ Oid.under (.sub c' j p) i
theorem Old.mono {p:Oid} {c d:Nat} {i:Oid} (h:Old p c i) (hc:c≤d):Old p d i:=fun c' j k=>h c' j (Nat.le_trans hc k)
theorem Old.made {p:Oid} {c j:Nat} {i:Oid} (h:Oid.under (.sub c j p) i):Old p (c+1) i:=fun c' j' hc k=>by
 have:=Oid.cE h k rfl
 injection this with e1 _ _
 omega
theorem Old.next {p:Oid} {c j:Nat} {i:Oid} (h:Old p c i∨Oid.under (.sub c j p) i):Old p (c+1) i:=h.elim (fun h=>h.mono (Nat.le_succ c)) Old.made
theorem Old.at {p:Oid} {c:Nat} {i:Oid} (h:Old p c i) (j:Nat):¬ Oid.under (.sub c j p) i:=h c j (Nat.le_refl c)
def hasB (s:Str) (c:UInt8):Bool:=decide (0≤Lib.indexByte s c)
def splitB (ifs:Str) (x:Spl) (c:UInt8):Spl :=
 if hasB ifs c=false then kC (gR [c]) x
 else if hasB [32,9,10] c=true then (if x.b=true then { gM x with g:=true } else x)
 else if x.b=true∨x.g=false then { gM x with g:=false } else { x with g:=false }
theorem sy (c:UInt8):(gR [c]).length≤2:=by
 have:∀ n:Fin 256,(gR [UInt8.ofNat n.1]).length≤2:=by decide +kernel
 have h:=this ⟨c.toNat,c.toNat_lt⟩
 simpa using h
end Go.Proofs.YtlfeacmbhldjcaaGreatDoor
