/- A part of the proof: the texts KL, KM, FwS, SortT, Z14, Z18, ShelfB, Z19a, Z19, Z20, Z24, Z29, K9, K10, Z30, K11, K12, Z21, Z22, Z23, Z27, Z28, one behind the other. -/
import Derived.Test.YtmoaidkglldhcaaGreatDoorPHe
import Derived.Shelf.SlSortCmp.WholeK
import Derived.Shelf.SlLaysF0
import Derived.Test.YtmoaidkglldhcaaGreatDoorProg
import Derived.Shelf.Small.Bits
set_option linter.unusedVariables false
set_option linter.unusedSimpArgs false
set_option linter.unusedSectionVars false
namespace Go.Proofs.YtmoaidkglldhcaaGreatDoor
open Go Go.Ab
set_option maxRecDepth 20000
set_option maxHeartbeats 8000000
section
variable {pp st:Oid} {N:List Oid} {F F1 F2:Oid→ao} {L:PL} (hK:KL L) (hm:∀ n,0≤(aF L n).m∧(aF L n).m≤7) {cwd:Str} (hc:cwd.length≤1000000) (um:Int) (hpN:pp ∉ N) {p:Oid} (hp:p.mono=false) (hpp:¬ Oid.under p pp) (hO:a8 p N)
include hK hm hc hpN hp hpp hO
theorem Bd (path:Str) (hpath:path.length≤4000000000) (nk nm:Int) (nl:Str) (hA:RR' st N L (eO L cwd path ⟨nk,nm,nl⟩).1 F F1) (hP:PR st N (bG (eO L cwd path ⟨nk,nm,nl⟩).2) F1 F2) :
  ah Tryz.prog 52 [.ptr pp 0,.str path,.agg [.int .i64 nk,.int .i64 nm,.str nl]] (Oid.under p) ⟨(pp,prC st cwd um)::bk (N,F),.int .i64 (aI (eO L cwd path ⟨nk,nm,nl⟩).2),sb N F2⟩:=by
 have hf:=fun F' h p hp hpp hO=>dv (pp:=pp) (st:=st) (N:=N) (F:=F) (F':=F') hK path cwd um false hpN hc hpath h p hp hpp hO
 have hne:=dN hK (cwd:=cwd) path false
 have hlen:=cm hK hc path false
 unfold eO at hA hP ⊢
 rcases kB L cwd path false with ⟨rd,e,h1⟩|⟨rd,pl,ek,em,el,h1⟩
 ·rw [h1] at hA hP ⊢
  rw [h1] at hf hne
  simp only [a7] at hA hP ⊢
  obtain rfl:F1=F2:=hP
  have e0:¬ e=0:=hne _ rfl
  have hf':=hf _ hA
  unfold prC at hf' ⊢
  simp only [fnV,rdB,Bits.no,aI] at hf'
  refine aD (n:=37) (rs:=[.tmp 6]) Tryz.func52 rfl rfl (by decide) rfl rfl rfl ?_;rintro x rfl hrd hng
  rw [aB]
  refine kr0 ?_
  refine kr1 hf' ?_
  refine kw e0 ?_
  exact kq
 ·rw [h1] at hA hP ⊢
  rw [h1] at hf hlen
  simp only [bD] at hA hP ⊢
  have hpl:=hlen _ rfl
  simp only at hpl
  obtain ⟨F0,hA1,hA2⟩:=bf hA
  by_cases c1:ek=0
  case neg =>
   rw [if_pos c1] at hA2 hP ⊢
   obtain rfl:F0=F1:=hA2
   obtain rfl:F0=F2:=hP
   have hf':=hf _ hA1
   unfold prC at hf' ⊢
   simp only [fnV,rdB,Bits.no,aI] at hf'
   refine aD (n:=37) (rs:=[.tmp 6]) Tryz.func52 rfl rfl (by decide) rfl rfl rfl ?_;rintro x rfl hrd hng
   rw [aB]
   refine kr0 ?_
   refine kr1 hf' ?_
   refine kw c1 ?_
   exact kq
  rw [if_neg (fun h=>h c1)] at hA2 hP ⊢
  simp only [bW] at hA2 hP ⊢
  subst c1
  have hrm:=fun p hp hpp hO=>er (pp:=pp) (st:=st) (N:=N) (F:=F0) (F1:=F1) (L:=L) (cwd:=cwd) um hpN (p:=p) hp hpp hO hm pl hpl hA2
  unfold prC at hrm
  generalize bV pl (aF L (aP pl))=g at hrm hP ⊢
  by_cases g0:g=0
  case neg =>
   rw [if_pos g0] at hP ⊢
   obtain rfl:F1=F2:=hP
   have hf':=hf _ hA1
   unfold prC at hf' ⊢
   simp only [fnV,rdB,Bits.no,aI] at hf'
   refine aD (n:=37) (rs:=[.tmp 6]) Tryz.func52 rfl rfl (by decide) rfl rfl rfl ?_;rintro x rfl hrd hng
   rw [aB]
   refine kr0 ?_
   refine kr1 hf' ?_
   refine kw0 ?_
   refine kr1 hrm ?_
   refine kw g0 ?_
   exact kq
  rw [if_neg (fun h=>h g0)] at hP ⊢
  obtain ⟨_,hput,rfl⟩:=hP
  rename_i F2
  have hput':∀ p,p.mono=false→a8 p N→ah Tryz.prog 26 [.ptr st 0,.str pl,.agg [.int .i64 nk,.int .i64 nm,.str nl]] (Oid.under p) ⟨bk (N,F1),.tuple [],sb N F2⟩:=hput
  have hf':=hf _ hA1
  unfold prC at hf' ⊢
  simp only [fnV,rdB,Bits.no,aI] at hf'
  refine aD (n:=37) (rs:=[.tmp 6]) Tryz.func52 rfl rfl (by decide) rfl rfl rfl ?_;rintro x rfl hrd hng
  rw [aB]
  refine kr0 ?_
  refine kr1 hf' ?_
  refine kw0 ?_
  refine kr1 hrm ?_
  refine kw g0 ?_
  refine kd (.d [] [] [5]) trivial (cq hput' trivial) ?_
  refine kw0 ?_
  exact kq
theorem Be (path:Str) (hpath:path.length≤4000000000) (hA:RR' st N L (cS L cwd path).1 F F1) (hP:PR st N (bG (cS L cwd path).2) F1 F2) :
  ah Tryz.prog 64 [.ptr pp 0,.str path] (Oid.under p) ⟨(pp,prC st cwd um)::bk (N,F),.int .i64 (aI (cS L cwd path).2),sb N F2⟩:=by
 have hf:=fun F' h p hp hpp hO=>dv (pp:=pp) (st:=st) (N:=N) (F:=F) (F':=F') hK path cwd um false hpN hc hpath h p hp hpp hO
 have hne:=dN hK (cwd:=cwd) path false
 have hlen:=cm hK hc path false
 unfold cS at hA hP ⊢
 rcases dh L cwd path false with ⟨rd,e,h1,h2⟩|⟨rd,pl,ek,em,el,h1,h0,h2⟩|⟨rd,pl,ek,em,el,h1,h0,h2⟩
 ·rw [h2] at hA hP ⊢
  rw [h1] at hf hne
  simp only [a7] at hA hP ⊢
  obtain rfl:F1=F2:=hP
  have e0:¬ e=0:=hne _ rfl
  have hf':=hf _ hA
  unfold prC at hf' ⊢
  simp only [fnV,rdB,Bits.no,aI] at hf'
  refine aD (n:=41) (rs:=[.tmp 4]) Tryz.func64 rfl rfl (by decide) rfl rfl rfl ?_;rintro x rfl hrd hng
  rw [aB]
  refine kr0 ?_
  refine kr1 hf' ?_
  refine kw e0 ?_
  exact kq
 ·rw [h2] at hA hP ⊢
  rw [h1] at hf hne
  simp only [a7] at hA hP ⊢
  obtain rfl:F1=F2:=hP
  have hf':=hf _ hA
  unfold prC at hf' ⊢
  simp only [fnV,rdB,Bits.no,aI] at hf'
  refine aD (n:=41) (rs:=[.tmp 4]) Tryz.func64 rfl rfl (by decide) rfl rfl rfl ?_;rintro x rfl hrd hng
  rw [aB]
  refine kr0 ?_
  refine kr1 hf' ?_
  refine kw h0 ?_
  exact kq
 ·rw [h2] at hA hP ⊢
  rw [h1] at hf hne hlen
  simp only [bD] at hA hP ⊢
  have hpl:=hlen _ rfl
  simp only at hpl
  obtain ⟨F0,hA1,hA2⟩:=bf hA
  by_cases c1:ek=2
  ·rw [if_pos c1] at hA2 hP ⊢
   obtain rfl:F0=F1:=hA2
   obtain rfl:F0=F2:=hP
   have hf':=hf _ hA1
   unfold prC at hf' ⊢
   simp only [fnV,rdB,Bits.no,aI] at hf'
   refine aD (n:=41) (rs:=[.tmp 4]) Tryz.func64 rfl rfl (by decide) rfl rfl rfl ?_;rintro x rfl hrd hng
   rw [aB]
   refine kr0 ?_
   refine kr1 hf' ?_
   (repeat (first|(refine aA rfl rfl ?_)|(refine az rfl rfl ?_)|(refine ar nmd [] hng (by kernel_rfl) fun hf C S K hC1 hC hS hK=>?_;simp (disch:=first|omega|assumption) only [go_sem,Oid.ab hpp,Oid.aa hpp,hpN,hO,h0,c1,fJ,eq_self,decide_true,decide_false,ne_eq,not_true_eq_false,not_false_eq_true];refine hK ?_;clear hK hS hC hC1 K S C hf)|((first|refine zn ?_|refine ze ?_|refine zk ?_);with_reducible (constructor;repeat constructor);try refine zl ?_)))
   exact kq
  rw [if_neg c1] at hA2 hP ⊢
  simp only [bW] at hA2 hP ⊢
  have hrm:=fun p hp hpp hO=>er (pp:=pp) (st:=st) (N:=N) (F:=F0) (F1:=F1) (L:=L) (cwd:=cwd) um hpN (p:=p) hp hpp hO hm pl hpl hA2
  unfold prC at hrm
  generalize bV pl (aF L (aP pl))=g at hrm hP ⊢
  by_cases g0:g=0
  case neg =>
   rw [if_pos g0] at hP ⊢
   obtain rfl:F1=F2:=hP
   have hf':=hf _ hA1
   unfold prC at hf' ⊢
   simp only [fnV,rdB,Bits.no,aI] at hf'
   refine aD (n:=41) (rs:=[.tmp 4]) Tryz.func64 rfl rfl (by decide) rfl rfl rfl ?_;rintro x rfl hrd hng
   rw [aB]
   refine kr0 ?_
   refine kr1 hf' ?_
   refine kw (ai h0 c1) ?_
   refine kr1 hrm ?_
   refine kw (ai g0 (ai h0 c1)) ?_
   exact kq
  rw [if_neg (fun h=>h g0)] at hP ⊢
  obtain ⟨_,hput,rfl⟩:=hP
  rename_i F2
  have hput':∀ p,p.mono=false→a8 p N→ah Tryz.prog 26 [.ptr st 0,.str pl,.agg [.int .i64 0,.int .i64 0,.str []]] (Oid.under p) ⟨bk (N,F1),.tuple [],sb N F2⟩:=hput
  have hf':=hf _ hA1
  unfold prC at hf' ⊢
  simp only [fnV,rdB,Bits.no,aI] at hf'
  refine aD (n:=41) (rs:=[.tmp 4]) Tryz.func64 rfl rfl (by decide) rfl rfl rfl ?_;rintro x rfl hrd hng
  rw [aB]
  refine kr0 ?_
  refine kr1 hf' ?_
  refine kw (ai h0 c1) ?_
  refine kr1 hrm ?_
  refine kw (ai g0 (ai h0 c1)) ?_
  refine kr1 hput' ?_
  refine kw0 ?_
  exact kq
theorem Du (path:Str) (hpath:path.length≤4000000000) (hA:RR' st N L (dK L cwd path).1 F F1) (hP:PR st N (bG (dK L cwd path).2) F1 F2) :
  ah Tryz.prog 65 [.ptr pp 0,.str path] (Oid.under p) ⟨(pp,prC st cwd um)::bk (N,F),.int .i64 (aI (dK L cwd path).2),sb N F2⟩:=by
 have hf:=fun F' h p hp hpp hO=>dv (pp:=pp) (st:=st) (N:=N) (F:=F) (F':=F') hK path cwd um false hpN hc hpath h p hp hpp hO
 have hne:=dN hK (cwd:=cwd) path false
 have hlen:=cm hK hc path false
 unfold dK at hA hP ⊢
 rcases dh L cwd path false with ⟨rd,e,h1,h2⟩|⟨rd,pl,ek,em,el,h1,h0,h2⟩|⟨rd,pl,ek,em,el,h1,h0,h2⟩
 ·rw [h2] at hA hP ⊢
  rw [h1] at hf hne
  simp only [a7] at hA hP ⊢
  obtain rfl:F1=F2:=hP
  have e0:¬ e=0:=hne _ rfl
  have hf':=hf _ hA
  unfold prC at hf' ⊢
  simp only [fnV,rdB,Bits.no,aI] at hf'
  refine aD (n:=60) (rs:=[.tmp 4]) Tryz.func65 rfl rfl (by decide) rfl rfl rfl ?_;rintro x rfl hrd hng
  rw [aB]
  refine kr0 ?_
  refine kr1 hf' ?_
  refine kw e0 ?_
  exact kq
 ·rw [h2] at hA hP ⊢
  rw [h1] at hf hne
  simp only [a7] at hA hP ⊢
  obtain rfl:F1=F2:=hP
  have hf':=hf _ hA
  unfold prC at hf' ⊢
  simp only [fnV,rdB,Bits.no,aI] at hf'
  refine aD (n:=60) (rs:=[.tmp 4]) Tryz.func65 rfl rfl (by decide) rfl rfl rfl ?_;rintro x rfl hrd hng
  rw [aB]
  refine kr0 ?_
  refine kr1 hf' ?_
  refine kw h0 ?_
  exact kq
 ·rw [h2] at hA hP ⊢
  rw [h1] at hf hne hlen
  simp only [bD] at hA hP ⊢
  have hpl:=hlen _ rfl
  simp only at hpl
  obtain ⟨F0,hA1,hA2⟩:=bf hA
  by_cases c1:ek=2
  case neg =>
   rw [if_pos c1] at hA2 hP ⊢
   obtain rfl:F0=F1:=hA2
   obtain rfl:F0=F2:=hP
   have hf':=hf _ hA1
   unfold prC at hf' ⊢
   simp only [fnV,rdB,Bits.no,aI] at hf'
   refine aD (n:=60) (rs:=[.tmp 4]) Tryz.func65 rfl rfl (by decide) rfl rfl rfl ?_;rintro x rfl hrd hng
   rw [aB]
   refine kr0 ?_
   refine kr1 hf' ?_
   refine kw (ai h0 c1) ?_
   exact kq
  rw [if_neg (fun h=>h c1)] at hA2 hP ⊢
  by_cases c2:pl=cwd
  ·rw [if_pos (.inl c2)] at hA2 hP ⊢
   obtain rfl:F0=F1:=hA2
   obtain rfl:F0=F2:=hP
   have hf':=hf _ hA1
   unfold prC at hf' ⊢
   simp only [fnV,rdB,Bits.no,aI] at hf'
   refine aD (n:=60) (rs:=[.tmp 4]) Tryz.func65 rfl rfl (by decide) rfl rfl rfl ?_;rintro x rfl hrd hng
   rw [aB]
   refine kr0 ?_
   refine kr1 hf' ?_
   (repeat (first|(refine aA rfl rfl ?_)|(refine az rfl rfl ?_)|(refine ar nmd [] hng (by kernel_rfl) fun hf C S K hC1 hC hS hK=>?_;simp (disch:=first|omega|assumption) only [go_sem,Oid.ab hpp,Oid.aa hpp,hpN,hO,h0,c1,c2,fJ,eq_self,decide_true,decide_false,ne_eq,not_true_eq_false,not_false_eq_true];refine hK ?_;clear hK hS hC hC1 K S C hf)|((first|refine zn ?_|refine ze ?_|refine zk ?_);with_reducible (constructor;repeat constructor);try refine zl ?_)))
   refine ar nmd [(6,35)] hng (by kernel_rfl) fun hf C S K hC1 hC hS hK=>?_;simp (disch:=first|omega|assumption) only [go_sem,Oid.ab hpp,Oid.aa hpp,hpN,hO,h0,c1,c2,fJ,eq_self,decide_true,decide_false,ne_eq,not_true_eq_false,not_false_eq_true]
   refine hK ?_;clear hK hS hC hC1 K S C hf
   (repeat (first|(refine aA rfl rfl ?_)|(refine az rfl rfl ?_)|(refine ar nmd [] hng (by kernel_rfl) fun hf C S K hC1 hC hS hK=>?_;simp (disch:=first|omega|assumption) only [go_sem,Oid.ab hpp,Oid.aa hpp,hpN,hO,h0,c1,c2,fJ,eq_self,decide_true,decide_false,ne_eq,not_true_eq_false,not_false_eq_true];refine hK ?_;clear hK hS hC hC1 K S C hf)|((first|refine zn ?_|refine ze ?_|refine zk ?_);with_reducible (constructor;repeat constructor);try refine zl ?_)))
   exact kq
  by_cases c3:pl=[]
  ·rw [if_pos (.inr c3)] at hA2 hP ⊢
   obtain rfl:F0=F1:=hA2
   subst c3
   obtain rfl:F0=F2:=hP
   have hf':=hf _ hA1
   unfold prC at hf' ⊢
   simp only [fnV,rdB,Bits.no,aI] at hf'
   refine aD (n:=60) (rs:=[.tmp 4]) Tryz.func65 rfl rfl (by decide) rfl rfl rfl ?_;rintro x rfl hrd hng
   rw [aB]
   refine kr0 ?_
   refine kr1 hf' ?_
   (repeat (first|(refine aA rfl rfl ?_)|(refine az rfl rfl ?_)|(refine ar nmd [] hng (by kernel_rfl) fun hf C S K hC1 hC hS hK=>?_;simp (disch:=first|omega|assumption) only [go_sem,Oid.ab hpp,Oid.aa hpp,hpN,hO,h0,c1,c2,fJ,eq_self,decide_true,decide_false,ne_eq,not_true_eq_false,not_false_eq_true];refine hK ?_;clear hK hS hC hC1 K S C hf)|((first|refine zn ?_|refine ze ?_|refine zk ?_);with_reducible (constructor;repeat constructor);try refine zl ?_)))
   refine ar nmd [(6,35)] hng (by kernel_rfl) fun hf C S K hC1 hC hS hK=>?_;simp (disch:=first|omega|assumption) only [go_sem,Oid.ab hpp,Oid.aa hpp,hpN,hO,h0,c1,c2,fJ,eq_self,decide_true,decide_false,ne_eq,not_true_eq_false,not_false_eq_true]
   refine hK ?_;clear hK hS hC hC1 K S C hf
   (repeat (first|(refine aA rfl rfl ?_)|(refine az rfl rfl ?_)|(refine ar nmd [] hng (by kernel_rfl) fun hf C S K hC1 hC hS hK=>?_;simp (disch:=first|omega|assumption) only [go_sem,Oid.ab hpp,Oid.aa hpp,hpN,hO,h0,c1,c2,fJ,eq_self,decide_true,decide_false,ne_eq,not_true_eq_false,not_false_eq_true];refine hK ?_;clear hK hS hC hC1 K S C hf)|((first|refine zn ?_|refine ze ?_|refine zk ?_);with_reducible (constructor;repeat constructor);try refine zl ?_)))
   exact kq
  rw [if_neg (fun h=>h.elim c2 c3)] at hA2 hP ⊢
  obtain ⟨F0n,hAn,hA3⟩:∃ F0n,RR' st N L [(pl,true)] F0 F0n∧RR' st N L (if aU L pl=[] then [(aP pl,false)] else []) F0n F1:=by
   by_cases c4:aU L pl=[]
   ·rw [c4] at hA2
    obtain ⟨G,k1,k2⟩:=hA2
    refine ⟨G,⟨G,k1,rfl⟩,?_⟩
    rw [if_pos c4]
    exact k2
   ·simp only [a7,if_pos c4] at hA2
    rw [if_neg c4]
    exact ⟨F1,hA2,rfl⟩
  obtain ⟨_,hnm,rfl⟩:=hAn
  rename_i F0n
  have hnm':∀ p,p.mono=false→a8 p N→ah Tryz.prog 99 [.ptr st 0,.str pl] (Oid.under p) ⟨bk (N,F0),.list 1 ((aU L pl).map AV.str),sb N F0n⟩:=hnm
  generalize aU L pl=NL at hA2 hA3 hP hnm' ⊢
  cases NL with
  | cons n0 nr =>
   simp only [a7,reduceCtorEq,not_false_eq_true,if_true,if_false] at hA3 hP ⊢
   obtain rfl:F0n=F1:=hA3
   obtain rfl:F0n=F2:=hP
   have e9:(0:Int) < ((nr.length+1:Nat):Int):=by omega
   have hf':=hf _ hA1
   unfold prC at hf' ⊢
   simp only [fnV,rdB,Bits.no,aI] at hf'
   refine aD (n:=60) (rs:=[.tmp 4]) Tryz.func65 rfl rfl (by decide) rfl rfl rfl ?_;rintro x rfl hrd hng
   rw [aB]
   refine kr0 ?_
   refine kr1 hf' ?_
   (repeat (first|(refine aA rfl rfl ?_)|(refine az rfl rfl ?_)|(refine ar nmd [] hng (by kernel_rfl) fun hf C S K hC1 hC hS hK=>?_;simp (disch:=first|omega|assumption) only [go_sem,Oid.ab hpp,Oid.aa hpp,hpN,hO,h0,c1,c2,c3,fJ,eq_self,decide_true,decide_false,ne_eq,not_true_eq_false,not_false_eq_true];refine hK ?_;clear hK hS hC hC1 K S C hf)|((first|refine zn ?_|refine ze ?_|refine zk ?_);with_reducible (constructor;repeat constructor);try refine zl ?_)))
   refine ar nmd [(6,35)] hng (by kernel_rfl) fun hf C S K hC1 hC hS hK=>?_;simp (disch:=first|omega|assumption) only [go_sem,Oid.ab hpp,Oid.aa hpp,hpN,hO,h0,c1,c2,c3,fJ,eq_self,decide_true,decide_false,ne_eq,not_true_eq_false,not_false_eq_true]
   refine hK ?_;clear hK hS hC hC1 K S C hf
   (repeat (first|(refine aA rfl rfl ?_)|(refine az rfl rfl ?_)|(refine ar nmd [] hng (by kernel_rfl) fun hf C S K hC1 hC hS hK=>?_;simp (disch:=first|omega|assumption) only [go_sem,Oid.ab hpp,Oid.aa hpp,hpN,hO,h0,c1,c2,c3,fJ,eq_self,decide_true,decide_false,ne_eq,not_true_eq_false,not_false_eq_true];refine hK ?_;clear hK hS hC hC1 K S C hf)|((first|refine zn ?_|refine ze ?_|refine zk ?_);with_reducible (constructor;repeat constructor);try refine zl ?_)))
   refine ar nmd [] hng (by kernel_rfl) fun hf C S K hC1 hC hS hK=>?_;simp (disch:=first|omega|assumption) only [go_sem,Oid.ab hpp,Oid.aa hpp,hpN,hO]
   refine hC1 _ (hnm' _ (aw rfl hp) (hO.sub _ _)) (by first|exact nbu _|exact nbA (by simp [hpN,hO.mem]) _) ?_
   simp (disch:=first|omega|assumption) only [go_sem,Oid.ab hpp,Oid.aa hpp,hpN,hO,List.length_map,List.map_cons,List.length_cons,e9]
   refine hK ?_;clear hK hS hC hC1 K S C hf
   refine kw e9 ?_
   exact kq
  | nil =>
   simp only [a7,not_true_eq_false,if_true,if_false] at hA3 hP ⊢
   simp only [bW] at hP ⊢
   have hrm:=fun p hp hpp hO=>er (pp:=pp) (st:=st) (N:=N) (F:=F0n) (F1:=F1) (L:=L) (cwd:=cwd) um hpN (p:=p) hp hpp hO hm pl hpl hA3
   unfold prC at hrm
   generalize bV pl (aF L (aP pl))=g at hrm hP ⊢
   by_cases g0:g=0
   case neg =>
    rw [if_pos g0] at hP ⊢
    obtain rfl:F1=F2:=hP
    have hf':=hf _ hA1
    unfold prC at hf' ⊢
    simp only [fnV,rdB,Bits.no,aI] at hf'
    refine aD (n:=60) (rs:=[.tmp 4]) Tryz.func65 rfl rfl (by decide) rfl rfl rfl ?_;rintro x rfl hrd hng
    rw [aB]
    refine kr0 ?_
    refine kr1 hf' ?_
    (repeat (first|(refine aA rfl rfl ?_)|(refine az rfl rfl ?_)|(refine ar nmd [] hng (by kernel_rfl) fun hf C S K hC1 hC hS hK=>?_;simp (disch:=first|omega|assumption) only [go_sem,Oid.ab hpp,Oid.aa hpp,hpN,hO,h0,c1,c2,c3,fJ,eq_self,decide_true,decide_false,ne_eq,not_true_eq_false,not_false_eq_true];refine hK ?_;clear hK hS hC hC1 K S C hf)|((first|refine zn ?_|refine ze ?_|refine zk ?_);with_reducible (constructor;repeat constructor);try refine zl ?_)))
    refine ar nmd [(6,35)] hng (by kernel_rfl) fun hf C S K hC1 hC hS hK=>?_;simp (disch:=first|omega|assumption) only [go_sem,Oid.ab hpp,Oid.aa hpp,hpN,hO,h0,c1,c2,c3,fJ,eq_self,decide_true,decide_false,ne_eq,not_true_eq_false,not_false_eq_true]
    refine hK ?_;clear hK hS hC hC1 K S C hf
    (repeat (first|(refine aA rfl rfl ?_)|(refine az rfl rfl ?_)|(refine ar nmd [] hng (by kernel_rfl) fun hf C S K hC1 hC hS hK=>?_;simp (disch:=first|omega|assumption) only [go_sem,Oid.ab hpp,Oid.aa hpp,hpN,hO,h0,c1,c2,c3,fJ,eq_self,decide_true,decide_false,ne_eq,not_true_eq_false,not_false_eq_true];refine hK ?_;clear hK hS hC hC1 K S C hf)|((first|refine zn ?_|refine ze ?_|refine zk ?_);with_reducible (constructor;repeat constructor);try refine zl ?_)))
    refine ar nmd [] hng (by kernel_rfl) fun hf C S K hC1 hC hS hK=>?_;simp (disch:=first|omega|assumption) only [go_sem,Oid.ab hpp,Oid.aa hpp,hpN,hO,List.map_nil,List.length_nil]
    refine hC1 _ (hnm' _ (aw rfl hp) (hO.sub _ _)) (by first|exact nbu _|exact nbA (by simp [hpN,hO.mem]) _) ?_
    simp (disch:=first|omega|assumption) only [go_sem,Oid.ab hpp,Oid.aa hpp,hpN,hO,List.map_nil,List.length_nil]
    refine hK ?_;clear hK hS hC hC1 K S C hf
    refine kw0 ?_
    refine kr1 hrm ?_
    (repeat (first|(refine aA rfl rfl ?_)|(refine az rfl rfl ?_)|(refine ar nmd [] hng (by kernel_rfl) fun hf C S K hC1 hC hS hK=>?_;simp (disch:=first|omega|assumption) only [go_sem,Oid.ab hpp,Oid.aa hpp,hpN,hO,g0,h0,c1,c2,c3,fJ,eq_self,decide_true,decide_false,ne_eq,not_true_eq_false,not_false_eq_true];refine hK ?_;clear hK hS hC hC1 K S C hf)|((first|refine zn ?_|refine ze ?_|refine zk ?_);with_reducible (constructor;repeat constructor);try refine zl ?_)))
    exact kq
   rw [if_neg (fun h=>h g0)] at hP ⊢
   obtain ⟨_,hput,rfl⟩:=hP
   rename_i F2
   have hput':∀ p,p.mono=false→a8 p N→ah Tryz.prog 26 [.ptr st 0,.str pl,.agg [.int .i64 0,.int .i64 0,.str []]] (Oid.under p) ⟨bk (N,F1),.tuple [],sb N F2⟩:=hput
   have hf':=hf _ hA1
   unfold prC at hf' ⊢
   simp only [fnV,rdB,Bits.no,aI] at hf'
   refine aD (n:=60) (rs:=[.tmp 4]) Tryz.func65 rfl rfl (by decide) rfl rfl rfl ?_;rintro x rfl hrd hng
   rw [aB]
   refine kr0 ?_
   refine kr1 hf' ?_
   (repeat (first|(refine aA rfl rfl ?_)|(refine az rfl rfl ?_)|(refine ar nmd [] hng (by kernel_rfl) fun hf C S K hC1 hC hS hK=>?_;simp (disch:=first|omega|assumption) only [go_sem,Oid.ab hpp,Oid.aa hpp,hpN,hO,h0,c1,c2,c3,fJ,eq_self,decide_true,decide_false,ne_eq,not_true_eq_false,not_false_eq_true];refine hK ?_;clear hK hS hC hC1 K S C hf)|((first|refine zn ?_|refine ze ?_|refine zk ?_);with_reducible (constructor;repeat constructor);try refine zl ?_)))
   refine ar nmd [(6,35)] hng (by kernel_rfl) fun hf C S K hC1 hC hS hK=>?_;simp (disch:=first|omega|assumption) only [go_sem,Oid.ab hpp,Oid.aa hpp,hpN,hO,h0,c1,c2,c3,fJ,eq_self,decide_true,decide_false,ne_eq,not_true_eq_false,not_false_eq_true]
   refine hK ?_;clear hK hS hC hC1 K S C hf
   (repeat (first|(refine aA rfl rfl ?_)|(refine az rfl rfl ?_)|(refine ar nmd [] hng (by kernel_rfl) fun hf C S K hC1 hC hS hK=>?_;simp (disch:=first|omega|assumption) only [go_sem,Oid.ab hpp,Oid.aa hpp,hpN,hO,h0,c1,c2,c3,fJ,eq_self,decide_true,decide_false,ne_eq,not_true_eq_false,not_false_eq_true];refine hK ?_;clear hK hS hC hC1 K S C hf)|((first|refine zn ?_|refine ze ?_|refine zk ?_);with_reducible (constructor;repeat constructor);try refine zl ?_)))
   refine ar nmd [] hng (by kernel_rfl) fun hf C S K hC1 hC hS hK=>?_;simp (disch:=first|omega|assumption) only [go_sem,Oid.ab hpp,Oid.aa hpp,hpN,hO,List.map_nil,List.length_nil]
   refine hC1 _ (hnm' _ (aw rfl hp) (hO.sub _ _)) (by first|exact nbu _|exact nbA (by simp [hpN,hO.mem]) _) ?_
   simp (disch:=first|omega|assumption) only [go_sem,Oid.ab hpp,Oid.aa hpp,hpN,hO,List.map_nil,List.length_nil]
   refine hK ?_;clear hK hS hC hC1 K S C hf
   refine kw0 ?_
   refine kr1 hrm ?_
   (repeat (first|(refine aA rfl rfl ?_)|(refine az rfl rfl ?_)|(refine ar nmd [] hng (by kernel_rfl) fun hf C S K hC1 hC hS hK=>?_;simp (disch:=first|omega|assumption) only [go_sem,Oid.ab hpp,Oid.aa hpp,hpN,hO,g0,eq_self,h0,c1,c2,c3,fJ,eq_self,decide_true,decide_false,ne_eq,not_true_eq_false,not_false_eq_true];refine hK ?_;clear hK hS hC hC1 K S C hf)|((first|refine zn ?_|refine ze ?_|refine zk ?_);with_reducible (constructor;repeat constructor);try refine zl ?_)))
   refine kr1 hput' ?_
   refine kw0 ?_
   exact kq
omit hm in
theorem wj (path:Str) (hpath:path.length≤4000000000) (mode:Int) (hA:RR' st N L (dL L cwd path mode).1 F F1) (hP:PR st N (bG (dL L cwd path mode).2) F1 F2) :
  ah Tryz.prog 30 [.ptr pp 0,.str path,.int .i64 mode] (Oid.under p) ⟨(pp,prC st cwd um)::bk (N,F),.int .i64 (aI (dL L cwd path mode).2),sb N F2⟩:=by
 have hf:=fun F' h p hp hpp hO=>dv (pp:=pp) (st:=st) (N:=N) (F:=F) (F':=F') hK path cwd um true hpN hc hpath h p hp hpp hO
 have hne:=dN hK (cwd:=cwd) path true
 have hlen:=cm hK hc path true
 unfold dL at hA hP ⊢
 rcases dh L cwd path true with ⟨rd,e,h1,h2⟩|⟨rd,pl,ek,em,el,h1,h0,h2⟩|⟨rd,pl,ek,em,el,h1,h0,h2⟩
 ·rw [h2] at hA hP ⊢
  rw [h1] at hf hne
  simp only [a7] at hA hP ⊢
  obtain rfl:F1=F2:=hP
  have e0:¬ e=0:=hne _ rfl
  have hf':=hf _ hA
  unfold prC at hf' ⊢
  simp only [fnV,rdB,Bits.no,aI] at hf'
  refine aD (n:=44) (rs:=[.tmp 6]) Tryz.func30 rfl rfl (by decide) rfl rfl rfl ?_;rintro x rfl hrd hng
  rw [aB]
  refine kr0 ?_
  refine kr1 hf' ?_
  refine kw e0 ?_
  exact kq
 ·rw [h2] at hA hP ⊢
  rw [h1] at hf hne
  simp only [a7] at hA hP ⊢
  obtain rfl:F1=F2:=hP
  have hf':=hf _ hA
  unfold prC at hf' ⊢
  simp only [fnV,rdB,Bits.no,aI] at hf'
  refine aD (n:=44) (rs:=[.tmp 6]) Tryz.func30 rfl rfl (by decide) rfl rfl rfl ?_;rintro x rfl hrd hng
  rw [aB]
  refine kr0 ?_
  refine kr1 hf' ?_
  refine kw h0 ?_
  exact kq
 ·rw [h2] at hA hP ⊢
  rw [h1] at hf hne hlen
  simp only [bD] at hA hP ⊢
  have hpl:=hlen _ rfl
  simp only at hpl
  obtain ⟨F0,hA1,hA2⟩:=bf hA
  obtain rfl:F0=F1:=hA2
  by_cases c1:mode < 0
  ·have c1':¬ (0≤mode∧mode≤7):=by omega
   rw [if_pos c1'] at hP ⊢
   obtain rfl:F0=F2:=hP
   have hf':=hf _ hA1
   unfold prC at hf' ⊢
   simp only [fnV,rdB,Bits.no,aI] at hf'
   refine aD (n:=44) (rs:=[.tmp 6]) Tryz.func30 rfl rfl (by decide) rfl rfl rfl ?_;rintro x rfl hrd hng
   rw [aB]
   refine kr0 ?_
   refine kr1 hf' ?_
   refine kw (ai h0 c1) ?_
   refine kr (.d [] [(2,28)] []) (ai h0 c1) trivial ?_
   refine kw (ai h0 c1) ?_
   exact kq
  by_cases c2:7 < mode
  ·have c1':¬ (0≤mode∧mode≤7):=by omega
   rw [if_pos c1'] at hP ⊢
   obtain rfl:F0=F2:=hP
   have hf':=hf _ hA1
   unfold prC at hf' ⊢
   simp only [fnV,rdB,Bits.no,aI] at hf'
   refine aD (n:=44) (rs:=[.tmp 6]) Tryz.func30 rfl rfl (by decide) rfl rfl rfl ?_;rintro x rfl hrd hng
   rw [aB]
   refine kr0 ?_
   refine kr1 hf' ?_
   refine kw (ai h0 (ai c1 c2)) ?_
   refine kr (.d [] [(2,28)] []) (ai h0 (ai c1 c2)) trivial ?_
   refine kw (ai h0 (ai c1 c2)) ?_
   exact kq
  have c1':¬ ¬ (0≤mode∧mode≤7):=by omega
  rw [if_neg c1'] at hP ⊢
  by_cases c3:pl=[]
  ·rw [if_pos c3] at hP ⊢
   subst c3
   obtain rfl:F0=F2:=hP
   have hf':=hf _ hA1
   unfold prC at hf' ⊢
   simp only [fnV,rdB,Bits.no,aI] at hf'
   refine aD (n:=44) (rs:=[.tmp 6]) Tryz.func30 rfl rfl (by decide) rfl rfl rfl ?_;rintro x rfl hrd hng
   rw [aB]
   refine kr0 ?_
   refine kr1 hf' ?_
   refine kw (ai h0 (ai c1 c2)) ?_
   refine kr (.d [] [(2,28)] []) (ai h0 (ai c1 c2)) trivial ?_
   refine kw (ai h0 (ai c1 c2)) ?_
   exact kq
  rw [if_neg c3] at hP ⊢
  obtain ⟨_,hput,rfl⟩:=hP
  rename_i F2
  have hput':∀ p,p.mono=false→a8 p N→ah Tryz.prog 26 [.ptr st 0,.str pl,.agg [.int .i64 ek,.int .i64 mode,.str el]] (Oid.under p) ⟨bk (N,F0),.tuple [],sb N F2⟩:=hput
  have hf':=hf _ hA1
  unfold prC at hf' ⊢
  simp only [fnV,rdB,Bits.no,aI] at hf'
  refine aD (n:=44) (rs:=[.tmp 6]) Tryz.func30 rfl rfl (by decide) rfl rfl rfl ?_;rintro x rfl hrd hng
  rw [aB]
  refine kr0 ?_
  refine kr1 hf' ?_
  refine kw (ai h0 (ai c1 (ai c2 c3))) ?_
  refine kr (.d [] [(2,28)] []) (ai h0 (ai c1 (ai c2 c3))) trivial ?_
  refine kw (ai h0 (ai c1 (ai c2 c3))) ?_
  refine kd (.d [] [] [0,7]) trivial (cq hput' trivial) ?_
  refine kw0 ?_
  exact kq
omit hm in
theorem Dv (path:Str) (hpath:path.length≤4000000000) (hA:RR' st N L (bQ L cwd path).1 F F1) :
  ah Tryz.prog 69 [.ptr pp 0,.str path] (Oid.under p) ⟨(pp,prC st cwd um)::bk (N,F),.int .i64 (aI (bQ L cwd path).2),(pp,some (prC st (cdN cwd (bQ L cwd path).2) um))::sb N F1⟩:=by
 have hf:=fun F' h p hp hpp hO=>dv (pp:=pp) (st:=st) (N:=N) (F:=F) (F':=F') hK path cwd um true hpN hc hpath h p hp hpp hO
 have hne:=dN hK (cwd:=cwd) path true
 have hlen:=cm hK hc path true
 unfold bQ at hA ⊢
 rcases dh L cwd path true with ⟨rd,e,h1,h2⟩|⟨rd,pl,ek,em,el,h1,h0,h2⟩|⟨rd,pl,ek,em,el,h1,h0,h2⟩
 ·rw [h2] at hA ⊢
  rw [h1] at hf hne
  simp only [a7] at hA ⊢
  have e0:¬ e=0:=hne _ rfl
  have hf':=hf _ hA
  unfold prC at hf' ⊢
  simp only [fnV,rdB,Bits.no,aI] at hf'
  refine aD (n:=36) (rs:=[.tmp 4]) Tryz.func69 rfl rfl (by decide) rfl rfl rfl ?_;rintro x rfl hrd hng
  rw [aB]
  refine kr0 ?_
  refine kr1 hf' ?_
  refine kw e0 ?_
  refine ay (cX (by simp (disch:=first|omega|assumption) only [go_sem,Oid.ab hpp,Oid.aa hpp,hpN,hO,aI,cdN]) (by show _=some _;(try simp only [cdN]);simp (disch:=first|omega|assumption) only [go_sem,Oid.ab hpp,Oid.aa hpp,hpN,hO]) (by first|exact nbu _|exact nbA (by simp [hpN,hO.mem]) _))
 ·rw [h2] at hA ⊢
  rw [h1] at hf hne
  simp only [a7] at hA ⊢
  have hf':=hf _ hA
  unfold prC at hf' ⊢
  simp only [fnV,rdB,Bits.no,aI] at hf'
  refine aD (n:=36) (rs:=[.tmp 4]) Tryz.func69 rfl rfl (by decide) rfl rfl rfl ?_;rintro x rfl hrd hng
  rw [aB]
  refine kr0 ?_
  refine kr1 hf' ?_
  refine kw h0 ?_
  refine ay (cX (by simp (disch:=first|omega|assumption) only [go_sem,Oid.ab hpp,Oid.aa hpp,hpN,hO,aI,cdN]) (by show _=some _;(try simp only [cdN]);simp (disch:=first|omega|assumption) only [go_sem,Oid.ab hpp,Oid.aa hpp,hpN,hO]) (by first|exact nbu _|exact nbA (by simp [hpN,hO.mem]) _))
 ·rw [h2] at hA ⊢
  rw [h1] at hf hne hlen
  simp only [bD] at hA ⊢
  have hpl:=hlen _ rfl
  simp only at hpl
  obtain ⟨F0,hA1,hA2⟩:=bf hA
  obtain rfl:F0=F1:=hA2
  by_cases c1:ek=2
  case neg =>
   rw [if_pos c1]
   have hf':=hf _ hA1
   unfold prC at hf' ⊢
   simp only [fnV,rdB,Bits.no,aI] at hf'
   refine aD (n:=36) (rs:=[.tmp 4]) Tryz.func69 rfl rfl (by decide) rfl rfl rfl ?_;rintro x rfl hrd hng
   rw [aB]
   refine kr0 ?_
   refine kr1 hf' ?_
   refine kw (ai h0 c1) ?_
   refine ay (cX (by simp (disch:=first|omega|assumption) only [go_sem,Oid.ab hpp,Oid.aa hpp,hpN,hO,aI,cdN]) (by show _=some _;(try simp only [cdN]);simp (disch:=first|omega|assumption) only [go_sem,Oid.ab hpp,Oid.aa hpp,hpN,hO]) (by first|exact nbu _|exact nbA (by simp [hpN,hO.mem]) _))
  rw [if_neg (fun h=>h c1)]
  by_cases c2:c8 em 1=0
  ·rw [if_pos c2]
   have hf':=hf _ hA1
   unfold prC at hf' ⊢
   simp only [fnV,rdB,Bits.no,aI] at hf'
   refine aD (n:=36) (rs:=[.tmp 4]) Tryz.func69 rfl rfl (by decide) rfl rfl rfl ?_;rintro x rfl hrd hng
   rw [aB]
   refine kr0 ?_
   refine kr1 hf' ?_
   (repeat (first|(refine aA rfl rfl ?_)|(refine az rfl rfl ?_)|(refine ar nmd [] hng (by kernel_rfl) fun hf C S K hC1 hC hS hK=>?_;simp (disch:=first|omega|assumption) only [go_sem,Oid.ab hpp,Oid.aa hpp,hpN,hO,h0,c1,c2,fJ,eq_self,decide_true,decide_false,ne_eq,not_true_eq_false,not_false_eq_true];refine hK ?_;clear hK hS hC hC1 K S C hf)|((first|refine zn ?_|refine ze ?_|refine zk ?_);with_reducible (constructor;repeat constructor);try refine zl ?_)))
   refine ay (cX (by simp (disch:=first|omega|assumption) only [go_sem,Oid.ab hpp,Oid.aa hpp,hpN,hO,aI,cdN]) (by show _=some _;(try simp only [cdN]);simp (disch:=first|omega|assumption) only [go_sem,Oid.ab hpp,Oid.aa hpp,hpN,hO]) (by first|exact nbu _|exact nbA (by simp [hpN,hO.mem]) _))
  ·rw [if_neg c2]
   have hf':=hf _ hA1
   unfold prC at hf' ⊢
   simp only [fnV,rdB,Bits.no,aI] at hf'
   refine aD (n:=36) (rs:=[.tmp 4]) Tryz.func69 rfl rfl (by decide) rfl rfl rfl ?_;rintro x rfl hrd hng
   rw [aB]
   refine kr0 ?_
   refine kr1 hf' ?_
   (repeat (first|(refine aA rfl rfl ?_)|(refine az rfl rfl ?_)|(refine ar nmd [] hng (by kernel_rfl) fun hf C S K hC1 hC hS hK=>?_;simp (disch:=first|omega|assumption) only [go_sem,Oid.ab hpp,Oid.aa hpp,hpN,hO,h0,c1,c2,fJ,eq_self,decide_true,decide_false,ne_eq,not_true_eq_false,not_false_eq_true];refine hK ?_;clear hK hS hC hC1 K S C hf)|((first|refine zn ?_|refine ze ?_|refine zk ?_);with_reducible (constructor;repeat constructor);try refine zl ?_)))
   refine ay (cX (by simp (disch:=first|omega|assumption) only [go_sem,Oid.ab hpp,Oid.aa hpp,hpN,hO,aI,cdN]) (by show _=some _;(try simp only [cdN]);simp (disch:=first|omega|assumption) only [go_sem,Oid.ab hpp,Oid.aa hpp,hpN,hO]) (by first|exact nbu _|exact nbA (by simp [hpN,hO.mem]) _))
end
end Go.Proofs.YtmoaidkglldhcaaGreatDoor
namespace Go.Proofs.YtmoaidkglldhcaaGreatDoor
open Go Go.Ab
set_option maxRecDepth 20000
set_option maxHeartbeats 8000000
theorem p8 {L:PL} {cwd path:Str} {fol:Bool} {rd:Rds} {a:Str × Bits} (h:findF L cwd path fol=(rd,.go a)):¬ path=[]:=fun e=>by
 subst e;simp [findF] at h
theorem x7 {L:PL} (hK:KL L) {cwd path:Str} {fol:Bool} {rd:Rds} {a:Str × Bits} (h:findF L cwd path fol=(rd,.go a)):a.2.l.length≤4000000:=by
 have h5:=(ix hK.so hK.lk cwd path fol).2.2 a (by rw [h])
 rw [h5.2];exact hK.da _
theorem oH {path:Str} (h:¬ path=[]):cM path=true↔((path.getD (path.length - 1) 0).toNat:Int)=47:=by
 have hl:0 < path.length:=List.length_pos_iff.2 h
 unfold cM
 rw [decide_eq_true hl,Bool.true_and,decide_eq_true_eq]
 exact ⟨fun h=>by rw [h];rfl,fun h=>UInt8.toNat_inj.1 (by show _=47;omega)⟩
section
variable {pp st:Oid} {N:List Oid} {F F1 F2:Oid→ao} {L:PL} (hK:KL L) (hm:∀ n,0≤(aF L n).m∧(aF L n).m≤7) {cwd:Str} (hc:cwd.length≤1000000) (um:Int) (hpN:pp ∉ N) {p:Oid} (hp:p.mono=false) (hpp:¬ Oid.under p pp) (hO:a8 p N)
include hK hm hc hpN hp hpp hO
theorem rD (path:Str) (hpath:path.length≤4000000000) (data:Str) (hdata:data.length≤4000000000) (more:Bool) (hA:RR' st N L (cY L cwd um path data more).1 F F1) (hP:PR st N (bG (cY L cwd um path data more).2) F1 F2) :
  ah Tryz.prog 17 [.ptr pp 0,.str path,.str data,.bool more] (Oid.under p) ⟨(pp,prC st cwd um)::bk (N,F),.int .i64 (aI (cY L cwd um path data more).2),sb N F2⟩:=by
 have hf:=fun F' h p hp hpp hO=>dv (pp:=pp) (st:=st) (N:=N) (F:=F) (F':=F') hK path cwd um true hpN hc hpath h p hp hpp hO
 have hne:=dN hK (cwd:=cwd) path true
 have hlen:=cm hK hc path true
 unfold cY at hA hP ⊢
 rcases kB L cwd path true with ⟨rd,e,h1⟩|⟨rd,pl,ek,em,el,h1⟩
 ·rw [h1] at hA hP ⊢
  rw [h1] at hf hne
  simp only [a7] at hA hP ⊢
  obtain rfl:F1=F2:=hP
  have e0:¬ e=0:=hne _ rfl
  have hf':=hf _ hA
  unfold prC at hf' ⊢
  simp only [fnV,rdB,Bits.no,aI] at hf'
  refine aD (n:=78) (rs:=[.tmp 8]) Tryz.func17 rfl rfl (by decide) rfl rfl rfl ?_;rintro x rfl hrd hng
  rw [aB]
  refine kr0 ?_
  refine kr1 hf' ?_
  refine kw e0 ?_
  exact kq
 ·have hpne:=p8 h1
  have hpl0:0 < path.length:=List.length_pos_iff.2 hpne
  have hel:=x7 hK h1
  have hen:=oH hpne
  have e1:((path.length:Int) - 1).toNat=path.length - 1:=by omega
  have e3:((path.length - 1:Nat):Int)=(path.length:Int) - 1:=by omega
  rw [h1] at hA hP ⊢
  rw [h1] at hf hlen
  simp only [bD] at hA hP ⊢
  have hpl:=hlen _ rfl
  simp only at hpl hel
  obtain ⟨F0,hA1,hA2⟩:=bf hA
  by_cases c1:ek=2
  ·rw [if_pos c1] at hA2 hP ⊢
   obtain rfl:F0=F1:=hA2
   obtain rfl:F0=F2:=hP
   have hf':=hf _ hA1
   unfold prC at hf' ⊢
   simp only [fnV,rdB,Bits.no,aI] at hf'
   refine aD (n:=78) (rs:=[.tmp 8]) Tryz.func17 rfl rfl (by decide) rfl rfl rfl ?_;rintro x rfl hrd hng
   rw [aB]
   refine kr0 ?_
   refine kr1 hf' ?_
   (repeat (first|(refine aA rfl rfl ?_)|(refine az rfl rfl ?_)|(refine ar nmd [] hng (by kernel_rfl) fun hf C S K hC1 hC hS hK=>?_;simp (disch:=first|omega|assumption) only [go_sem,Oid.ab hpp,Oid.aa hpp,hpN,hO,c1,fJ,eq_self,decide_true,decide_false,ne_eq,not_true_eq_false,not_false_eq_true];refine hK ?_;clear hK hS hC hC1 K S C hf)|((first|refine zn ?_|refine ze ?_|refine zk ?_);with_reducible (constructor;repeat constructor);try refine zl ?_)))
   exact kq
  rw [if_neg c1] at hA2 hP ⊢
  by_cases c2:ek=0
  ·rw [if_pos c2] at hA2 hP ⊢
   subst c2
   by_cases c3:cM path=true
   ·rw [if_pos c3] at hA2 hP ⊢
    have h47:=hen.1 c3
    obtain rfl:F0=F1:=hA2
    obtain rfl:F0=F2:=hP
    have hf':=hf _ hA1
    unfold prC at hf' ⊢
    simp only [fnV,rdB,Bits.no,aI] at hf'
    refine aD (n:=78) (rs:=[.tmp 8]) Tryz.func17 rfl rfl (by decide) rfl rfl rfl ?_;rintro x rfl hrd hng
    rw [aB]
    refine kr0 ?_
    refine kr1 hf' ?_
    refine kw (ai c1 (ai e1 h47)) ?_
    refine kr (.d [] [(3,32)] []) (ai c1 (ai e1 h47)) trivial ?_
    refine kw (ai c1 (ai e1 h47)) ?_
    exact kq
   rw [if_neg c3] at hA2 hP ⊢
   have h47:¬ ((path.getD (path.length - 1) 0).toNat:Int)=47:=fun h=>c3 (hen.2 h)
   have hr1:(a7 (bW L pl ()) fun _=>(([],dA pl ⟨1,bF 6 um,[]⟩ more data):Rds × Rs Pts)).1=[(aP pl,false)]:=by
    by_cases h:bV pl (aF L (aP pl))=0
    ·rw [fp h];rfl
    ·rw [fq h]
   have hr2:(a7 (bW L pl ()) fun _=>(([],dA pl ⟨1,bF 6 um,[]⟩ more data):Rds × Rs Pts)).2=if ¬ bV pl (aF L (aP pl))=0 then .err (bV pl (aF L (aP pl))) else dA pl ⟨1,bF 6 um,[]⟩ more data:=by
    by_cases h:bV pl (aF L (aP pl))=0
    ·rw [fp h,if_neg (fun h'=>h' h)]
    ·rw [fq h,if_pos h]
   rw [hr1] at hA2
   rw [hr2] at hP ⊢
   clear hr1 hr2
   have hrm:=fun p hp hpp hO=>er (pp:=pp) (st:=st) (N:=N) (F:=F0) (F1:=F1) (L:=L) (cwd:=cwd) um hpN (p:=p) hp hpp hO hm pl hpl hA2
   unfold prC at hrm
   generalize bV pl (aF L (aP pl))=g at hrm hP ⊢
   by_cases g0:g=0
   case neg =>
    rw [if_pos g0] at hP ⊢
    obtain rfl:F1=F2:=hP
    have hf':=hf _ hA1
    unfold prC at hf' ⊢
    simp only [fnV,rdB,Bits.no,aI] at hf'
    refine aD (n:=78) (rs:=[.tmp 8]) Tryz.func17 rfl rfl (by decide) rfl rfl rfl ?_;rintro x rfl hrd hng
    rw [aB]
    refine kr0 ?_
    refine kr1 hf' ?_
    refine kw (ai c1 (ai e1 h47)) ?_
    refine kr (.d [] [(3,32)] []) (ai c1 (ai e1 h47)) trivial ?_
    refine kw (ai c1 (ai e1 h47)) ?_
    refine kr1 hrm ?_
    refine kw (ai g0 (ai c1 (ai e1 h47))) ?_
    exact kq
   rw [if_neg (fun h=>h g0)] at hP ⊢
   unfold dA at hP ⊢
   cases more with
   | true =>
    simp only [mz,if_true,List.nil_append] at hP ⊢
    have hDl:data.length≤4004000000:=by (try simp only [List.length_append]);omega
    by_cases c5:100000 < data.length
    ·rw [if_pos c5] at hP ⊢
     obtain rfl:F1=F2:=hP
     have e5:(100000:Int) < (data.length:Int):=by (try simp only [List.length_append] at c5);omega
     have hf':=hf _ hA1
     unfold prC at hf' ⊢
     simp only [fnV,rdB,Bits.no,aI] at hf'
     refine aD (n:=78) (rs:=[.tmp 8]) Tryz.func17 rfl rfl (by decide) rfl rfl rfl ?_;rintro x rfl hrd hng
     rw [aB]
     refine kr0 ?_
     refine kr1 hf' ?_
     (repeat (first|(refine aA rfl rfl ?_)|(refine az rfl rfl ?_)|(refine ar nmd [] hng (by kernel_rfl) fun hf C S K hC1 hC hS hK=>?_;simp (disch:=first|omega|assumption) only [go_sem,Oid.ab hpp,Oid.aa hpp,hpN,hO,c1,e1,h47,eq_self,List.nil_append,e5,decide_true,decide_false,ne_eq,not_true_eq_false,not_false_eq_true];refine hK ?_;clear hK hS hC hC1 K S C hf)|((first|refine zn ?_|refine ze ?_|refine zk ?_);with_reducible (constructor;repeat constructor);try refine zl ?_)))
     refine ar nmd [(3,32)] hng (by kernel_rfl) fun hf C S K hC1 hC hS hK=>?_;simp (disch:=first|omega|assumption) only [go_sem,Oid.ab hpp,Oid.aa hpp,hpN,hO,c1,e1,h47,eq_self,List.nil_append,e5,decide_true,decide_false,ne_eq,not_true_eq_false,not_false_eq_true]
     refine hK ?_;clear hK hS hC hC1 K S C hf
     (repeat (first|(refine aA rfl rfl ?_)|(refine az rfl rfl ?_)|(refine ar nmd [] hng (by kernel_rfl) fun hf C S K hC1 hC hS hK=>?_;simp (disch:=first|omega|assumption) only [go_sem,Oid.ab hpp,Oid.aa hpp,hpN,hO,c1,e1,h47,eq_self,List.nil_append,e5,decide_true,decide_false,ne_eq,not_true_eq_false,not_false_eq_true];refine hK ?_;clear hK hS hC hC1 K S C hf)|((first|refine zn ?_|refine ze ?_|refine zk ?_);with_reducible (constructor;repeat constructor);try refine zl ?_)))
     refine kr1 hrm ?_
     (repeat (first|(refine aA rfl rfl ?_)|(refine az rfl rfl ?_)|(refine ar nmd [] hng (by kernel_rfl) fun hf C S K hC1 hC hS hK=>?_;simp (disch:=first|omega|assumption) only [go_sem,Oid.ab hpp,Oid.aa hpp,hpN,hO,g0,eq_self,c1,e1,h47,eq_self,List.nil_append,e5,decide_true,decide_false,ne_eq,not_true_eq_false,not_false_eq_true];refine hK ?_;clear hK hS hC hC1 K S C hf)|((first|refine zn ?_|refine ze ?_|refine zk ?_);with_reducible (constructor;repeat constructor);try refine zl ?_)))
     exact kq
    ·rw [if_neg c5] at hP ⊢
     have e5:¬ (100000:Int) < (data.length:Int):=by (try simp only [List.length_append] at c5);omega
     obtain ⟨_,hput,rfl⟩:=hP
     rename_i F2
     have hput':∀ p,p.mono=false→a8 p N→ah Tryz.prog 26 [.ptr st 0,.str pl,.agg [.int .i64 1,.int .i64 (bF 6 um),.str data]] (Oid.under p) ⟨bk (N,F1),.tuple [],sb N F2⟩:=hput
     have hf':=hf _ hA1
     unfold prC at hf' ⊢
     simp only [fnV,rdB,Bits.no,aI] at hf'
     refine aD (n:=78) (rs:=[.tmp 8]) Tryz.func17 rfl rfl (by decide) rfl rfl rfl ?_;rintro x rfl hrd hng
     rw [aB]
     refine kr0 ?_
     refine kr1 hf' ?_
     (repeat (first|(refine aA rfl rfl ?_)|(refine az rfl rfl ?_)|(refine ar nmd [] hng (by kernel_rfl) fun hf C S K hC1 hC hS hK=>?_;simp (disch:=first|omega|assumption) only [go_sem,Oid.ab hpp,Oid.aa hpp,hpN,hO,c1,e1,h47,eq_self,List.nil_append,e5,decide_true,decide_false,ne_eq,not_true_eq_false,not_false_eq_true];refine hK ?_;clear hK hS hC hC1 K S C hf)|((first|refine zn ?_|refine ze ?_|refine zk ?_);with_reducible (constructor;repeat constructor);try refine zl ?_)))
     refine ar nmd [(3,32)] hng (by kernel_rfl) fun hf C S K hC1 hC hS hK=>?_;simp (disch:=first|omega|assumption) only [go_sem,Oid.ab hpp,Oid.aa hpp,hpN,hO,c1,e1,h47,eq_self,List.nil_append,e5,decide_true,decide_false,ne_eq,not_true_eq_false,not_false_eq_true]
     refine hK ?_;clear hK hS hC hC1 K S C hf
     (repeat (first|(refine aA rfl rfl ?_)|(refine az rfl rfl ?_)|(refine ar nmd [] hng (by kernel_rfl) fun hf C S K hC1 hC hS hK=>?_;simp (disch:=first|omega|assumption) only [go_sem,Oid.ab hpp,Oid.aa hpp,hpN,hO,c1,e1,h47,eq_self,List.nil_append,e5,decide_true,decide_false,ne_eq,not_true_eq_false,not_false_eq_true];refine hK ?_;clear hK hS hC hC1 K S C hf)|((first|refine zn ?_|refine ze ?_|refine zk ?_);with_reducible (constructor;repeat constructor);try refine zl ?_)))
     refine kr1 hrm ?_
     (repeat (first|(refine aA rfl rfl ?_)|(refine az rfl rfl ?_)|(refine ar nmd [] hng (by kernel_rfl) fun hf C S K hC1 hC hS hK=>?_;simp (disch:=first|omega|assumption) only [go_sem,Oid.ab hpp,Oid.aa hpp,hpN,hO,g0,eq_self,c1,e1,h47,eq_self,List.nil_append,e5,decide_true,decide_false,ne_eq,not_true_eq_false,not_false_eq_true];refine hK ?_;clear hK hS hC hC1 K S C hf)|((first|refine zn ?_|refine ze ?_|refine zk ?_);with_reducible (constructor;repeat constructor);try refine zl ?_)))
     refine cV nmd [] [] mixed hng (by kernel_rfl) [0,9] fun hf C S K hC hS hK=>?_;simp (disch:=first|omega|assumption) only [go_sem,Oid.ab hpp,Oid.aa hpp,hpN,hO,List.nil_append]
     refine hC _ (hput' _ (aw rfl hp) (hO.sub _ _)) (by first|exact nbu _|exact nbA (by simp [hpN,hO.mem]) _) ?_
     simp (disch:=first|omega|assumption) only [go_sem,Oid.ab hpp,Oid.aa hpp,hpN,hO,List.nil_append]
     (first|refine hK (aT rfl) ?_|refine hK (by simp (disch:=first|omega|assumption) only [go_sem,List.reverse_cons,List.reverse_nil,ne_eq,not_false_eq_true,implies_true]) ?_);clear hK hS hC K S C hf
     refine kw0 ?_
     exact kq
   | false =>
    simp only [mz,Bool.false_eq_true,if_false] at hP ⊢
    have hDl:data.length≤4004000000:=by (try simp only [List.length_append]);omega
    by_cases c5:100000 < data.length
    ·rw [if_pos c5] at hP ⊢
     obtain rfl:F1=F2:=hP
     have e5:(100000:Int) < (data.length:Int):=by (try simp only [List.length_append] at c5);omega
     have hf':=hf _ hA1
     unfold prC at hf' ⊢
     simp only [fnV,rdB,Bits.no,aI] at hf'
     refine aD (n:=78) (rs:=[.tmp 8]) Tryz.func17 rfl rfl (by decide) rfl rfl rfl ?_;rintro x rfl hrd hng
     rw [aB]
     refine kr0 ?_
     refine kr1 hf' ?_
     (repeat (first|(refine aA rfl rfl ?_)|(refine az rfl rfl ?_)|(refine ar nmd [] hng (by kernel_rfl) fun hf C S K hC1 hC hS hK=>?_;simp (disch:=first|omega|assumption) only [go_sem,Oid.ab hpp,Oid.aa hpp,hpN,hO,c1,e1,h47,eq_self,List.nil_append,e5,decide_true,decide_false,ne_eq,not_true_eq_false,not_false_eq_true];refine hK ?_;clear hK hS hC hC1 K S C hf)|((first|refine zn ?_|refine ze ?_|refine zk ?_);with_reducible (constructor;repeat constructor);try refine zl ?_)))
     refine ar nmd [(3,32)] hng (by kernel_rfl) fun hf C S K hC1 hC hS hK=>?_;simp (disch:=first|omega|assumption) only [go_sem,Oid.ab hpp,Oid.aa hpp,hpN,hO,c1,e1,h47,eq_self,List.nil_append,e5,decide_true,decide_false,ne_eq,not_true_eq_false,not_false_eq_true]
     refine hK ?_;clear hK hS hC hC1 K S C hf
     (repeat (first|(refine aA rfl rfl ?_)|(refine az rfl rfl ?_)|(refine ar nmd [] hng (by kernel_rfl) fun hf C S K hC1 hC hS hK=>?_;simp (disch:=first|omega|assumption) only [go_sem,Oid.ab hpp,Oid.aa hpp,hpN,hO,c1,e1,h47,eq_self,List.nil_append,e5,decide_true,decide_false,ne_eq,not_true_eq_false,not_false_eq_true];refine hK ?_;clear hK hS hC hC1 K S C hf)|((first|refine zn ?_|refine ze ?_|refine zk ?_);with_reducible (constructor;repeat constructor);try refine zl ?_)))
     refine kr1 hrm ?_
     (repeat (first|(refine aA rfl rfl ?_)|(refine az rfl rfl ?_)|(refine ar nmd [] hng (by kernel_rfl) fun hf C S K hC1 hC hS hK=>?_;simp (disch:=first|omega|assumption) only [go_sem,Oid.ab hpp,Oid.aa hpp,hpN,hO,g0,eq_self,c1,e1,h47,eq_self,List.nil_append,e5,decide_true,decide_false,ne_eq,not_true_eq_false,not_false_eq_true];refine hK ?_;clear hK hS hC hC1 K S C hf)|((first|refine zn ?_|refine ze ?_|refine zk ?_);with_reducible (constructor;repeat constructor);try refine zl ?_)))
     exact kq
    ·rw [if_neg c5] at hP ⊢
     have e5:¬ (100000:Int) < (data.length:Int):=by (try simp only [List.length_append] at c5);omega
     obtain ⟨_,hput,rfl⟩:=hP
     rename_i F2
     have hput':∀ p,p.mono=false→a8 p N→ah Tryz.prog 26 [.ptr st 0,.str pl,.agg [.int .i64 1,.int .i64 (bF 6 um),.str data]] (Oid.under p) ⟨bk (N,F1),.tuple [],sb N F2⟩:=hput
     have hf':=hf _ hA1
     unfold prC at hf' ⊢
     simp only [fnV,rdB,Bits.no,aI] at hf'
     refine aD (n:=78) (rs:=[.tmp 8]) Tryz.func17 rfl rfl (by decide) rfl rfl rfl ?_;rintro x rfl hrd hng
     rw [aB]
     refine kr0 ?_
     refine kr1 hf' ?_
     (repeat (first|(refine aA rfl rfl ?_)|(refine az rfl rfl ?_)|(refine ar nmd [] hng (by kernel_rfl) fun hf C S K hC1 hC hS hK=>?_;simp (disch:=first|omega|assumption) only [go_sem,Oid.ab hpp,Oid.aa hpp,hpN,hO,c1,e1,h47,eq_self,List.nil_append,e5,decide_true,decide_false,ne_eq,not_true_eq_false,not_false_eq_true];refine hK ?_;clear hK hS hC hC1 K S C hf)|((first|refine zn ?_|refine ze ?_|refine zk ?_);with_reducible (constructor;repeat constructor);try refine zl ?_)))
     refine ar nmd [(3,32)] hng (by kernel_rfl) fun hf C S K hC1 hC hS hK=>?_;simp (disch:=first|omega|assumption) only [go_sem,Oid.ab hpp,Oid.aa hpp,hpN,hO,c1,e1,h47,eq_self,List.nil_append,e5,decide_true,decide_false,ne_eq,not_true_eq_false,not_false_eq_true]
     refine hK ?_;clear hK hS hC hC1 K S C hf
     (repeat (first|(refine aA rfl rfl ?_)|(refine az rfl rfl ?_)|(refine ar nmd [] hng (by kernel_rfl) fun hf C S K hC1 hC hS hK=>?_;simp (disch:=first|omega|assumption) only [go_sem,Oid.ab hpp,Oid.aa hpp,hpN,hO,c1,e1,h47,eq_self,List.nil_append,e5,decide_true,decide_false,ne_eq,not_true_eq_false,not_false_eq_true];refine hK ?_;clear hK hS hC hC1 K S C hf)|((first|refine zn ?_|refine ze ?_|refine zk ?_);with_reducible (constructor;repeat constructor);try refine zl ?_)))
     refine kr1 hrm ?_
     (repeat (first|(refine aA rfl rfl ?_)|(refine az rfl rfl ?_)|(refine ar nmd [] hng (by kernel_rfl) fun hf C S K hC1 hC hS hK=>?_;simp (disch:=first|omega|assumption) only [go_sem,Oid.ab hpp,Oid.aa hpp,hpN,hO,g0,eq_self,c1,e1,h47,eq_self,List.nil_append,e5,decide_true,decide_false,ne_eq,not_true_eq_false,not_false_eq_true];refine hK ?_;clear hK hS hC hC1 K S C hf)|((first|refine zn ?_|refine ze ?_|refine zk ?_);with_reducible (constructor;repeat constructor);try refine zl ?_)))
     refine cV nmd [] [] mixed hng (by kernel_rfl) [0,9] fun hf C S K hC hS hK=>?_;simp (disch:=first|omega|assumption) only [go_sem,Oid.ab hpp,Oid.aa hpp,hpN,hO,List.nil_append]
     refine hC _ (hput' _ (aw rfl hp) (hO.sub _ _)) (by first|exact nbu _|exact nbA (by simp [hpN,hO.mem]) _) ?_
     simp (disch:=first|omega|assumption) only [go_sem,Oid.ab hpp,Oid.aa hpp,hpN,hO,List.nil_append]
     (first|refine hK (aT rfl) ?_|refine hK (by simp (disch:=first|omega|assumption) only [go_sem,List.reverse_cons,List.reverse_nil,ne_eq,not_false_eq_true,implies_true]) ?_);clear hK hS hC K S C hf
     refine kw0 ?_
     exact kq
  rw [if_neg c2] at hA2 hP ⊢
  by_cases c4:c8 em 2=0
  ·rw [if_pos c4] at hA2 hP ⊢
   obtain rfl:F0=F1:=hA2
   obtain rfl:F0=F2:=hP
   have hf':=hf _ hA1
   unfold prC at hf' ⊢
   simp only [fnV,rdB,Bits.no,aI] at hf'
   refine aD (n:=78) (rs:=[.tmp 8]) Tryz.func17 rfl rfl (by decide) rfl rfl rfl ?_;rintro x rfl hrd hng
   rw [aB]
   refine kr0 ?_
   refine kr1 hf' ?_
   (repeat (first|(refine aA rfl rfl ?_)|(refine az rfl rfl ?_)|(refine ar nmd [] hng (by kernel_rfl) fun hf C S K hC1 hC hS hK=>?_;simp (disch:=first|omega|assumption) only [go_sem,Oid.ab hpp,Oid.aa hpp,hpN,hO,c1,c2,c4,eq_self,decide_true,decide_false,ne_eq,not_true_eq_false,not_false_eq_true];refine hK ?_;clear hK hS hC hC1 K S C hf)|((first|refine zn ?_|refine ze ?_|refine zk ?_);with_reducible (constructor;repeat constructor);try refine zl ?_)))
   refine ar nmd [(3,32)] hng (by kernel_rfl) fun hf C S K hC1 hC hS hK=>?_;simp (disch:=first|omega|assumption) only [go_sem,Oid.ab hpp,Oid.aa hpp,hpN,hO,c1,c2,c4,eq_self,decide_true,decide_false,ne_eq,not_true_eq_false,not_false_eq_true]
   refine hK ?_;clear hK hS hC hC1 K S C hf
   (repeat (first|(refine aA rfl rfl ?_)|(refine az rfl rfl ?_)|(refine ar nmd [] hng (by kernel_rfl) fun hf C S K hC1 hC hS hK=>?_;simp (disch:=first|omega|assumption) only [go_sem,Oid.ab hpp,Oid.aa hpp,hpN,hO,c1,c2,c4,eq_self,decide_true,decide_false,ne_eq,not_true_eq_false,not_false_eq_true];refine hK ?_;clear hK hS hC hC1 K S C hf)|((first|refine zn ?_|refine ze ?_|refine zk ?_);with_reducible (constructor;repeat constructor);try refine zl ?_)))
   exact kq
  rw [if_neg c4] at hA2 hP ⊢
  obtain rfl:F0=F1:=hA2
  unfold dA at hP ⊢
  cases more with
  | true =>
   simp only [mz,if_true] at hP ⊢
   have hDl:(el++data).length≤4004000000:=by (try simp only [List.length_append]);omega
   by_cases c5:100000 < (el++data).length
   ·rw [if_pos c5] at hP ⊢
    obtain rfl:F0=F2:=hP
    have e5:(100000:Int) < (((el.length+data.length:Nat)):Int):=by (try simp only [List.length_append] at c5);omega
    have hf':=hf _ hA1
    unfold prC at hf' ⊢
    simp only [fnV,rdB,Bits.no,aI] at hf'
    refine aD (n:=78) (rs:=[.tmp 8]) Tryz.func17 rfl rfl (by decide) rfl rfl rfl ?_;rintro x rfl hrd hng
    rw [aB]
    refine kr0 ?_
    refine kr1 hf' ?_
    (repeat (first|(refine aA rfl rfl ?_)|(refine az rfl rfl ?_)|(refine ar nmd [] hng (by kernel_rfl) fun hf C S K hC1 hC hS hK=>?_;simp (disch:=first|omega|assumption) only [go_sem,Oid.ab hpp,Oid.aa hpp,hpN,hO,c1,c2,c4,eq_self,e5,decide_true,decide_false,ne_eq,not_true_eq_false,not_false_eq_true];refine hK ?_;clear hK hS hC hC1 K S C hf)|((first|refine zn ?_|refine ze ?_|refine zk ?_);with_reducible (constructor;repeat constructor);try refine zl ?_)))
    refine ar nmd [(3,32)] hng (by kernel_rfl) fun hf C S K hC1 hC hS hK=>?_;simp (disch:=first|omega|assumption) only [go_sem,Oid.ab hpp,Oid.aa hpp,hpN,hO,c1,c2,c4,eq_self,e5,decide_true,decide_false,ne_eq,not_true_eq_false,not_false_eq_true]
    refine hK ?_;clear hK hS hC hC1 K S C hf
    (repeat (first|(refine aA rfl rfl ?_)|(refine az rfl rfl ?_)|(refine ar nmd [] hng (by kernel_rfl) fun hf C S K hC1 hC hS hK=>?_;simp (disch:=first|omega|assumption) only [go_sem,Oid.ab hpp,Oid.aa hpp,hpN,hO,c1,c2,c4,eq_self,e5,decide_true,decide_false,ne_eq,not_true_eq_false,not_false_eq_true];refine hK ?_;clear hK hS hC hC1 K S C hf)|((first|refine zn ?_|refine ze ?_|refine zk ?_);with_reducible (constructor;repeat constructor);try refine zl ?_)))
    exact kq
   ·rw [if_neg c5] at hP ⊢
    have e5:¬ (100000:Int) < (((el.length+data.length:Nat)):Int):=by (try simp only [List.length_append] at c5);omega
    obtain ⟨_,hput,rfl⟩:=hP
    rename_i F2
    have hput':∀ p,p.mono=false→a8 p N→ah Tryz.prog 26 [.ptr st 0,.str pl,.agg [.int .i64 ek,.int .i64 em,.str (el++data)]] (Oid.under p) ⟨bk (N,F0),.tuple [],sb N F2⟩:=hput
    have hf':=hf _ hA1
    unfold prC at hf' ⊢
    simp only [fnV,rdB,Bits.no,aI] at hf'
    refine aD (n:=78) (rs:=[.tmp 8]) Tryz.func17 rfl rfl (by decide) rfl rfl rfl ?_;rintro x rfl hrd hng
    rw [aB]
    refine kr0 ?_
    refine kr1 hf' ?_
    (repeat (first|(refine aA rfl rfl ?_)|(refine az rfl rfl ?_)|(refine ar nmd [] hng (by kernel_rfl) fun hf C S K hC1 hC hS hK=>?_;simp (disch:=first|omega|assumption) only [go_sem,Oid.ab hpp,Oid.aa hpp,hpN,hO,c1,c2,c4,eq_self,e5,decide_true,decide_false,ne_eq,not_true_eq_false,not_false_eq_true];refine hK ?_;clear hK hS hC hC1 K S C hf)|((first|refine zn ?_|refine ze ?_|refine zk ?_);with_reducible (constructor;repeat constructor);try refine zl ?_)))
    refine ar nmd [(3,32)] hng (by kernel_rfl) fun hf C S K hC1 hC hS hK=>?_;simp (disch:=first|omega|assumption) only [go_sem,Oid.ab hpp,Oid.aa hpp,hpN,hO,c1,c2,c4,eq_self,e5,decide_true,decide_false,ne_eq,not_true_eq_false,not_false_eq_true]
    refine hK ?_;clear hK hS hC hC1 K S C hf
    (repeat (first|(refine aA rfl rfl ?_)|(refine az rfl rfl ?_)|(refine ar nmd [] hng (by kernel_rfl) fun hf C S K hC1 hC hS hK=>?_;simp (disch:=first|omega|assumption) only [go_sem,Oid.ab hpp,Oid.aa hpp,hpN,hO,c1,c2,c4,eq_self,e5,decide_true,decide_false,ne_eq,not_true_eq_false,not_false_eq_true];refine hK ?_;clear hK hS hC hC1 K S C hf)|((first|refine zn ?_|refine ze ?_|refine zk ?_);with_reducible (constructor;repeat constructor);try refine zl ?_)))
    refine kd (.d [] [] [0,9]) trivial (cq hput' trivial) ?_
    refine kw0 ?_
    exact kq
  | false =>
   simp only [mz,Bool.false_eq_true,if_false] at hP ⊢
   have hDl:data.length≤4004000000:=by (try simp only [List.length_append]);omega
   by_cases c5:100000 < data.length
   ·rw [if_pos c5] at hP ⊢
    obtain rfl:F0=F2:=hP
    have e5:(100000:Int) < (data.length:Int):=by (try simp only [List.length_append] at c5);omega
    have hf':=hf _ hA1
    unfold prC at hf' ⊢
    simp only [fnV,rdB,Bits.no,aI] at hf'
    refine aD (n:=78) (rs:=[.tmp 8]) Tryz.func17 rfl rfl (by decide) rfl rfl rfl ?_;rintro x rfl hrd hng
    rw [aB]
    refine kr0 ?_
    refine kr1 hf' ?_
    (repeat (first|(refine aA rfl rfl ?_)|(refine az rfl rfl ?_)|(refine ar nmd [] hng (by kernel_rfl) fun hf C S K hC1 hC hS hK=>?_;simp (disch:=first|omega|assumption) only [go_sem,Oid.ab hpp,Oid.aa hpp,hpN,hO,c1,c2,c4,eq_self,e5,decide_true,decide_false,ne_eq,not_true_eq_false,not_false_eq_true];refine hK ?_;clear hK hS hC hC1 K S C hf)|((first|refine zn ?_|refine ze ?_|refine zk ?_);with_reducible (constructor;repeat constructor);try refine zl ?_)))
    refine ar nmd [(3,32)] hng (by kernel_rfl) fun hf C S K hC1 hC hS hK=>?_;simp (disch:=first|omega|assumption) only [go_sem,Oid.ab hpp,Oid.aa hpp,hpN,hO,c1,c2,c4,eq_self,e5,decide_true,decide_false,ne_eq,not_true_eq_false,not_false_eq_true]
    refine hK ?_;clear hK hS hC hC1 K S C hf
    (repeat (first|(refine aA rfl rfl ?_)|(refine az rfl rfl ?_)|(refine ar nmd [] hng (by kernel_rfl) fun hf C S K hC1 hC hS hK=>?_;simp (disch:=first|omega|assumption) only [go_sem,Oid.ab hpp,Oid.aa hpp,hpN,hO,c1,c2,c4,eq_self,e5,decide_true,decide_false,ne_eq,not_true_eq_false,not_false_eq_true];refine hK ?_;clear hK hS hC hC1 K S C hf)|((first|refine zn ?_|refine ze ?_|refine zk ?_);with_reducible (constructor;repeat constructor);try refine zl ?_)))
    exact kq
   ·rw [if_neg c5] at hP ⊢
    have e5:¬ (100000:Int) < (data.length:Int):=by (try simp only [List.length_append] at c5);omega
    obtain ⟨_,hput,rfl⟩:=hP
    rename_i F2
    have hput':∀ p,p.mono=false→a8 p N→ah Tryz.prog 26 [.ptr st 0,.str pl,.agg [.int .i64 ek,.int .i64 em,.str data]] (Oid.under p) ⟨bk (N,F0),.tuple [],sb N F2⟩:=hput
    have hf':=hf _ hA1
    unfold prC at hf' ⊢
    simp only [fnV,rdB,Bits.no,aI] at hf'
    refine aD (n:=78) (rs:=[.tmp 8]) Tryz.func17 rfl rfl (by decide) rfl rfl rfl ?_;rintro x rfl hrd hng
    rw [aB]
    refine kr0 ?_
    refine kr1 hf' ?_
    (repeat (first|(refine aA rfl rfl ?_)|(refine az rfl rfl ?_)|(refine ar nmd [] hng (by kernel_rfl) fun hf C S K hC1 hC hS hK=>?_;simp (disch:=first|omega|assumption) only [go_sem,Oid.ab hpp,Oid.aa hpp,hpN,hO,c1,c2,c4,eq_self,e5,decide_true,decide_false,ne_eq,not_true_eq_false,not_false_eq_true];refine hK ?_;clear hK hS hC hC1 K S C hf)|((first|refine zn ?_|refine ze ?_|refine zk ?_);with_reducible (constructor;repeat constructor);try refine zl ?_)))
    refine ar nmd [(3,32)] hng (by kernel_rfl) fun hf C S K hC1 hC hS hK=>?_;simp (disch:=first|omega|assumption) only [go_sem,Oid.ab hpp,Oid.aa hpp,hpN,hO,c1,c2,c4,eq_self,e5,decide_true,decide_false,ne_eq,not_true_eq_false,not_false_eq_true]
    refine hK ?_;clear hK hS hC hC1 K S C hf
    (repeat (first|(refine aA rfl rfl ?_)|(refine az rfl rfl ?_)|(refine ar nmd [] hng (by kernel_rfl) fun hf C S K hC1 hC hS hK=>?_;simp (disch:=first|omega|assumption) only [go_sem,Oid.ab hpp,Oid.aa hpp,hpN,hO,c1,c2,c4,eq_self,e5,decide_true,decide_false,ne_eq,not_true_eq_false,not_false_eq_true];refine hK ?_;clear hK hS hC hC1 K S C hf)|((first|refine zn ?_|refine ze ?_|refine zk ?_);with_reducible (constructor;repeat constructor);try refine zl ?_)))
    refine kd (.d [] [] [0,9]) trivial (cq hput' trivial) ?_
    refine kw0 ?_
    exact kq
theorem rE (path:Str) (hpath:path.length≤4000000000) (hA:RR' st N L (dB L cwd um path).1 F F1) (hP:PR st N (bG (dB L cwd um path).2) F1 F2) :
  ah Tryz.prog 32 [.ptr pp 0,.str path] (Oid.under p) ⟨(pp,prC st cwd um)::bk (N,F),.int .i64 (aI (dB L cwd um path).2),sb N F2⟩:=by
 have hm1:=fun p hp hpp hO=>Bd (pp:=pp) (st:=st) (N:=N) (F:=F) (F1:=F1) (F2:=F2) hK hm hc um hpN (p:=p) hp hpp hO path hpath 2 (bF 7 um) [] hA hP
 unfold dB at hA hP ⊢
 generalize aI (eO L cwd path ⟨2,bF 7 um,[]⟩).2=E at hm1 ⊢
 unfold prC at hm1 ⊢
 refine aD (n:=14) (rs:=[.tmp 4]) Tryz.func32 rfl rfl (by decide) rfl rfl rfl ?_;rintro x rfl hrd hng
 rw [aB]
 refine kr0 ?_
 refine kr1 hm1 ?_
 refine kw0 ?_
 exact kq
theorem lU (path:Str) (hpath:path.length≤4000000000) (target:Str) (ht:target.length≤4000000000) (hA:RR' st N L (bC L cwd target path).1 F F1) (hP:PR st N (bG (bC L cwd target path).2) F1 F2) :
  ah Tryz.prog 15 [.ptr pp 0,.str target,.str path] (Oid.under p) ⟨(pp,prC st cwd um)::bk (N,F),.int .i64 (aI (bC L cwd target path).2),sb N F2⟩:=by
 unfold bC at hA hP ⊢
 by_cases c1:target=[]
 ·rw [if_pos (.inl c1)] at hA hP ⊢
  obtain rfl:F=F1:=hA
  obtain rfl:F=F2:=hP
  subst c1
  unfold prC
  refine aD (n:=29) (rs:=[.tmp 6]) Tryz.func15 rfl rfl (by decide) rfl rfl rfl ?_;rintro x rfl hrd hng
  rw [aB]
  refine kr0 ?_
  refine kr (.d [] [(2,9)] []) trivial trivial ?_
  refine kw0 ?_
  exact kq
 by_cases c2:200 < target.length
 ·rw [if_pos (.inr c2)] at hA hP ⊢
  obtain rfl:F=F1:=hA
  obtain rfl:F=F2:=hP
  have e2:(200:Int) < (target.length:Int):=by omega
  unfold prC
  refine aD (n:=29) (rs:=[.tmp 6]) Tryz.func15 rfl rfl (by decide) rfl rfl rfl ?_;rintro x rfl hrd hng
  rw [aB]
  refine kr0 ?_
  refine kr (.d [] [(2,9)] []) (ai c1 e2) trivial ?_
  refine kw (ai c1 e2) ?_
  exact kq
 have e2:¬ (200:Int) < (target.length:Int):=by omega
 rw [if_neg (fun h=>h.elim c1 c2)] at hA hP ⊢
 have hmk:(cM path=false)→∀ p,p.mono=false→¬ Oid.under p pp→a8 p N→ah Tryz.prog 52 [.ptr pp 0,.str path,.agg [.int .i64 3,.int .i64 7,.str target]] (Oid.under p) ⟨(pp,.cells [.ptr st 0,.str cwd,.int .i64 um])::bk (N,F),.int .i64 (aI (eO L cwd path ⟨3,7,target⟩).2),sb N F2⟩:=fun hE p hp hpp hO=>by
  rw [if_neg (by rw [hE];decide)] at hA hP
  exact Bd (pp:=pp) (st:=st) (N:=N) (F:=F) (F1:=F1) (F2:=F2) hK hm hc um hpN (p:=p) hp hpp hO path hpath 3 7 target hA hP
 by_cases c3:path=[]
 ·subst c3
  rw [if_neg (by decide)] at hA hP ⊢
  have hm1:=hmk rfl
  generalize aI (eO L cwd [] ⟨3,7,target⟩).2=E at hm1 ⊢
  unfold prC
  refine aD (n:=29) (rs:=[.tmp 6]) Tryz.func15 rfl rfl (by decide) rfl rfl rfl ?_;rintro x rfl hrd hng
  rw [aB]
  refine kr0 ?_
  refine kr (.d [] [(2,9)] []) (ai c1 e2) trivial ?_
  refine kw (ai c1 e2) ?_
  refine kr (.d [] [(2,16)] []) trivial trivial ?_
  refine kw0 ?_
  refine kr1 hm1 ?_
  refine kw0 ?_
  exact kq
 have hpl0:0 < path.length:=List.length_pos_iff.2 c3
 have hen:=oH c3
 have e1:((path.length:Int) - 1).toNat=path.length - 1:=by omega
 have e3:((path.length - 1:Nat):Int)=(path.length:Int) - 1:=by omega
 by_cases c4:cM path=true
 ·rw [if_pos c4] at hA hP ⊢
  obtain rfl:F=F1:=hA
  obtain rfl:F=F2:=hP
  have h47:=hen.1 c4
  unfold prC
  refine aD (n:=29) (rs:=[.tmp 6]) Tryz.func15 rfl rfl (by decide) rfl rfl rfl ?_;rintro x rfl hrd hng
  rw [aB]
  refine kr0 ?_
  refine kr (.d [] [(2,9)] []) (ai c1 e2) trivial ?_
  refine kw (ai c1 e2) ?_
  refine kr (.d [] [(2,16)] []) (ai c3 (ai e1 h47)) trivial ?_
  refine kw0 ?_
  exact kq
 ·rw [if_neg c4] at hA hP ⊢
  have hm1:=hmk (by simpa using c4)
  have h47:¬ ((path.getD (path.length - 1) 0).toNat:Int)=47:=fun h=>c4 (hen.2 h)
  generalize aI (eO L cwd path ⟨3,7,target⟩).2=E at hm1 ⊢
  unfold prC
  refine aD (n:=29) (rs:=[.tmp 6]) Tryz.func15 rfl rfl (by decide) rfl rfl rfl ?_;rintro x rfl hrd hng
  rw [aB]
  refine kr0 ?_
  refine kr (.d [] [(2,9)] []) (ai c1 e2) trivial ?_
  refine kw (ai c1 e2) ?_
  refine kr (.d [] [(2,16)] []) (ai c3 (ai e1 h47)) trivial ?_
  refine kw0 ?_
  refine kr1 hm1 ?_
  refine kw0 ?_
  exact kq
omit hK hm hc hp hpp hO in
theorem Gz:ah Tryz.prog 98 [.ptr pp 0] (Oid.under p) ⟨(pp,prC st cwd um)::bk (N,F),.str (xW cwd),sb N F⟩:=by
 unfold prC
 refine aD (n:=12) (rs:=[.tmp 2]) Tryz.func98 rfl rfl (by decide) rfl rfl rfl ?_;rintro x rfl hrd hng
 rw [aB]
 refine qr .o hpN trivial ?_
 refine qw hpN ?_
 unfold xW
 by_cases c:cwd=[]
 ·rw [if_pos c]
  refine aS rfl rfl (fun hb=>?_) (fun hb=>?_)
  case refine_2=>exact absurd c hb
  refine qw hpN ?_
  refine ay (dp (qs hpN) (by show _=some _;simp (disch:=first|omega|assumption) only [go_sem,hpN]) (by first|exact nbu _|exact nbA (by simp [hpN]) _))
 ·rw [if_neg c]
  refine aS rfl rfl (fun hb=>?_) (fun hb=>?_)
  case refine_1=>exact absurd hb c
  refine qw hpN ?_
  refine ay (dp (qs hpN) (by show _=some _;simp (disch:=first|omega|assumption) only [go_sem,hpN]) (by first|exact nbu _|exact nbA (by simp [hpN]) _))
end
end Go.Proofs.YtmoaidkglldhcaaGreatDoor
namespace Go.Ab
open Go.Proofs Go.Shelf Go.Sort
theorem ax.bare {x:Ctx} {g:Gh} {m:Mem} {w W:World} {p:Oid} (h:ax x g m w) (hcom:∀ b o v,g.com b o=some v→W.cell? ⟨b,o,none⟩=some v)
  (hrow:∀ b r,g.row b=some r→∃ c t fz,W.heap[b]? = some (.cells c t fz)∧c.size=r) (htyp:∀ (b:Nat) (c:Array Value) (t:TypeId) (fz:Nat × Nat),w.heap[b]? = some (Obj.cells c t fz)→∃ c' fz',W.heap[b]? = some (Obj.cells c' t fz')):ax { ng:=x.ng,g0:=g,w0:=W,may0:=fun _=>False,p:=p,rd:=none } g Mem.emp W :=
 ⟨Gh.le_refl g,fun _ _=>rfl,h.glob,fun _ _ _ hv=>.inl hv,fun _ _ hi=>(by cases hi),fun _ _ _ _ _ hi=>(by cases hi),hcom,h.one,hrow,rfl,rfl,⟨rfl,fun _=>Nat.le_refl _⟩,Nat.le_refl _,fun _ _ _=>rfl,fun t q b hb=>let ⟨c,fz,h1⟩:=h.typs t q b hb;htyp b c t fz h1⟩
theorem ax.grown {x:Ctx} {g:Gh} {m:Mem} {w:World} (h:ax x g m w) (hm:∀ b,¬ x.may0 b) (hp:x.p.mono=true):∃ q os,w=grow (x.w0.drewN q) os:=by
 refine ⟨w.drawn - x.w0.drawn,w.heap.extract x.w0.heap.size w.heap.size,?_⟩
 have hh:w.heap=x.w0.heap++w.heap.extract x.w0.heap.size w.heap.size:=by
  apply Array.ext_getElem?
  intro b
  rw [Array.getElem?_append]
  split
  ·rename_i hb;exact h.kept b hb (hm b)
  ·rename_i hb
   rw [Array.getElem?_extract]
   by_cases hb':b < w.heap.size
   ·rw [if_pos (by omega),show x.w0.heap.size+(b - x.w0.heap.size)=b by omega]
   ·rw [if_neg (by omega),Array.getElem?_eq_none (by omega)]
 have hd:=h.output.2 hp
 obtain ⟨heap,tape,drawn,os,output⟩:=w
 simp only [grow,World.drewN] at hh hd ⊢
 have h1:=h.os;have h2:=h.tape;have h3:=h.output.1
 simp only at h1 h2 h3
 rw [← hh,← h1,← h2,← h3]
 congr 1
 omega
section
variable {α:Type} [Inhabited α] (enc:α→List Value) (k:Nat)
theorem lq {w:World} {b m:Nat} {dk:Array α} {os:Array Obj} {b':Nat} (hb:b'≠b) (hlt:b' < w.heap.size):(sortWorldK enc k w b 0 m dk os).heap[b']? = w.heap[b']? := by
 unfold sortWorldK putRowK putRow mapBlock
 rw [heap_grow_old _ _ (by simpa [ahead] using hlt)]
 simp [Array.getElem?_modify,Ne.symm hb,ahead]
theorem lr {w:World} {b m:Nat} {dk:Array α} {os:Array Obj} {c:Array Value} {t:TypeId} {fz:Nat × Nat} (hb:w.heap[b]? = some (.cells c t fz)) :
  (sortWorldK enc k w b 0 m dk os).heap[b]? = some (.cells (putCells id 0 (flatK enc k dk) c) t fz):=by
 have hlt:=(Array.getElem?_eq_some_iff.1 hb).1
 unfold sortWorldK putRowK putRow mapBlock
 rw [heap_grow_old _ _ (by simpa [ahead] using hlt)]
 simp [Array.getElem?_modify,hb,ahead,onCells]
theorem fB (d:Array Value) (c:Array Value):(putCells id 0 d c).size=c.size:=by simp [putCells]
theorem Dw {w:World} {b m:Nat} {dk:Array α} {os:Array Obj}:w.heap.size≤(sortWorldK enc k w b 0 m dk os).heap.size:=size_sortWorldK_c enc k w b 0 m dk os
end
theorem Dx {P:Program} [Laid P] {ρ:Ren} (L:SlLaysF0.n6 P ρ) {α:Type} [Inhabited α] (k:Nat) (aE:∀ w,(isAgg (ρ.t 24)).run P w = .ok true w) (zE:∀ w,(Go.sizeOf (ρ.t 24)).run P w = .ok k w)
  (enc:α→List Value) (av:α→AV) (hk:∀ x,(enc x).length=k) (h1:∀ x,∀ v ∈ enc x,v.oneCell' = true) (hcl:∀ x,(av x).cells.length=k) (hagg:∀ g x,VR g (av x) (.agg (enc x).toArray))
  (henc:∀ g x j v,j < k→(VR g ((av x).cells.getD j .undef) v↔v=(enc x).getD j undef)) (cf:α→α→Int) (hO:SWO (ltOf cf)) (gf:Nat)
  (hg:∀ x y p,ah P gf [av x,av y] (Oid.under p) ⟨[],.int .i64 (cf x y),[]⟩) (l:List α) (hl:¬ l=[]) (hsz:l.length < 4611686018427387904) (rid p:Oid) (he:cE P (ρ.f 6)=true) :
  bT P (ρ.f 6) [.sl rid k l.length,.fn (.func gf) [] []] (Oid.under p) [(rid,.arr k (l.map av))] (fun v u=>v = .tuple []∧∃ l':List α,l'.Perm l∧l'.Pairwise (fun x y=>ltOf cf y x=false)∧u=[(rid,some (.arr k (l'.map av)))]) (fun _ _=>False):=by
 refine ⟨he,fun x g args w m hm hn hargs hsp hng=>?_⟩
 have hmi:=hn _ List.mem_cons_self
 simp only at hmi
 have a0:=hargs.2 0 (by simp)
 have a1:=hargs.2 1 (by simp)
 simp only [List.getD_cons_zero,List.getD_cons_succ] at a0 a1
 have hne:l.length≠0:=fun e=>hl (List.eq_nil_of_length_eq_zero e)
 obtain ⟨b,cap,e0,hloc,hcap,hrow⟩:=a0.ew.resolve_left fun h=>hne h.1
 obtain ⟨fa,fb,e1,s1,s2,_,_⟩:=a1.iX
 have f1:fa=#[]:=Array.eq_empty_of_size_eq_zero (by simpa using s1)
 have f2:fb=#[]:=Array.eq_empty_of_size_eq_zero (by simpa using s2)
 subst f1;subst f2
 have eargs:args=#[.slice (some ⟨b,0,none⟩) l.toArray.size cap,.func (.func gf) #[] #[]]:=by
  apply Array.ext
  ·rw [hargs.1];rfl
  ·intro i h2 h3
   have hi:i < 2:=h3
   rcases i with _|_|i
   ·simpa [Array.getD_eq_getD_getElem?,h2] using e0
   ·simpa [Array.getD_eq_getD_getElem?,h2] using e1
   ·omega
 obtain ⟨b0,hb0,hcom,hmay,hobj⟩:=hm.iU hmi hloc
 rw [hloc] at hb0;simp only [Option.some.injEq] at hb0;subst hb0
 obtain ⟨c,t,fz,hh,hcs,hfz,hxl,hone,hv⟩:=hobj
 have hlt:=(Array.getElem?_eq_some_iff.1 hh).1
 simp only [List.length_map] at hcs hxl hone hv
 have hcell:∀ i j,i < l.length→j < k→c.getD (i * k+j) undef=(enc (l.getD i default)).getD j undef:=fun i j hi hj=>by
  have:=hv i j hi hj
  rw [mc av hi] at this
  exact (henc g _ j _ hj).1 this
 have hH:HoldsK enc k w b 0 l.toArray:=by
  intro j hj
  rw [size_flatK] at hj
  have hj':j < l.length * k:=by simpa using hj
  have hk0:0 < k:=Nat.pos_of_ne_zero fun e=>by subst e;simp at hj'
  have hi:j / k < l.length:=(Nat.div_lt_iff_lt_mul hk0).2 hj'
  have hjc:j < c.size:=by omega
  constructor
  ·rw [get_flatK _ _ _ _ hj]
   have h3:=hcell (j / k) (j % k) hi (Nat.mod_lt _ hk0)
   have h4:j / k * k+j % k=j:=Nat.div_add_mod' j k
   rw [h4] at h3
   simp only [World.cell?,hh,Nat.zero_add,Option.isSome_none,Bool.false_eq_true,if_false,Array.getElem?_eq_getElem hjc,Option.some.injEq,id_eq]
   rw [Array.getD_eq_getD_getElem?,Array.getElem?_eq_getElem hjc,Option.getD_some] at h3
   rw [h3]
   have h5:l.toArray[j / k]! = l.getD (j / k) default:=by simp [List.getElem?_eq_getElem hi,hi]
   rw [h5]
   have h6:j % k < (enc (l.getD (j / k) default)).length:=by rw [hk];exact Nat.mod_lt _ hk0
   rw [getElem!_pos (enc (l.getD (j / k) default)) (j % k) h6,List.getD_eq_getElem?_getD,List.getElem?_eq_getElem h6,Option.getD_some]
  ·simp only [World.frozen?,hh,Nat.zero_add]
   have:=hfz j hjc
   by_cases h:fz.1≤j
   ·have:¬ j < fz.2:=fun h'=>this ⟨h,h'⟩
    simp [this]
   ·simp [h]
 have hcmp:CmpLays P gf #[] enc k cf b 0 l.toArray.size w:=by
  intro mm os dk hs u v
  have hb:=hm.bare (W:=sortWorldK enc k w b 0 mm dk os) (p:=.sub 0 999983 p) (fun b' o v hv=>?_) (fun b' r hr=>?_) (fun b' c9 t9 fz9 h9=>?_)
  ·have hc:=(hg u v (.sub 0 999983 p)).calls _ g #[.agg (enc u).toArray,.agg (enc v).toArray] _ _ hb (fun q hq=>by cases hq) ⟨rfl,fun j hj=>?_⟩ (fun i hi=>⟨(hsp i (Oid.ae hi)).1,hi⟩) (hng.inner rfl hm.le)
   ·refine hc.mono fun en w' ⟨g',v',h2,h3,h4,h5,h6⟩=>⟨by rw [h2,h5.bn],?_⟩
    exact h6.grown (fun _ h=>h) (by simp [Oid.mZ])
   ·rcases j with _|_|j
    ·exact hagg g u
    ·exact hagg g v
    ·exact absurd hj (by simp)
  ·have hb':b'≠b:=fun e=>by subst e;rw [hcom o] at hv;cases hv
   have h2:=hm.com b' o v hv
   have h3:b' < w.heap.size:=by
    rcases Nat.lt_or_ge b' w.heap.size with h|h
    ·exact h
    ·simp [World.cell?,Array.getElem?_eq_none h] at h2
   simp only [World.cell?] at h2 ⊢
   rw [lq enc k hb' h3];exact h2
  ·obtain ⟨c',t',fz',h2,h3⟩:=hm.rows b' r hr
   by_cases hb':b' = b
   ·subst hb';exact ⟨_,_,_,lr enc k h2,by rw [fB];exact h3⟩
   ·exact ⟨c',t',fz',by rw [lq enc k hb' (Array.getElem?_eq_some_iff.1 h2).1];exact h2,h3⟩
  ·by_cases hb':b' = b
   ·subst hb';exact ⟨_,_,lr enc k h9⟩
   ·exact ⟨c9,fz9,by rw [lq enc k hb' (Array.getElem?_eq_some_iff.1 h9).1];exact h9⟩
 have eg:∀ args w,(callFunc gf args).run P w = .ok (.enter gf args) w:=by
  have he:=(hg default default p).enters
  unfold cE at he
  cases hfn:P.funcs[gf]? with
  | none=>rw [hfn] at he;cases he
  | some fn =>
   rw [hfn] at he
   simp only [Bool.and_eq_true,bne_iff_ne,ne_eq] at he
   obtain ⟨he1,he2⟩:=he
   have hb:fn.body.isNone=false:=by cases hbb:fn.body<;>simp_all
   have hnm:(fn.name == "runtime.NumGoroutine")=false:=by simpa using he2
   intro args w
   simp only [callFunc,Sem.run_bind,run_program,hfn,hnm,hb,Bool.false_eq_true,if_false,Result.andThen_ok,Sem.run_pure]
 rw [eargs]
 refine (AnyQ.slices_SortFunc L k aE zE enc hk h1 cf hO gf #[] b 0 cap l.toArray w eg hcmp hH hlt (by simpa using hsz)).mono ?_
 rintro en w' ⟨rfl,d',n,os,hp,hs,rfl⟩
 refine .inl ⟨g,_,.tuple [],[(rid,some (.arr k (d'.toList.map av)))],rfl,⟨rfl,d'.toList,?_,?_,rfl⟩,Gh.le_refl g,fun _ _=>rfl,.tuple _ _ rfl (fun j hj=>absurd hj (Nat.not_lt_zero _)),?_⟩
 ·have h2:=hp.2.2
  have h3:=hp.1
  have h5:d'.size=l.length:=by simpa using h3
  have h6:d'.toList.Perm (List.take d'.size l):=by simpa [← h3] using h2
  rwa [h5,List.take_length] at h6
 ·rw [List.pairwise_iff_getElem]
  intro i j hi hj hij
  have hi':i < d'.size:=by simpa using hi
  have hj':j < d'.size:=by simpa using hj
  have:=hs i j (Nat.zero_le _) hij (by rw [← hp.1];exact hj')
  rw [getElem!_pos d' i hi',getElem!_pos d' j hj'] at this
  simpa using this
 ·have hds:d'.size=l.length:=by simpa using hp.1
  refine hm.gU (o:=.arr k (d'.toList.map av)) hmi hloc rfl rfl ⟨rfl,Nat.le_add_right _ _⟩ (Dw enc k) (fun b' hb' hlt'=>lq enc k hb' hlt') (fun r hr=>?_) ?_ ?_
  ·obtain ⟨c',t',fz',h2,h3⟩:=hm.rows b r hr
   exact ⟨_,_,_,lr enc k h2,by rw [fB];exact h3⟩
  ·intro c9 t9 fz9 h9;exact ⟨_,_,lr enc k h9⟩
  ·have hget:∀ i j,i < d'.size→j < k→(putCells id 0 (flatK enc k d') c).getD (i * k+j) undef=(enc d'[i]!).getD j undef:=fun i j hi hj=>by
    have hlt2:i * k+j < d'.size * k:=by
     have:=Nat.mul_le_mul_right k (show i+1≤d'.size from hi);rw [Nat.add_mul,Nat.one_mul] at this;omega
    have hc2:i * k+j < c.size:=by rw [hds] at hlt2;omega
    have e1:(i * k+j) / k=i:=(blk_iff k i _ (by omega)).1 ⟨by omega,by omega⟩
    have e2:(i * k+j) % k=j:=by rw [Nat.mod_eq_sub_div_mul,e1];omega
    have h6:j < (enc d'[i]!).length:=by rw [hk];exact hj
    simp only [putCells,Array.getD_eq_getD_getElem?,Array.getElem?_mapIdx,Array.getElem?_eq_getElem hc2,Option.map_some,Option.getD_some,Nat.zero_le,true_and,Nat.zero_add,Nat.sub_zero,size_flatK,hlt2,if_true,id_eq]
    rw [get_flatK _ _ _ _ hlt2,e1,e2,getElem!_pos (enc d'[i]!) j h6,List.getD_eq_getElem?_getD,List.getElem?_eq_getElem h6,Option.getD_some]
   have hav:∀ i,i < d'.size→(d'.toList.map av).getD i .undef=av d'[i]! := fun i hi=>by
    rw [getElem!_pos d' i hi]
    simp [List.getD_eq_getElem?_getD,List.getElem?_map,hi]
   refine ⟨_,t,fz,lr enc k hh,?_,?_,?_,?_,?_⟩
   ·rw [fB,List.length_map,Array.length_toList,hds];exact hcs
   ·rw [fB];exact hfz
   ·intro i hi
    rw [hav i (by simpa using hi)];exact hcl _
   ·intro j hj
    have hj':j < d'.size * k:=by simpa using hj
    have hk0:0 < k:=Nat.pos_of_ne_zero fun e=>by subst e;simp at hj'
    have hi:j / k < d'.size:=(Nat.div_lt_iff_lt_mul hk0).2 hj'
    have:=hget (j / k) (j % k) hi (Nat.mod_lt _ hk0)
    rw [Nat.div_add_mod'] at this
    rw [this]
    have h6:j % k < (enc d'[j / k]!).length:=by rw [hk];exact Nat.mod_lt _ hk0
    rw [List.getD_eq_getElem?_getD,List.getElem?_eq_getElem h6,Option.getD_some]
    exact h1 _ _ (List.getElem_mem h6)
   ·intro i j hi hj
    have hi':i < d'.size:=by simpa using hi
    rw [hav i hi',hget i j hi' hj]
    exact (henc g _ j _ hj).2 rfl
end Go.Ab
namespace Go.Proofs
open Go.Shelf
def Tryz.p9:Go.Shelf.Ren:=⟨fun|6=>78|15=>105|14=>104|28=>134|29=>135|20=>126|21=>127|22=>128|23=>129|24=>130|25=>131|26=>132|27=>133|46=>157|47=>158|48=>159|49=>160|50=>161|57=>174|n=>n,fun|22=>59|24=>115|25=>117|3=>3|39=>136|0=>0|53=>159|55=>161|4=>4|46=>152|45=>151|50=>156|5=>5|9=>9|66=>181|70=>185|76=>193|77=>194|n=>n,fun|n=>n⟩
theorem Tryz.GA:Go.Proofs.SlLaysF0.n6 Tryz.prog Tryz.p9:={
 mixed:=by kernel_rfl
 f6:=⟨Tryz.f78.name,by decide,Tryz.func78.trans (congrArg some (by kernel_rfl))⟩
 f14:=⟨Tryz.f104.name,by decide,Tryz.func104.trans (congrArg some (by kernel_rfl))⟩
 f15:=Tryz.func105.trans (congrArg some (by kernel_rfl))
 f20:=⟨Tryz.f126.name,by decide,Tryz.func126.trans (congrArg some (by kernel_rfl))⟩
 f21:=⟨Tryz.f127.name,by decide,Tryz.func127.trans (congrArg some (by kernel_rfl))⟩
 f22:=⟨Tryz.f128.name,by decide,Tryz.func128.trans (congrArg some (by kernel_rfl))⟩
 f23:=⟨Tryz.f129.name,by decide,Tryz.func129.trans (congrArg some (by kernel_rfl))⟩
 f24:=⟨Tryz.f130.name,by decide,Tryz.func130.trans (congrArg some (by kernel_rfl))⟩
 f25:=⟨Tryz.f131.name,by decide,Tryz.func131.trans (congrArg some (by kernel_rfl))⟩
 f26:=⟨Tryz.f132.name,by decide,Tryz.func132.trans (congrArg some (by kernel_rfl))⟩
 f27:=⟨Tryz.f133.name,by decide,Tryz.func133.trans (congrArg some (by kernel_rfl))⟩
 f28:=Tryz.func134.trans (congrArg some (by kernel_rfl))
 f29:=Tryz.func135.trans (congrArg some (by kernel_rfl))
 f46:=⟨Tryz.f157.name,by decide,Tryz.func157.trans (congrArg some (by kernel_rfl))⟩
 f47:=Tryz.func158.trans (congrArg some (by kernel_rfl))
 f48:=Tryz.func159.trans (congrArg some (by kernel_rfl))
 f49:=⟨Tryz.f160.name,by decide,Tryz.func160.trans (congrArg some (by kernel_rfl))⟩
 f50:=⟨Tryz.f161.name,by decide,Tryz.func161.trans (congrArg some (by kernel_rfl))⟩
 f57:=⟨Tryz.f174.name,by decide,Tryz.func174.trans (congrArg some (by kernel_rfl))⟩
 t0:=Tryz.underlying0
 a0:=Tryz.isAgg0
 z0:=Tryz.sizeOf0
 v0:=Tryz.zeroValue0
 t3:=Tryz.underlying3
 a3:=Tryz.isAgg3
 z3:=Tryz.sizeOf3
 v3:=Tryz.zeroValue3
 t4:=Tryz.underlying4
 a4:=Tryz.isAgg4
 z4:=Tryz.sizeOf4
 v4:=Tryz.zeroValue4
 t5:=Tryz.underlying5
 a5:=Tryz.isAgg5
 z5:=Tryz.sizeOf5
 v5:=Tryz.zeroValue5
 t9:=Tryz.underlying9
 a9:=Tryz.isAgg9
 z9:=Tryz.sizeOf9
 v9:=Tryz.zeroValue9
 t22:=Tryz.underlying59
 a22:=Tryz.isAgg59
 z22:=Tryz.sizeOf59
 v22:=Tryz.zeroValue59
 t25:=Tryz.underlying117
 a25:=Tryz.isAgg117
 z25:=Tryz.sizeOf117
 v25:=Tryz.zeroValue117
 t39:=Tryz.underlying136
 a39:=Tryz.isAgg136
 z39:=Tryz.sizeOf136
 v39:=Tryz.zeroValue136
 t45:=Tryz.underlying151
 a45:=Tryz.isAgg151
 z45:=Tryz.sizeOf151
 v45:=Tryz.zeroValue151
 t46:=Tryz.underlying152
 a46:=Tryz.isAgg152
 z46:=Tryz.sizeOf152
 v46:=Tryz.zeroValue152
 t50:=Tryz.underlying156
 a50:=Tryz.isAgg156
 z50:=Tryz.sizeOf156
 v50:=Tryz.zeroValue156
 t53:=Tryz.underlying159
 a53:=Tryz.isAgg159
 z53:=Tryz.sizeOf159
 v53:=Tryz.zeroValue159
 t55:=Tryz.underlying161
 a55:=Tryz.isAgg161
 z55:=Tryz.sizeOf161
 v55:=Tryz.zeroValue161
 t66:=Tryz.underlying181
 a66:=Tryz.isAgg181
 z66:=Tryz.sizeOf181
 v66:=Tryz.zeroValue181
 t70:=Tryz.underlying185
 a70:=Tryz.isAgg185
 z70:=Tryz.sizeOf185
 v70:=Tryz.zeroValue185
 t76:=Tryz.underlying193
 a76:=Tryz.isAgg193
 z76:=Tryz.sizeOf193
 v76:=Tryz.zeroValue193
 t77:=Tryz.underlying194
 a77:=Tryz.isAgg194
 z77:=Tryz.sizeOf194
 v77:=Tryz.zeroValue194 }
end Go.Proofs
namespace Go.Proofs.YtmoaidkglldhcaaGreatDoor
open Go Go.Ab
open Go.Proofs (ltOf)
set_option maxRecDepth 20000
set_option maxHeartbeats 4000000
def uX (a b:Int):Int:=if a < b then -1 else if b < a then 1 else 0
def mH (a b:Str):Int:=if ltS a b then -1 else if a=b then 0 else 1
def orI:List Int→Int
 | []=>0
 | a::l=>if a=0 then orI l else a
def b2i (b:Bool):Int:=if b then 1 else 0
theorem x8 (a:Int) (p:Oid):ah Tryz.prog 137 [.int .i64 a] (Oid.under p) ⟨[],.bool false,[]⟩:=by
 refine aD (n:=6) (rs:=[.tmp 2]) Tryz.func137 rfl rfl (by decide) rfl rfl rfl ?_;rintro x rfl hrd hng
 refine qw0 ?_
 exact ay (bt rfl)
theorem x9 (a:List UInt8) (p:Oid):ah Tryz.prog 136 [.str a] (Oid.under p) ⟨[],.bool false,[]⟩:=by
 refine aD (n:=6) (rs:=[.tmp 2]) Tryz.func136 rfl rfl (by decide) rfl rfl rfl ?_;rintro x rfl hrd hng
 refine qw0 ?_
 exact ay (bt rfl)
theorem tt (a b:Int) (p:Oid):ah Tryz.prog 108 [.int .i64 a,.int .i64 b] (Oid.under p) ⟨[],.int .i64 (uX a b),[]⟩:=by
 refine aD (n:=20) (rs:=[.tmp 4]) Tryz.func108 rfl rfl (by decide) rfl rfl rfl ?_;rintro x rfl hrd hng
 (repeat (first|(refine aA rfl rfl ?_)|(refine az rfl rfl ?_)|(refine ar nmd [] hng (by kernel_rfl) fun hf C S K hC1 hC hS hK=>?_;simp (disch:=first|omega|assumption) only [go_sem];(repeat ((first|refine hC1 _ (x8 _ _) (by simp (disch:=first|omega|assumption) only [go_sem]) ?_);simp (disch:=first|omega|assumption) only [go_sem]));refine hK ?_;clear hK hS hC hC1 K S C hf)|((first|refine zn ?_|refine ze ?_|refine zk ?_);with_reducible (constructor;repeat constructor);try refine zl ?_)))
 refine aS rfl rfl (fun hb=>?_) (fun hb=>?_)
 ·refine qw0 ?_
  refine ay (bt (congrArg (AV.int .i64) ?_));simp only [uX,if_pos hb]
 ·refine qw0 ?_
  refine aS rfl rfl (fun hb=>?_) (fun hb=>?_)
  ·refine qw0 ?_
   refine ay (bt (congrArg (AV.int .i64) ?_));grind [uX]
  ·refine qw0 ?_
   refine ay (bt (congrArg (AV.int .i64) ?_));grind [uX]
theorem tu (a b:Str) (p:Oid):ah Tryz.prog 107 [.str a,.str b] (Oid.under p) ⟨[],.int .i64 (mH a b),[]⟩:=by
 refine aD (n:=20) (rs:=[.tmp 4]) Tryz.func107 rfl rfl (by decide) rfl rfl rfl ?_;rintro x rfl hrd hng
 (repeat (first|(refine aA rfl rfl ?_)|(refine az rfl rfl ?_)|(refine ar nmd [] hng (by kernel_rfl) fun hf C S K hC1 hC hS hK=>?_;simp (disch:=first|omega|assumption) only [go_sem];(repeat ((first|refine hC1 _ (x9 _ _) (by simp (disch:=first|omega|assumption) only [go_sem]) ?_);simp (disch:=first|omega|assumption) only [go_sem]));refine hK ?_;clear hK hS hC hC1 K S C hf)|((first|refine zn ?_|refine ze ?_|refine zk ?_);with_reducible (constructor;repeat constructor);try refine zl ?_)))
 refine lE rfl rfl (fun hb=>?_) (fun hb=>?_)
 ·refine qw0 ?_
  refine ay (bt (congrArg (AV.int .i64) ?_));grind [mH]
 ·refine qw0 ?_
  refine lE rfl rfl (fun hb=>?_) (fun hb=>?_)
  ·refine qw0 ?_
   refine ay (bt (congrArg (AV.int .i64) ?_));grind [mH]
  ·refine qw0 ?_
   refine ay (bt (congrArg (AV.int .i64) ?_));grind [mH]
theorem GB (l:List Int) (hl:l.length≤9223372036854775807) (p:Oid):ah Tryz.prog 106 [.list 1 (l.map (AV.int .i64))] (Oid.under p) ⟨[],.int .i64 (orI l),[]⟩:=by
 refine aD (n:=18) (rs:=[.tmp 2]) Tryz.func106 rfl rfl (by decide) rfl rfl rfl ?_;rintro x rfl hrd hng
 refine qw0 ?_
 refine bK [3,6,7,8] (fun k s'=>∃ (i:Nat) (c:Nat),k=l.length - i∧i≤l.length∧orI (l.drop i)=orI l∧s' = ⟨[(3,.int .i64 0),(6,.list 1 (l.map (AV.int .i64))),(7,.int .i64 l.length),(8,.int .i64 i)],Mem.of [],c,[]⟩) _ ⟨0,_,rfl,Nat.zero_le _,rfl,rfl⟩ ?_
 rintro k s' ⟨i,c,rfl,hi,hno,rfl⟩
 refine qw0 ?_
 refine aS rfl rfl (fun hb=>?_) (fun hb=>?_)
 ·have hd1:=drop_cons (l:=l) (i:=i) (by omega)
  rw [hd1,orI] at hno
  clear hd1
  refine qw0 ?_
  refine aS rfl rfl (fun hb=>?_) (fun hb=>?_)
  ·refine qw0 ?_
   refine ay (bt (congrArg (AV.int .i64) ?_));rw [← hno,if_neg hb]
  ·refine qw0 ?_
   have hb':l.getD i default=0:=Classical.not_not.1 hb
   refine ⟨_,_,?_,fun _ _ h=>h,i+1,_,rfl,by omega,?_,rfl⟩
   ·omega
   ·rw [← hno,if_pos hb']
 ·refine qw0 ?_
  refine ay (bt (congrArg (AV.int .i64) ?_))
  rw [← hno,List.drop_eq_nil_of_le (by omega)];rfl
theorem ya (b:Bool) (p:Oid):ah Tryz.prog 109 [.bool b] (Oid.under p) ⟨[],.int .i64 (b2i b),[]⟩:=by
 refine aD (n:=4) (rs:=[.tmp 2]) Tryz.func109 rfl rfl (by decide) rfl rfl rfl ?_;rintro x rfl hrd hng
 refine qw0 ?_
 refine lE rfl rfl (fun hb=>?_) (fun hb=>?_)
 ·subst hb;(repeat (first|(refine aA rfl rfl ?_)|(refine az rfl rfl ?_)|(refine ar nmd [] hng (by kernel_rfl) fun hf C S K hC1 hC hS hK=>?_;simp (disch:=first|omega|assumption) only [go_sem];refine hK ?_;clear hK hS hC hC1 K S C hf)|((first|refine zn ?_|refine ze ?_|refine zk ?_);with_reducible (constructor;repeat constructor);try refine zl ?_)))
  exact ay (bt rfl)
 ·subst hb;(repeat (first|(refine aA rfl rfl ?_)|(refine az rfl rfl ?_)|(refine ar nmd [] hng (by kernel_rfl) fun hf C S K hC1 hC hS hK=>?_;simp (disch:=first|omega|assumption) only [go_sem];refine hK ?_;clear hK hS hC hC1 K S C hf)|((first|refine zn ?_|refine ze ?_|refine zk ?_);with_reducible (constructor;repeat constructor);try refine zl ?_)))
  exact ay (bt rfl)
theorem Dy (a b:Str):mH a b < 0↔ltS a b=true:=by
 simp only [mH];split
 ·rename_i h;exact ⟨fun _=>h,fun _=>by decide⟩
 ·rename_i h
  refine ⟨fun h2=>?_,fun h2=>absurd h2 h⟩
  split at h2<;>simp at h2
theorem wm (a b:Str):mH a b=0↔a=b:=by
 simp only [mH];split
 ·rename_i h
  refine ⟨fun h=>by simp at h,fun e=>?_⟩
  subst e;rw [rm] at h;cases h
 ·split
  ·rename_i e;exact ⟨fun _=>e,fun _=>rfl⟩
  ·rename_i e;exact ⟨fun h=>absurd h (by decide),fun h=>absurd h e⟩
abbrev Tch:=(Str × Bool) × Str
instance:Inhabited Tch:=⟨(([],false),[])⟩
def j5 (x y:Tch):Int:=orI [mH x.1.1 y.1.1,uX (b2i x.1.2) (b2i y.1.2)]
theorem wo (x y:Tch):j5 x y < 0↔ltF x.1 y.1:=by
 simp only [j5,orI,ltF,ltB,← Dy]
 have he:=wm x.1.1 y.1.1
 by_cases h:mH x.1.1 y.1.1=0
 ·have:=he.1 h
  have h0:mH y.1.1 y.1.1=0:=(wm _ _).2 rfl
  rw [this]
  cases x.1.2<;>cases y.1.2<;>simp [uX,b2i,h0]
 ·have hne:¬ x.1.1=y.1.1:=fun e=>h (he.2 e)
  simp [h,hne]
theorem Dz (x y:Tch) (p:Oid):ah Tryz.prog 79 [aY x,aY y] (Oid.under p) ⟨[],.int .i64 (j5 x y),[]⟩:=by
 have h5:=fun p=>GB [mH x.1.1 y.1.1,uX (b2i x.1.2) (b2i y.1.2)] (by simp) p
 simp only [List.map_cons,List.map_nil] at h5
 simp only [aY,j5]
 refine aD (n:=19) (rs:=[.tmp 4]) Tryz.func79 rfl rfl (by decide) rfl rfl rfl ?_;rintro x rfl hrd hng
 refine qr0 ?_
 refine cV nmd [] [(4,6),(4,9),(7,9)] mixed hng (by kernel_rfl) [4] fun hf C S K hC hS hK=>?_;simp (disch:=first|omega|assumption) only [go_sem]
 (repeat ((first|refine hC _ (tu _ _ _) (by simp (disch:=first|omega|assumption) only [go_sem]) ?_|refine hC _ (ya _ _) (by simp (disch:=first|omega|assumption) only [go_sem]) ?_|refine hC _ (tt _ _ _) (by simp (disch:=first|omega|assumption) only [go_sem]) ?_|refine hC _ (h5 _) (by simp (disch:=first|omega|assumption) only [go_sem]) ?_);simp (disch:=first|omega|assumption) only [go_sem]))
 (first|refine hK (aT rfl) ?_|refine hK (by simp (disch:=first|omega|assumption) only [go_sem,List.reverse_cons,List.reverse_nil,ne_eq,not_false_eq_true,implies_true]) ?_);clear hK hS hC K S C hf
 refine qw0 ?_
 exact ay (bt rfl)
theorem Bf:Go.Sort.SWO (ltOf j5):=by
 have key:∀ x y,ltOf j5 x y=true↔ltF x.1 y.1:=fun x y=>by rw [ltOf,decide_eq_true_eq,wo]
 have key2:∀ x y,ltOf j5 x y=false↔¬ ltF x.1 y.1:=fun x y=>by rw [← key,Bool.not_eq_true]
 refine ⟨fun x=>(key2 x x).2 (jT.irr _),fun x y z h1 h2=>(key x z).2 (jT.tr _ _ _ ((key x y).1 h1) ((key y z).1 h2)),fun x y z h1 h2=>(key2 x z).2 fun h=>?_⟩
 have h1:=(key2 x y).1 h1
 have h2:=(key2 y z).1 h2
 by_cases e:x.1=y.1
 ·rw [e] at h;exact h2 h
 ·exact h2 (jT.tr _ _ _ (jT.tot _ _ h1 e) h)
theorem tw {l R:List Tch} (hp:l.Perm R) (hR:aV ltF R) (hs:l.Pairwise fun x y=>ltOf j5 y x=false):l=R:=by
 have hnd:(l.map (·.1)).Nodup:=((hp.map (·.1)).nodup_iff).2 (hR.nodup jT)
 refine lM jT hp ?_ hR
 rw [List.nodup_iff_pairwise_ne,List.pairwise_map] at hnd
 refine (hs.and hnd).imp ?_
 rintro a b ⟨h1,h2⟩
 have h3:¬ ltF b.1 a.1:=fun h=>by rw [ltOf,decide_eq_false_iff_not,wo] at h1;exact h1 h
 exact jT.tot _ _ h3 fun e=>h2 e.symm
def Bg (h:Tch):List Value:=[.string ⟨h.1.1.toArray⟩,.bool h.1.2,.string ⟨h.2.toArray⟩]
theorem qa (g:Gh) (h:Tch) (j:Nat) (v:Value) (hj:j < 3):VR g ((aY h).cells.getD j .undef) v↔v=(Bg h).getD j undef:=by
 rcases j with _|_|_|j
 ·exact mR
 ·exact ⟨fun k=>VR.bZ k,fun k=>by rw [k];exact .bool _⟩
 ·exact mR
 ·omega
theorem Bh (l:List Tch) (hl:¬ l=[]) (hsz:l.length < 4611686018427387904) (id p:Oid) :
  bT Tryz.prog 78 [.sl id 3 l.length,.fn (.func 79) [] []] (Oid.under p) [(id,.arr 3 (l.map aY))] (fun v u=>v = .tuple []∧∃ l':List Tch,l'.Perm l∧l'.Pairwise (fun x y=>ltOf j5 y x=false)∧u=[(id,some (.arr 3 (l'.map aY)))]) (fun _ _=>False) :=
 Dx (ρ:=Tryz.p9) Tryz.GA 3 Tryz.isAgg115 Tryz.sizeOf115 Bg aY (fun _=>rfl) (fun x v hv=>by
   simp only [Bg,List.mem_cons,List.not_mem_nil,or_false] at hv
   rcases hv with rfl|rfl|rfl<;>rfl) (fun _=>rfl)
  (fun g x=>.agg _ _ rfl fun j hj=>by
   have hj':j < 3:=hj
   have:=(qa g x j _ hj').2 rfl
   simpa [List.getD_eq_getElem?_getD,Array.getD_eq_getD_getElem?,aY,AV.cells] using this) qa j5 Bf 79 (fun x y p=>Dz x y p) l hl hsz id p (by kernel_rfl)
end Go.Proofs.YtmoaidkglldhcaaGreatDoor
namespace Go.Proofs.YtmoaidkglldhcaaGreatDoor
open Go Go.Ab
set_option maxRecDepth 20000
set_option maxHeartbeats 4000000
theorem yb (b1 o:Oid) (es:List ME) (clock:Nat) (p:Oid) (hne1:¬ o=b1) (hb1:¬ Oid.under p b1) (ho:¬ Oid.under p o) :
  nJ Tryz.prog 110 [.ptr b1 0] p [(b1,.cells [.map o]),(o,.map [.ss] false es clock)] 1 (fun pre xs=>pre.length < es.length∧∃ s:Str,xs=[.str s]) (fun b pre=>b=true→∃ U:List ME,U.Perm es∧pre=U.map fun e=>[.str (dq e)]):=by
 intro l J L0 hJ hdis hnp hY
 refine eM (by kernel_rfl) fun hcon=>?_
 refine gH (n:=14) (rs:=[]) Tryz.func110 rfl rfl (by decide) rfl rfl rfl ?_;rintro x rfl hrd hng
 have hcL:∀ q ∈ L0,Mem.of L0 q.1=some q.2:=fun q hq=>by
  have:=hcon q (List.mem_append_right _ hq)
  rwa [uG fun q' hq'=>hdis q hq q' hq'] at this
 generalize hQ:dG Tryz.prog [] ([(b1,.cells [.map o]),(o,.map [.ss] false es clock)]++L0) _ _=Q
 refine Cf fun hwf=>?_
 obtain ⟨hw1,hw2⟩:=hwf o [.ss] false es clock (by simp only [aW,bc,Mem.af,Mem.aH,Mem.aO,Mem.aR,br,bI,List.cons_append,List.nil_append,List.append_nil,↓reduceIte,eq_self,and_true,true_and,and_self,and_false,false_and,reduceCtorEq,Oid.sub.injEq,Nat.reduceEqDiff,hne1,Oid.aa hb1,Oid.aa ho,Oid.ab hb1,Oid.ab ho])
 have hstr:∀ e ∈ es,e.key = .str (dq e):=fun e he=>by
  obtain ⟨s,hs⟩:=jq (hw1 e he).1
  simp only [dq,hs]
 (try ((first|refine zn ?_|refine ze ?_|refine zk ?_);with_reducible (constructor;repeat constructor));try refine zl ?_)
 refine ar nmd [] hng (by kernel_rfl) fun hf C S K hC1 hC hS hK=>?_;simp (disch:=first|omega|assumption) only [go_sem,hne1,Oid.aa hb1,Oid.aa ho,Oid.ab hb1,Oid.ab ho,aM]
 refine hK ?_;clear hK hS hC hC1 K S C hf
 (try ((first|refine zn ?_|refine ze ?_|refine zk ?_);with_reducible (constructor;repeat constructor));try refine zl ?_)
 have hn0:∀ q ∈ L0,¬ q.1=b1∧¬ q.1=o∧¬ q.1 = .sub 0 1 x.p:=fun q hq=>⟨hdis q hq _ List.mem_cons_self,hdis q hq _ (List.mem_cons_of_mem _ List.mem_cons_self),fun e=>hnp q hq (e ▸ Oid.ae (Oid.aq _))⟩
 refine jZ ([(b1,.cells [.map o]),(o,.map [.ss] false es clock),(.sub 0 1 x.p,.iter (some o) clock [] clock)]++L0) (jK ?_ ?_) ?_
 ·simp only [aW,bc,Mem.af,Mem.aH,Mem.aO,Mem.aR,br,bI,List.cons_append,List.nil_append,List.append_nil,↓reduceIte,eq_self,and_true,true_and,and_self,and_false,false_and,reduceCtorEq,Oid.sub.injEq,Nat.reduceEqDiff,hne1,Oid.aa hb1,Oid.aa ho,Oid.ab hb1,Oid.ab ho,aM]
 ·intro q hq
  obtain ⟨a1,a2,a3⟩:=hn0 q hq
  simp only [aW,bc,Mem.af,Mem.aH,Mem.aO,Mem.aR,br,bI,List.cons_append,List.nil_append,List.append_nil,↓reduceIte,eq_self,and_true,true_and,and_self,and_false,false_and,reduceCtorEq,Oid.sub.injEq,Nat.reduceEqDiff,aM,a1,a2,a3]
  exact hcL q hq
 refine bK [0,1,5] (fun q s'=>∃ (c:Nat) (U:List ME) (L:List (Oid × ao)),s' = ⟨[(0,.fn (.yield l) [] []),(1,.ptr b1 0),(5,.iter (.sub 0 1 x.p))],Mem.of ([(b1,.cells [.map o]),(o,.map [.ss] false es clock),(.sub 0 1 x.p,.iter (some o) clock (U.map ME.born) clock)]++L),c,[]⟩∧0 < c∧q=es.length - U.length∧(U.map ME.born).Nodup∧(∀ e ∈ U,e ∈ es)∧J true (U.map fun e=>[.str (dq e)]) L ∧
  (∀ q ∈ L,Mem.of L q.1=some q.2)∧∀ q ∈ L,((∃ q' ∈ L0,q'.1=q.1)∨Oid.under x.p q.1)∧¬ q.1=b1∧¬ q.1=o∧¬ q.1 = .sub 0 1 x.p∧∀ d j,c≤d→¬ Oid.under (.sub d j x.p) q.1) es.length ⟨_,[],L0,rfl,by omega,rfl,List.nodup_nil,fun i h=>(by cases h),hJ,hcL,fun q hq=>⟨.inl ⟨q,hq,rfl⟩,(hn0 q hq).1,(hn0 q hq).2.1,(hn0 q hq).2.2,fun d j _ h=>hnp q hq (Oid.ae h)⟩⟩ ?_
 rintro q s' ⟨c,U,L,rfl,hc,rfl,hnd,hlt,hj,hcc,hnm⟩
 have hst:U.map ME.born=[]∨es=[]∨∃ e ∈ es,e.born < clock:=by
  cases U with
  | nil=>exact .inl rfl
  | cons e _=>exact .inr (.inr ⟨e,hlt e List.mem_cons_self,(hw1 e (hlt e List.mem_cons_self)).2⟩)
 (try ((first|refine zn ?_|refine ze ?_|refine zk ?_);with_reducible (constructor;repeat constructor));try refine zl ?_)
 refine ar nmd [] hng (by kernel_rfl) fun hf C S K hC1 hC hS hK=>?_;simp (disch:=first|omega|assumption) only [go_sem]
 refine hS _ _ _ (fun o' hd ho'=>mO (it:=.sub 0 1 x.p) (id:=o) (since:=clock) (ks:=[.ss]) (ag:=false) (clock:=clock) ho' rfl hst) ?_ ?_ (fun _ _ h=>h.elim)
 ·simp only [aW,bc,Mem.af,Mem.aH,Mem.aO,Mem.aR,br,bI,List.cons_append,List.nil_append,List.append_nil,↓reduceIte,eq_self,and_true,true_and,and_self,and_false,false_and,reduceCtorEq,Oid.sub.injEq,Nat.reduceEqDiff,hne1,Oid.aa hb1,Oid.aa ho,Oid.ab hb1,Oid.ab ho]
 rintro val upd (⟨e,he,hns,rfl,rfl⟩|⟨hall,rfl,rfl⟩)
 ·have hfi:=find_born hw2 he
  have hk:=hstr e he
  have hnd':((U++[e]).map ME.born).Nodup:=by
   rw [List.map_append]
   exact List.nodup_append.2 ⟨hnd,by simp,fun a ha b hb' e'=>by simp at hb';subst hb';subst e';exact hns ha⟩
  have hlt':∀ j ∈ U++[e],j ∈ es:=fun j hj=>by
   rcases List.mem_append.1 hj with hj|hj
   ·exact hlt j hj
   ·simp at hj;subst hj;exact he
  have hle:=mS hw2 hlt' hnd'
  generalize hks:dq e=s at *
  simp (disch:=first|omega|assumption) only [go_sem,hne1,Oid.aa hb1,Oid.aa ho,Oid.ab hb1,Oid.ab ho,aM,hk]
  refine hK ?_;clear hK hS hC hC1 K S C hf
  (repeat (first|(refine aA rfl rfl ?_)|(refine az rfl rfl ?_)|(refine ar nmd [] hng (by kernel_rfl) fun hf C S K hC1 hC hS hK=>?_;simp (disch:=first|omega|assumption) only [go_sem];refine hK ?_;clear hK hS hC hC1 K S C hf)|((first|refine zv ?_|refine zw ?_|refine zu ?_);with_reducible (constructor;repeat constructor);try refine zl ?_)))
  refine gM ?_
  (repeat (first|(refine aA rfl rfl ?_)|(refine az rfl rfl ?_)|(refine ar nmd [] hng (by kernel_rfl) fun hf C S K hC1 hC hS hK=>?_;simp (disch:=first|omega|assumption) only [go_sem];refine hK ?_;clear hK hS hC hC1 K S C hf)|((first|refine zv ?_|refine zw ?_|refine zu ?_);with_reducible (constructor;repeat constructor);try refine zl ?_)))
  refine ar nmd [] hng (by kernel_rfl) fun hf C S K hC1 hC hS hK=>?_;simp (disch:=first|omega|assumption) only [go_sem,hne1,Oid.aa hb1,Oid.aa ho,Oid.ab hb1,Oid.ab ho,aM,hfi,hk,List.getLast?_concat]
  refine hK ?_;clear hK hS hC hC1 K S C hf
  (repeat (first|(refine aA rfl rfl ?_)|(refine az rfl rfl ?_)|(refine ar nmd [] hng (by kernel_rfl) fun hf C S K hC1 hC hS hK=>?_;simp (disch:=first|omega|assumption) only [go_sem];refine hK ?_;clear hK hS hC hC1 K S C hf)|((first|refine zv ?_|refine zw ?_|refine zu ?_);with_reducible (constructor;repeat constructor);try refine zl ?_)))
  have hnL:∀ q ∈ L,∀ q' ∈ ([(b1,.cells [.map o]),(o,.map [.ss] false es clock),(.sub 0 1 x.p,.iter (some o) clock (U.map ME.born++[e.born]) clock)]:List (Oid × ao)),¬ q.1=q'.1:=fun q hq=>by
   obtain ⟨_,a1,a2,a3,a4⟩:=hnm q hq
   simp only [aW,bc,Mem.af,Mem.aH,Mem.aO,Mem.aR,br,bI,List.cons_append,List.nil_append,List.append_nil,↓reduceIte,eq_self,and_true,true_and,and_self,and_false,false_and,reduceCtorEq,Oid.sub.injEq,Nat.reduceEqDiff,a1,a2,a3,not_false_eq_true]
  have hBm:∀ q ∈ ([(b1,.cells [.map o]),(o,.map [.ss] false es clock),(.sub 0 1 x.p,.iter (some o) clock (U.map ME.born++[e.born]) clock)]:List (Oid × ao)),Mem.of ([(b1,.cells [.map o]),(o,.map [.ss] false es clock),(.sub 0 1 x.p,.iter (some o) clock (U.map ME.born++[e.born]) clock)]++L) q.1=some q.2:=by
   simp only [aW,bc,Mem.af,Mem.aH,Mem.aO,Mem.aR,br,bI,List.cons_append,List.nil_append,List.append_nil,↓reduceIte,eq_self,and_true,true_and,and_self,and_false,false_and,reduceCtorEq,Oid.sub.injEq,Nat.reduceEqDiff,hne1,Oid.aa hb1,Oid.aa ho,Oid.ab hb1,Oid.ab ho]
  have hall:=eW hBm hnL hcc
  have hmm:(U++[e]).map ME.born=U.map ME.born++[e.born]:=by simp
  have hlen2:(U++[e]).length=U.length+1:=by simp
  refine ar nmd [] hng (by kernel_rfl) fun hf C S K hC1 hC hS hK=>?_;simp (disch:=first|omega|assumption) only [go_sem,hne1,Oid.aa hb1,Oid.aa ho,Oid.ab hb1,Oid.ab ho,aM]
  refine hS _ _ _ (fun o' hd ho'=>lD ho' rfl (hY _ [.str s] L (.sub (c+1+1) 2 x.p) hj rfl ⟨by rw [List.length_map];rw [hlen2] at hle;omega,s,rfl⟩)) (fun q hq=>hall q (List.mem_append_right _ hq)) ?_ (fun _ _ h=>h.elim)
  rintro val upd ⟨b,L',rfl,hj',hU⟩
  have hym:=lF hU (fun q hq=>hall q (List.mem_append_right _ hq)) hBm ?_
  rotate_left
  ·intro q hq
   refine ⟨fun q' hq'=>hnL q' hq' q hq,fun hu=>?_⟩
   simp only [List.mem_cons,List.not_mem_nil,or_false] at hq
   rcases hq with rfl|rfl|rfl
   ·exact hb1 (Oid.ae hu)
   ·exact ho (Oid.ae hu)
   ·have:=(Oid.apart hu (Oid.aq _)).1;omega
  have hcl:∀ q ∈ L',Mem.of L' q.1=some q.2:=fun q hq=>by
   obtain ⟨o',ho'⟩:=Mem.kS hq
   obtain ⟨q',h1,h2,h3⟩:=Mem.dV ho'
   have h4:=hym q (List.mem_append_right _ hq)
   have h5:=hym q' (List.mem_append_right _ h1)
   rw [h2,h4,h3] at h5
   rw [ho'];exact h5.symm
  simp (disch:=first|omega|assumption) only [go_sem]
  refine hK ?_;clear hK hS hC hC1 K S C hf
  (repeat (first|(refine aA rfl rfl ?_)|(refine az rfl rfl ?_)|(refine ar nmd [] hng (by kernel_rfl) fun hf C S K hC1 hC hS hK=>?_;simp (disch:=first|omega|assumption) only [go_sem];refine hK ?_;clear hK hS hC hC1 K S C hf)|((first|refine zv ?_|refine zw ?_|refine zu ?_);with_reducible (constructor;repeat constructor);try refine zl ?_)))
  refine jZ ([(b1,.cells [.map o]),(o,.map [.ss] false es clock),(.sub 0 1 x.p,.iter (some o) clock (U.map ME.born++[e.born]) clock)]++L') (by rw [← Mem.aO];exact hym) ?_
  have hnm':∀ q ∈ L',((∃ q' ∈ L0,q'.1=q.1)∨Oid.under x.p q.1)∧¬ q.1=b1∧¬ q.1=o∧¬ q.1 = .sub 0 1 x.p∧∀ d j,c+1+1+1≤d→¬ Oid.under (.sub d j x.p) q.1:=fun q hq=>by
   rcases hU.nam q hq with ⟨q',h1,h2⟩|h1
   ·obtain ⟨a0,a1,a2,a3,a4⟩:=hnm q' h1
    rw [h2] at a0 a1 a2 a3 a4
    exact ⟨a0,a1,a2,a3,fun d j hd=>a4 d j (by omega)⟩
   ·have hu:=Oid.ae h1
    refine ⟨.inr hu,fun e=>hb1 (e ▸ hu),fun e=>ho (e ▸ hu),fun e=>?_,fun d j hd h2=>?_⟩
    ·rw [e] at h1;have:=(Oid.apart h1 (Oid.aq _)).1;omega
    ·have:=(Oid.apart h1 h2).1;omega
  have hmap:((U++[e]).map fun e=>[AV.str (dq e)])=(U.map fun e=>[AV.str (dq e)])++[[.str s]]:=by simp [hks]
  have hnL':∀ q ∈ L',∀ q' ∈ ([(b1,.cells [.map o]),(o,.map [.ss] false es clock),(.sub 0 1 x.p,.iter (some o) clock (U.map ME.born++[e.born]) clock)]:List (Oid × ao)),¬ q.1=q'.1:=fun q hq=>by
   obtain ⟨_,a1,a2,a3,a4⟩:=hnm' q hq
   simp only [aW,bc,Mem.af,Mem.aH,Mem.aO,Mem.aR,br,bI,List.cons_append,List.nil_append,List.append_nil,↓reduceIte,eq_self,and_true,true_and,and_self,and_false,false_and,reduceCtorEq,Oid.sub.injEq,Nat.reduceEqDiff,a1,a2,a3,not_false_eq_true]
  have hall':=eW (L:=L') (B:=[(b1,.cells [.map o]),(o,.map [.ss] false es clock),(.sub 0 1 x.p,.iter (some o) clock (U.map ME.born++[e.born]) clock)]) (fun q hq=>by
   have:=hym q (List.mem_append_left _ hq)
   revert q
   simp only [aW,bc,Mem.af,Mem.aH,Mem.aO,Mem.aR,br,bI,List.cons_append,List.nil_append,List.append_nil,↓reduceIte,eq_self,and_true,true_and,and_self,and_false,false_and,reduceCtorEq,Oid.sub.injEq,Nat.reduceEqDiff,hne1,Oid.aa hb1,Oid.aa ho,Oid.ab hb1,Oid.ab ho,implies_true]) hnL' hcl
  cases b with
  | true =>
   refine qw0 ?_
   rw [← hmap] at hj'
   refine ⟨_,Mem.of ([(b1,.cells [.map o]),(o,.map [.ss] false es clock),(.sub 0 1 x.p,.iter (some o) clock (U.map ME.born++[e.born]) clock)]++L'),?_,iH hall',c+1+1+1,U++[e],L',by rw [hmm];rfl,by omega,rfl,hnd',hlt',hj',hcl,hnm'⟩
   rw [hlen2] at hle ⊢;omega
  | false =>
   refine aA rfl rfl (ay ?_)
   subst hQ
   have hsw:=iG (L:=[(b1,.cells [.map o]),(o,.map [.ss] false es clock)]++L0) (L':=[(b1,.cells [.map o]),(o,.map [.ss] false es clock)]++L') (m:=Mem.of ([(b1,.cells [.map o]),(o,.map [.ss] false es clock),(.sub 0 1 x.p,.iter (some o) clock (U.map ME.born++[e.born]) clock)]++L')) (sp:=Oid.under x.p) (fun q hq=>hall' q (by
     rcases List.mem_append.1 hq with hq|hq
     ·exact List.mem_append_left _ (by simp only [List.mem_cons,List.not_mem_nil,or_false] at hq ⊢;rcases hq with h|h<;>simp [h])
     ·exact List.mem_append_right _ hq)) (fun q hq=>by
     rcases List.mem_append.1 hq with hq|hq
     ·exact .inl ⟨q,List.mem_append_left _ hq,rfl⟩
     ·rcases (hnm' q hq).1 with ⟨q',h1,h2⟩|h
      ·exact .inl ⟨q',List.mem_append_right _ h1,h2⟩
      ·exact .inr h)
   exact bw _ _ rfl ⟨false,_,L',fun h=>(by cases h),hj',hsw.1⟩ hsw.2
 ·simp (disch:=first|omega|assumption) only [go_sem]
  refine hK ?_;clear hK hS hC hC1 K S C hf
  (try ((first|refine zn ?_|refine ze ?_|refine zk ?_);with_reducible (constructor;repeat constructor));try refine zl ?_)
  subst hQ
  have hfull:=jG hw2 hlt hnd fun e he=>hall e he (hw1 e he).2
  have hnL:∀ q ∈ L,∀ q' ∈ ([(b1,.cells [.map o]),(o,.map [.ss] false es clock),(.sub 0 1 x.p,.iter (some o) clock (U.map ME.born) clock)]:List (Oid × ao)),¬ q.1=q'.1:=fun q hq=>by
   obtain ⟨_,a1,a2,a3,a4⟩:=hnm q hq
   simp only [aW,bc,Mem.af,Mem.aH,Mem.aO,Mem.aR,br,bI,List.cons_append,List.nil_append,List.append_nil,↓reduceIte,eq_self,and_true,true_and,and_self,and_false,false_and,reduceCtorEq,Oid.sub.injEq,Nat.reduceEqDiff,a1,a2,a3,not_false_eq_true]
  have hall':=eW (L:=L) (B:=[(b1,.cells [.map o]),(o,.map [.ss] false es clock),(.sub 0 1 x.p,.iter (some o) clock (U.map ME.born) clock)]) (by
   simp only [aW,bc,Mem.af,Mem.aH,Mem.aO,Mem.aR,br,bI,List.cons_append,List.nil_append,List.append_nil,↓reduceIte,eq_self,and_true,true_and,and_self,and_false,false_and,reduceCtorEq,Oid.sub.injEq,Nat.reduceEqDiff,hne1,Oid.aa hb1,Oid.aa ho,Oid.ab hb1,Oid.ab ho]) hnL hcc
  have hsw:=iG (L:=[(b1,.cells [.map o]),(o,.map [.ss] false es clock)]++L0) (L':=[(b1,.cells [.map o]),(o,.map [.ss] false es clock)]++L) (m:=Mem.of ([(b1,.cells [.map o]),(o,.map [.ss] false es clock),(.sub 0 1 x.p,.iter (some o) clock (U.map ME.born) clock)]++L)) (sp:=Oid.under x.p) (fun q hq=>hall' q (by
     rcases List.mem_append.1 hq with hq|hq
     ·exact List.mem_append_left _ (by simp only [List.mem_cons,List.not_mem_nil,or_false] at hq ⊢;rcases hq with h|h<;>simp [h])
     ·exact List.mem_append_right _ hq)) (fun q hq=>by
     rcases List.mem_append.1 hq with hq|hq
     ·exact .inl ⟨q,List.mem_append_left _ hq,rfl⟩
     ·rcases (hnm q hq).1 with ⟨q',h1,h2⟩|h
      ·exact .inl ⟨q',List.mem_append_right _ h1,h2⟩
      ·exact .inr h)
  refine az rfl rfl ?_
  (try ((first|refine zn ?_|refine ze ?_|refine zk ?_);with_reducible (constructor;repeat constructor));try refine zl ?_)
  refine cK ?_
  exact eL _ _ rfl ⟨true,_,L,fun _=>⟨U,hfull,rfl⟩,hj,hsw.1⟩ hsw.2
theorem Bi (o:Oid) (p:Oid) (ho:¬ Oid.under p o):ah Tryz.prog 80 [.map o] (Oid.under p) ⟨[],.fn (.func 110) [] [.ptr (.sub 0 0 p) 0],[(.sub 0 0 p,some (.cells [.map o]))]⟩:=by
 refine aD (n:=4) (rs:=[.tmp 2]) Tryz.func80 rfl rfl (by decide) rfl rfl rfl ?_;rintro x rfl hrd hng
 refine qw0 ?_
 refine ay (bw _ _ rfl ⟨rfl,rfl⟩ ?_)
 intro i o' h
 rw [Mem.aO] at h
 exact h
end Go.Proofs.YtmoaidkglldhcaaGreatDoor
namespace Go.Proofs
open Go.Shelf
def Tryz.tx:Go.Shelf.Ren:=⟨fun|125=>105|128=>134|129=>135|n=>n,fun|46=>136|3=>3|51=>159|53=>161|4=>4|5=>5|9=>9|n=>n,fun|n=>n⟩
theorem Tryz.DA:Go.Proofs.Lays.n125 Tryz.prog Tryz.tx:={
 mixed:=by kernel_rfl
 f125:=Tryz.func105.trans (congrArg some (by kernel_rfl))
 f128:=Tryz.func134.trans (congrArg some (by kernel_rfl))
 f129:=Tryz.func135.trans (congrArg some (by kernel_rfl))
 t3:=Tryz.underlying3
 a3:=Tryz.isAgg3
 z3:=Tryz.sizeOf3
 v3:=Tryz.zeroValue3
 t4:=Tryz.underlying4
 a4:=Tryz.isAgg4
 z4:=Tryz.sizeOf4
 v4:=Tryz.zeroValue4
 t5:=Tryz.underlying5
 a5:=Tryz.isAgg5
 z5:=Tryz.sizeOf5
 v5:=Tryz.zeroValue5
 t9:=Tryz.underlying9
 a9:=Tryz.isAgg9
 z9:=Tryz.sizeOf9
 v9:=Tryz.zeroValue9
 t46:=Tryz.underlying136
 a46:=Tryz.isAgg136
 z46:=Tryz.sizeOf136
 v46:=Tryz.zeroValue136
 t51:=Tryz.underlying159
 a51:=Tryz.isAgg159
 z51:=Tryz.sizeOf159
 v51:=Tryz.zeroValue159
 t53:=Tryz.underlying161
 a53:=Tryz.isAgg161
 z53:=Tryz.sizeOf161
 v53:=Tryz.zeroValue161 }
theorem Tryz.bits_Len (x:Int) (w:World) (h0:0≤x) (h1:x≤18446744073709551615) :
  Calls Tryz.prog 105 #[.int .u64 x] w fun e w'=>e = .returned (.int .i64 (Lib.bitLen x.toNat))∧w' = w:=Any.bits_Len Tryz.DA x w h0 h1
end Go.Proofs
namespace Go.Proofs.YtmoaidkglldhcaaGreatDoor
open Go Go.Ab
set_option maxRecDepth 20000
set_option maxHeartbeats 4000000
theorem tz (sp:Oid→Prop):ah Tryz.prog 105 [.int .u64 0] sp ⟨[],.int .i64 0,[]⟩ :=
 gN (by kernel_rfl) fun g args w ha _=>by
  obtain ⟨v,rfl,hv⟩:=ha.one
  obtain rfl:=hv.bn
  refine (Tryz.bits_Len 0 w (by decide) (by decide)).mono ?_
  rintro e w' ⟨rfl,rfl⟩
  exact ⟨_,rfl,.int _ _,rfl⟩
theorem pj (id:Oid) (f:AV) (p:Oid):ah Tryz.prog 126 [.sl id 3 0,.int .i64 0,.int .i64 0,f] (Oid.under p) ⟨[],.tuple [],[]⟩:=by
 refine aD (n:=53) (rs:=[]) Tryz.func126 rfl rfl (by decide) rfl rfl rfl ?_;rintro x rfl hrd hng
 refine qw0 ?_
 refine bK [2,8] (fun k s'=>∃ c:Nat,k=0∧s' = ⟨[(2,.int .i64 0),(8,.int .i64 1)],Mem.of [],c,[]⟩) _ ⟨_,rfl,rfl⟩ ?_
 rintro k s' ⟨c,rfl,rfl⟩
 refine qw0 ?_
 exact cK (bU rfl (fun _ h=>by cases h) (fun _ h=>by cases h))
theorem DB (id:Oid) (f:AV) (p:Oid):ah Tryz.prog 104 [.sl id 3 0,.int .i64 0,.int .i64 0,.int .i64 0,f] (Oid.under p) ⟨[],.tuple [],[]⟩:=by
 refine aD (n:=148) (rs:=[]) Tryz.func104 rfl rfl (by decide) rfl rfl rfl ?_;rintro x rfl hrd hng
 refine qw0 ?_
 refine bK [0,1,2,3,4,10,11] (fun k s'=>∃ c:Nat,k=0∧s' = ⟨[(0,.sl id 3 0),(1,.int .i64 0),(2,.int .i64 0),(3,.int .i64 0),(4,f),(10,.bool true),(11,.bool true)],Mem.of [],c,[]⟩) _ ⟨_,rfl,rfl⟩ ?_
 rintro k s' ⟨c,rfl,rfl⟩
 (repeat (first|(refine aA rfl rfl ?_)|(refine az rfl rfl ?_)|(refine ar nmd [] hng (by kernel_rfl) fun hf C S K hC1 hC hS hK=>?_;simp (disch:=first|omega|assumption) only [go_sem];(repeat ((first|refine hC1 _ (pj id f _) (by simp (disch:=first|omega|assumption) only [go_sem]) ?_);simp (disch:=first|omega|assumption) only [go_sem]));refine hK ?_;clear hK hS hC hC1 K S C hf)|((first|refine zn ?_|refine ze ?_|refine zk ?_);with_reducible (constructor;repeat constructor);try refine zl ?_)))
 exact ay (dI rfl)
theorem Bj (id:Oid) (f:AV) (p:Oid):ah Tryz.prog 78 [.sl id 3 0,f] (Oid.under p) ⟨[],.tuple [],[]⟩:=by
 refine aD (n:=14) (rs:=[]) Tryz.func78 rfl rfl (by decide) rfl rfl rfl ?_;rintro x rfl hrd hng
 (repeat (first|(refine aA rfl rfl ?_)|(refine az rfl rfl ?_)|(refine ar nmd [] hng (by kernel_rfl) fun hf C S K hC1 hC hS hK=>?_;simp (disch:=first|omega|assumption) only [go_sem];(repeat ((first|refine hC1 _ (tz _) (by simp (disch:=first|omega|assumption) only [go_sem]) ?_|refine hC1 _ (DB id f _) (by simp (disch:=first|omega|assumption) only [go_sem]) ?_);simp (disch:=first|omega|assumption) only [go_sem]));refine hK ?_;clear hK hS hC hC1 K S C hf)|((first|refine zn ?_|refine ze ?_|refine zk ?_);with_reducible (constructor;repeat constructor);try refine zl ?_)))
 exact cK (bU rfl (fun _ h=>by cases h) (fun _ h=>by cases h))
end Go.Proofs.YtmoaidkglldhcaaGreatDoor
namespace Go.Proofs.YtmoaidkglldhcaaGreatDoor
open Go Go.Ab
set_option maxRecDepth 20000
set_option maxHeartbeats 40000000
def Ea (e:ME):Tch:=match e.key,e.val with
 | .agg [.str a,.bool b],.str v=>((a,b),v)
 | _,_=>(([],false),[])
theorem qc (T:List ((Str × Bool) × Str × Nat)):(T.map (eF cI AV.str)).map Ea=T.map prj:=by
 rw [List.map_map];rfl
theorem Bl {es:List ME} {W:WL} (h:iW AV.str (fun _:Unit=>.bool true) es W) (hs:aV ltB W):cP (es.map dq)=W.map (·.1):=by
 refine oh ?_ (List.pairwise_map.2 (hs.imp fun {a b} h=>List.le_of_lt (rn h)))
 obtain ⟨E,rfl,h2,_⟩:=h
 have h3:(E.map (eF AV.str (fun _:Unit=>AV.bool true))).map dq=(E.map prj).map (·.1):=by
  rw [List.map_map,List.map_map];rfl
 rw [h3]
 exact h2.map _
section
variable (st t tr o rd wr:Oid) (hn:[wr,rd,o,tr,t,st].Nodup) (es eso esr esw:List ME) (clock co cr cw:Nat)
include hn
theorem DC (L:PL) (R:RL) (W:WL) (hm3:iW cI AV.str esr R) (hR:aV ltF R) (hRl:R.length≤1000000) (hm4:iW AV.str (fun _:Unit=>.bool true) esw W) (hW:aV ltB W) (hWl:W.length≤1000000) (hm1:fH es L) (ho1:POk L) (hno:xL L) (p:Oid) (hp:p.mono=false) (hu:∀ i ∈ [st,t,tr,o,rd,wr],¬ Oid.under p i) :
  ah Tryz.prog 35 [.ptr st 0] (Oid.under p) ⟨[(st,.cells [.map t,.ptr tr 0]),(t,.map [.ss] false es clock),(tr,.cells [.map o,.map rd,.map wr]),(o,.map [.ss] false eso co),(rd,.map [.ss,.sb] true esr cr),(wr,.map [.ss] false esw cw)],.tuple [.list 3 (R.map aY),.list 3 (W.map fun w=>aY ((w.1,false),cC (aF L w.1)))],[(st,some (.cells [.map t,.nilPtr]))]⟩:=by
 simp only [List.nodup_cons,List.mem_cons,List.not_mem_nil,or_false,not_or,not_false_eq_true,List.nodup_nil,and_true] at hn;simp only [List.mem_cons,List.not_mem_nil,or_false,forall_eq_or_imp,forall_eq] at hu;have hd:=hn;obtain ⟨u1,u2,u3,u4,u5,u6⟩:=hu
 refine aD (n:=69) (rs:=[.tmp 2,.tmp 3]) Tryz.func35 rfl rfl (by decide) rfl rfl rfl ?_;rintro x rfl hrd hng
 refine Cf fun hwf=>?_
 obtain ⟨hw1,hw2⟩:=hwf rd [.ss,.sb] true esr cr (by simp only [aW,bc,Mem.af,Mem.aH,Mem.aO,Mem.aR,br,bI,List.cons_append,List.nil_append,List.append_nil,↓reduceIte,eq_self,and_true,true_and,and_self,and_false,false_and,reduceCtorEq,Oid.sub.injEq,Nat.reduceEqDiff,hd,Oid.ab u1,Oid.aa u1,Oid.ab u2,Oid.aa u2,Oid.ab u3,Oid.aa u3,Oid.ab u4,Oid.aa u4,Oid.ab u5,Oid.aa u5,Oid.ab u6,Oid.aa u6])
 (repeat (first|(refine aA rfl rfl ?_)|(refine az rfl rfl ?_)|(refine ar nmd [] hng (by kernel_rfl) fun hf C S K hC1 hC hS hK=>?_;simp (disch:=first|omega|assumption) only [go_sem,hd,Oid.ab u1,Oid.aa u1,Oid.ab u2,Oid.aa u2,Oid.ab u3,Oid.aa u3,Oid.ab u4,Oid.aa u4,Oid.ab u5,Oid.aa u5,Oid.ab u6,Oid.aa u6];refine hK ?_;clear hK hS hC hC1 K S C hf)|((first|refine zn ?_|refine ze ?_|refine zk ?_);with_reducible (constructor;repeat constructor);try refine zl ?_)))
 obtain ⟨E,hE0,hE,hEn⟩:=hm3
 have hmE:∀ q ∈ E,eF cI AV.str q ∈ esr:=fun q hq=>by rw [hE0];exact List.mem_map_of_mem hq
 have hEl:E.length=R.length:=by rw [← hE.length_eq,List.length_map]
 refine ko 2 3 rfl ?_
 simp (disch:=first|omega|assumption) only [go_sem,hd,Oid.ab u1,Oid.aa u1,Oid.ab u2,Oid.aa u2,Oid.ab u3,Oid.aa u3,Oid.ab u4,Oid.aa u4,Oid.ab u5,Oid.aa u5,Oid.ab u6,Oid.aa u6]
 refine bK [0,2,3,20] (fun k s'=>∃ (c d j:Nat) (T:List ((Str × Bool) × Str × Nat)),s' = ⟨[(0,.ptr st 0),(2,.sl (.sub d j x.p) 3 T.length),(3,.nilSl),(20,.iter (.sub 2 7 x.p))],Mem.of [(st,.cells [.map t,.ptr tr 0]),(t,.map [.ss] false es clock),(tr,.cells [.map o,.map rd,.map wr]),(o,.map [.ss] false eso co),(rd,.map [.ss,.sb] true esr cr),(wr,.map [.ss] false esw cw),(.sub 2 7 x.p,.iter (some rd) cr ((T.map (eF cI AV.str)).map ME.born) cr),(.sub d j x.p,.arr 3 ((T.map prj).map aY))],c,[]⟩∧k=E.length - T.length∧2 < d∧d < c∧((T.map (eF cI AV.str)).map ME.born).Nodup∧(∀ e ∈ T,e ∈ E)) _ ⟨4,3,0,[],rfl,rfl,by omega,by omega,by simp,fun e h=>by cases h⟩ ?_
 rintro k s' ⟨c,d,j,T,rfl,rfl,hd2,hdc,hnd,hlt⟩
 have hst:(T.map (eF cI AV.str)).map ME.born=[]∨esr=[]∨∃ e ∈ esr,e.born < cr:=by
  cases T with
  | nil=>exact .inl rfl
  | cons e _=>exact .inr (.inr ⟨eF cI AV.str e,hmE e (hlt e List.mem_cons_self),(hw1 _ (hmE e (hlt e List.mem_cons_self))).2⟩)
 have hd7:¬ d=2:=by omega
 (try ((first|refine zn ?_|refine ze ?_|refine zk ?_);with_reducible (constructor;repeat constructor));try refine zl ?_)
 refine ar nmd [] hng (by kernel_rfl) fun hf C S K hC1 hC hS hK=>?_;simp (disch:=first|omega|assumption) only [go_sem]
 refine hS _ _ _ (fun o' hd' ho'=>mO (it:=.sub 2 7 x.p) (id:=rd) (since:=cr) (ks:=[.ss,.sb]) (ag:=true) (clock:=cr) ho' rfl hst) ?_ ?_ (fun _ _ h=>h.elim)
 ·simp only [aW,bc,Mem.af,Mem.aH,Mem.aO,Mem.aR,br,bI,List.cons_append,List.nil_append,List.append_nil,↓reduceIte,eq_self,and_true,true_and,and_self,and_false,false_and,reduceCtorEq,Oid.sub.injEq,Nat.reduceEqDiff,hd,Oid.ab u1,Oid.aa u1,Oid.ab u2,Oid.aa u2,Oid.ab u3,Oid.aa u3,Oid.ab u4,Oid.aa u4,Oid.ab u5,Oid.aa u5,Oid.ab u6,Oid.aa u6]
 rintro val upd (⟨e,he,hns,rfl,rfl⟩|⟨hall,rfl,rfl⟩)
 ·have hfi:=find_born hw2 he
  rw [hE0] at he
  obtain ⟨q,hq,rfl⟩:=List.mem_map.1 he
  obtain ⟨⟨qn,qf⟩,qv,qb⟩:=q
  simp only [eF,cI] at hfi hns ⊢
  simp (disch:=first|omega|assumption) only [go_sem,hd,Oid.ab u1,Oid.aa u1,Oid.ab u2,Oid.aa u2,Oid.ab u3,Oid.aa u3,Oid.ab u4,Oid.aa u4,Oid.ab u5,Oid.aa u5,Oid.ab u6,Oid.aa u6,aM]
  refine hK ?_;clear hK hS hC hC1 K S C hf
  (repeat (first|(refine aA rfl rfl ?_)|(refine az rfl rfl ?_)|(refine ar nmd [] hng (by kernel_rfl) fun hf C S K hC1 hC hS hK=>?_;simp (disch:=first|omega|assumption) only [go_sem];refine hK ?_;clear hK hS hC hC1 K S C hf)|((first|refine zv ?_|refine zw ?_|refine zu ?_);with_reducible (constructor;repeat constructor);try refine zl ?_)))
  refine gM ?_
  (repeat (first|(refine aA rfl rfl ?_)|(refine az rfl rfl ?_)|(refine ar nmd [] hng (by kernel_rfl) fun hf C S K hC1 hC hS hK=>?_;simp (disch:=first|omega|assumption) only [go_sem];refine hK ?_;clear hK hS hC hC1 K S C hf)|((first|refine zv ?_|refine zw ?_|refine zu ?_);with_reducible (constructor;repeat constructor);try refine zl ?_)))
  refine ar nmd [] hng (by kernel_rfl) fun hf C S K hC1 hC hS hK=>?_;simp (disch:=first|omega|assumption) only [go_sem,hd,Oid.ab u1,Oid.aa u1,Oid.ab u2,Oid.aa u2,Oid.ab u3,Oid.aa u3,Oid.ab u4,Oid.aa u4,Oid.ab u5,Oid.aa u5,Oid.ab u6,Oid.aa u6,aM,hfi,List.getLast?_concat]
  refine hK ?_;clear hK hS hC hC1 K S C hf
  have hlen:(((T.map prj).map aY).length)=T.length:=by simp
  have hnd':(((T++[((qn,qf),qv,qb)]).map (eF cI AV.str)).map ME.born).Nodup:=by
   rw [List.map_append,List.map_append]
   exact List.nodup_append.2 ⟨hnd,by simp,fun a ha b hb' e'=>by simp [eF] at hb';subst hb';subst e';exact hns ha⟩
  have hlt':∀ e ∈ T++[((qn,qf),qv,qb)],e ∈ E:=fun e he=>by
   rcases List.mem_append.1 he with he|he
   ·exact hlt e he
   ·rw [List.mem_singleton.1 he];exact hq
  have hle:(T++[((qn,qf),qv,qb)]).length≤E.length:=by
   have h1:=mS (U:=(T++[((qn,qf),qv,qb)]).map (eF cI AV.str)) hw2 (fun e he=>by
    obtain ⟨q',h1,rfl⟩:=List.mem_map.1 he
    exact hmE q' (hlt' q' h1)) hnd'
   rw [hE0,List.length_map,List.length_map] at h1
   exact h1
  rw [List.length_append,List.length_singleton] at hle
  (repeat (first|(refine aA rfl rfl ?_)|(refine az rfl rfl ?_)|(refine ar nmd [] hng (by kernel_rfl) fun hf C S K hC1 hC hS hK=>?_;simp (disch:=first|omega|assumption) only [go_sem,hd,Oid.ab u1,Oid.aa u1,Oid.ab u2,Oid.aa u2,Oid.ab u3,Oid.aa u3,Oid.ab u4,Oid.aa u4,Oid.ab u5,Oid.aa u5,Oid.ab u6,Oid.aa u6,aM,AV.cells,hd7];refine hK ?_;clear hK hS hC hC1 K S C hf)|((first|refine zn ?_|refine ze ?_|refine zk ?_);with_reducible (constructor;repeat constructor);try refine zl ?_)))
  obtain ⟨T2,hT2⟩:∃ T2,T2=T++[((qn,qf),qv,qb)]:=⟨_,rfl⟩
  rw [← hT2] at hnd' hlt'
  have h1:(T2.map (eF cI AV.str)).map ME.born=(T.map (eF cI AV.str)).map ME.born++[qb]:=by rw [hT2];simp [eF]
  have h2:(T2.map prj).map aY=(T.map prj).map aY++[.agg [.str qn,.bool qf,.str qv]]:=by rw [hT2];simp [prj,aY]
  have h3:T2.length=T.length+1:=by rw [hT2];simp
  refine ⟨_,Mem.of [(st,.cells [.map t,.ptr tr 0]),(t,.map [.ss] false es clock),(tr,.cells [.map o,.map rd,.map wr]),(o,.map [.ss] false eso co),(rd,.map [.ss,.sb] true esr cr),(wr,.map [.ss] false esw cw),(.sub 2 7 x.p,.iter (some rd) cr ((T2.map (eF cI AV.str)).map ME.born) cr),(.sub (c+1+1) 8 x.p,.arr 3 ((T2.map prj).map aY))],?_,iH ?_,c+1+1+1,c+1+1,8,T2,?_,rfl,by omega,by omega,hnd',hlt'⟩
  ·omega
  ·rw [h1,h2]
   simp only [aW,bc,Mem.af,Mem.aH,Mem.aO,Mem.aR,br,bI,List.cons_append,List.nil_append,List.append_nil,↓reduceIte,eq_self,and_true,true_and,and_self,and_false,false_and,reduceCtorEq,Oid.sub.injEq,Nat.reduceEqDiff,hd,Oid.ab u1,Oid.aa u1,Oid.ab u2,Oid.aa u2,Oid.ab u3,Oid.aa u3,Oid.ab u4,Oid.aa u4,Oid.ab u5,Oid.aa u5,Oid.ab u6,Oid.aa u6]
  ·rw [h3];rfl
 ·have hfull:=jG hw2 (S:=T.map (eF cI AV.str)) (fun e he=>by
   obtain ⟨q',h1,rfl⟩:=List.mem_map.1 he
   exact hmE q' (hlt q' h1)) hnd fun e he=>hall e he (hw1 e he).2
  have hTp:(T.map prj).Perm R:=by
   have h1:=hfull.map Ea
   rw [qc,hE0,qc] at h1
   exact h1.trans hE
  have hlm:T.length=(T.map prj).length:=by simp
  simp (disch:=first|omega|assumption) only [go_sem,hd,Oid.ab u1,Oid.aa u1,Oid.ab u2,Oid.aa u2,Oid.ab u3,Oid.aa u3,Oid.ab u4,Oid.aa u4,Oid.ab u5,Oid.aa u5,Oid.ab u6,Oid.aa u6,aM]
  refine hK ?_;clear hK hS hC hC1 K S C hf
  (repeat (first|(refine aA rfl rfl ?_)|(refine az rfl rfl ?_)|(refine ar nmd [] hng (by kernel_rfl) fun hf C S K hC1 hC hS hK=>?_;simp (disch:=first|omega|assumption) only [go_sem];refine hK ?_;clear hK hS hC hC1 K S C hf)|((first|refine zn ?_|refine ze ?_|refine zk ?_);with_reducible (constructor;repeat constructor);try refine zl ?_)))
  refine jZ [(st,.cells [.map t,.ptr tr 0]),(t,.map [.ss] false es clock),(tr,.cells [.map o,.map rd,.map wr]),(o,.map [.ss] false eso co),(rd,.map [.ss,.sb] true esr cr),(wr,.map [.ss] false esw cw),(.sub d j x.p,.arr 3 ((T.map prj).map aY))] (by simp only [aW,bc,Mem.af,Mem.aH,Mem.aO,Mem.aR,br,bI,List.cons_append,List.nil_append,List.append_nil,↓reduceIte,eq_self,and_true,true_and,and_self,and_false,false_and,reduceCtorEq,Oid.sub.injEq,Nat.reduceEqDiff,hd,Oid.ab u1,Oid.aa u1,Oid.ab u2,Oid.aa u2,Oid.ab u3,Oid.aa u3,Oid.ab u4,Oid.aa u4,Oid.ab u5,Oid.aa u5,Oid.ab u6,Oid.aa u6,hd7]) ?_
  rw [hlm]
  generalize T.map prj=l at hTp
  refine cL [0,2,3] (fun s'=>∃ c2:Nat,s' = ⟨[(0,.ptr st 0),(2,.sl (.sub d j x.p) 3 R.length),(3,.nilSl)],Mem.of [(st,.cells [.map t,.ptr tr 0]),(t,.map [.ss] false es clock),(tr,.cells [.map o,.map rd,.map wr]),(o,.map [.ss] false eso co),(rd,.map [.ss,.sb] true esr cr),(wr,.map [.ss] false esw cw),(.sub d j x.p,.arr 3 (R.map aY))],c2,[]⟩∧d < c2) ?_ ?_
  ·by_cases hl0:l=[]
   ·subst hl0
    obtain rfl:R=[]:=List.nil_perm.1 hTp
    refine ar nmd [] hng (by kernel_rfl) fun hf C S K hC1 hC hS hK=>?_;simp (disch:=first|omega|assumption) only [go_sem,List.length_nil,List.map_nil]
    refine hC1 _ (Bj (.sub d j x.p) _ _) (by simp (disch:=first|omega|assumption) only [go_sem]) ?_
    simp (disch:=first|omega|assumption) only [go_sem,hd,Oid.ab u1,Oid.aa u1,Oid.ab u2,Oid.aa u2,Oid.ab u3,Oid.aa u3,Oid.ab u4,Oid.aa u4,Oid.ab u5,Oid.aa u5,Oid.ab u6,Oid.aa u6,aM]
    refine hK ?_;clear hK hS hC hC1 K S C hf
    exact aQ ⟨_,rfl,by omega⟩
   ·refine ar nmd [] hng (by kernel_rfl) fun hf C S K hC1 hC hS hK=>?_;simp (disch:=first|omega|assumption) only [go_sem]
    refine hC _ _ _ (Bh l hl0 (by have:=hTp.length_eq;omega) (.sub d j x.p) _) ?_ ?_ (fun _ _ h=>h.elim)
    ·simp only [aW,bc,Mem.af,Mem.aH,Mem.aO,Mem.aR,br,bI,List.cons_append,List.nil_append,List.append_nil,↓reduceIte,eq_self,and_true,true_and,and_self,and_false,false_and,reduceCtorEq,Oid.sub.injEq,Nat.reduceEqDiff,hd,Oid.ab u1,Oid.aa u1,Oid.ab u2,Oid.aa u2,Oid.ab u3,Oid.aa u3,Oid.ab u4,Oid.aa u4,Oid.ab u5,Oid.aa u5,Oid.ab u6,Oid.aa u6]
    rintro val upd ⟨rfl,l',hp',hs',rfl⟩
    obtain rfl:l' = R:=tw (hp'.trans hTp) hR hs'
    rw [hTp.length_eq]
    simp (disch:=first|omega|assumption) only [go_sem,hd,Oid.ab u1,Oid.aa u1,Oid.ab u2,Oid.aa u2,Oid.ab u3,Oid.aa u3,Oid.ab u4,Oid.aa u4,Oid.ab u5,Oid.aa u5,Oid.ab u6,Oid.aa u6,aM]
    refine hK ?_;clear hK hS hC hC1 K S C hf
    exact aQ ⟨_,rfl,by omega⟩
  rintro s' ⟨c2,rfl,hdc2⟩
  refine gG (.sub d j x.p) 3 (R.map aY) (by simp (disch:=first|omega|assumption) only [go_sem,hd,Oid.ab u1,Oid.aa u1,Oid.ab u2,Oid.aa u2,Oid.ab u3,Oid.aa u3,Oid.ab u4,Oid.aa u4,Oid.ab u5,Oid.aa u5,Oid.ab u6,Oid.aa u6]) ?_
  refine ko 3 3 (by simp (disch:=first|omega|assumption) only [go_sem]) ?_
  simp (disch:=first|omega|assumption) only [go_sem,hd,Oid.ab u1,Oid.aa u1,Oid.ab u2,Oid.aa u2,Oid.ab u3,Oid.aa u3,Oid.ab u4,Oid.aa u4,Oid.ab u5,Oid.aa u5,Oid.ab u6,Oid.aa u6,List.length_map]
  have u6':∀ c i,¬ Oid.under (.sub c i x.p) wr:=fun c i h=>u6 (Oid.ae h)
  have u2':∀ c i,¬ Oid.under (.sub c i x.p) t:=fun c i h=>u2 (Oid.ae h)
  have v1:¬ Oid.under (.sub (c2+1) 7 x.p) st:=fun h=>u1 (Oid.ae h)
  have v2:¬ Oid.under (.sub (c2+1) 7 x.p) t:=fun h=>u2 (Oid.ae h)
  have v3:¬ Oid.under (.sub (c2+1) 7 x.p) tr:=fun h=>u3 (Oid.ae h)
  have v4:¬ Oid.under (.sub (c2+1) 7 x.p) o:=fun h=>u4 (Oid.ae h)
  have v5:¬ Oid.under (.sub (c2+1) 7 x.p) rd:=fun h=>u5 (Oid.ae h)
  have v6:¬ Oid.under (.sub (c2+1) 7 x.p) wr:=fun h=>u6 (Oid.ae h)
  have hcc1:(Oid.sub 0 0 (.sub (c2+1) 7 x.p) = .sub c2 0 x.p)=False:=eq_false fun h=>by
   have:=congrArg Oid.depth h;simp only [Oid.depth] at this;omega
  have hu12:Oid.under (.sub (c2+1) 7 x.p) (.sub 0 0 (.sub (c2+1) 7 x.p)):=Oid.ae (Oid.aq _)
  have hapt:∀ p',Oid.under (.sub (c2+1) 8 x.p) p'→¬ Oid.under p' (.sub 0 0 (.sub (c2+1) 7 x.p)):=fun p' h h2=>by
   have:=(Oid.apart (Oid.dE h h2) hu12).2
   omega
  have hwl:esw.length=W.length:=by obtain ⟨E2,rfl,hE2,_⟩:=hm4;rw [List.length_map,← hE2.length_eq,List.length_map]
  have hks:=Bl hm4 hW
  (try ((first|refine zn ?_|refine ze ?_|refine zk ?_);with_reducible (constructor;repeat constructor));try refine zl ?_)
  refine ar nmd [] hng (by kernel_rfl) fun hf C S K hC1 hC hS hK=>?_;simp (disch:=first|omega|assumption) only [go_sem,hd,Oid.ab u1,Oid.aa u1,Oid.ab u2,Oid.aa u2,Oid.ab u3,Oid.aa u3,Oid.ab u4,Oid.aa u4,Oid.ab u5,Oid.aa u5,Oid.ab u6,Oid.aa u6]
  refine hC1 _ (Bi wr _ (u6' _ _)) (by simp (disch:=first|omega|assumption) only [go_sem]) ?_
  simp (disch:=first|omega|assumption) only [go_sem,hd,Oid.ab u1,Oid.aa u1,Oid.ab u2,Oid.aa u2,Oid.ab u3,Oid.aa u3,Oid.ab u4,Oid.aa u4,Oid.ab u5,Oid.aa u5,Oid.ab u6,Oid.aa u6,Oid.ab v1,Oid.aa v1,Oid.ab v2,Oid.aa v2,Oid.ab v3,Oid.aa v3,Oid.ab v4,Oid.aa v4,Oid.ab v5,Oid.aa v5,Oid.ab v6,Oid.aa v6,Oid.sub.injEq,hcc1]
  refine hC1 _ (lO 110 [.ptr (.sub 0 0 (.sub (c2+1) 7 x.p)) 0] [(.sub 0 0 (.sub (c2+1) 7 x.p),.cells [.map wr]),(wr,.map [.ss] false esw cw)] esw.length (esw.map dq) _ (by omega) (by simp) _ ?_ ?_
   (fun p' hp=>yb (.sub 0 0 (.sub (c2+1) 7 x.p)) wr esw cw p' ?_ ?_ ?_) ?_) ?_ ?_
  ·intro q hq
   simp only [List.mem_cons,List.not_mem_nil,or_false] at hq
   rcases hq with rfl|rfl
   ·exact hapt _ (Oid.aq _)
   ·exact u6' _ _
  ·intro q hq
   simp only [List.mem_cons,List.not_mem_nil,or_false] at hq
   rcases hq with rfl|rfl<;>(intro sz xs e;cases e)
  ·exact fun e=>u6 (e ▸ Oid.ae hu12)
  ·exact hapt _ hp
  ·exact fun h=>u6 (Oid.ae (Oid.dE hp h))
  ·intro l hl
   obtain ⟨U,h1,h2⟩:=hl rfl
   have h3:l=U.map dq:=str_inj (by rw [h2,List.map_map];rfl)
   rw [h3]
   exact h1.map _
  ·simp only [aW,bc,Mem.af,Mem.aH,Mem.aO,Mem.aR,br,bI,List.cons_append,List.nil_append,List.append_nil,↓reduceIte,eq_self,and_true,true_and,and_self,and_false,false_and,reduceCtorEq,Oid.sub.injEq,Nat.reduceEqDiff,hd,Oid.ab u1,Oid.aa u1,Oid.ab u2,Oid.aa u2,Oid.ab u3,Oid.aa u3,Oid.ab u4,Oid.aa u4,Oid.ab u5,Oid.aa u5,Oid.ab u6,Oid.aa u6,Oid.ab v1,Oid.aa v1,Oid.ab v2,Oid.aa v2,Oid.ab v3,Oid.aa v3,Oid.ab v4,Oid.aa v4,Oid.ab v5,Oid.aa v5,Oid.ab v6,Oid.aa v6,Oid.sub.injEq,hcc1]
  rw [hks,show (W.map (·.1)).map AV.str=W.map fun w=>AV.str w.1 by rw [List.map_map];rfl]
  simp (disch:=first|omega|assumption) only [go_sem,hd,Oid.ab u1,Oid.aa u1,Oid.ab u2,Oid.aa u2,Oid.ab u3,Oid.aa u3,Oid.ab u4,Oid.aa u4,Oid.ab u5,Oid.aa u5,Oid.ab u6,Oid.aa u6,List.length_map]
  refine hK ?_;clear hK hS hC hC1 K S C hf
  (try ((first|refine zn ?_|refine ze ?_|refine zk ?_);with_reducible (constructor;repeat constructor));try refine zl ?_)
  refine jZ [(st,.cells [.map t,.ptr tr 0]),(t,.map [.ss] false es clock),(tr,.cells [.map o,.map rd,.map wr]),(o,.map [.ss] false eso co),(rd,.map [.ss,.sb] true esr cr),(wr,.map [.ss] false esw cw),(.sub c2 0 x.p,.arr 3 [])] (by simp only [aW,bc,Mem.af,Mem.aH,Mem.aO,Mem.aR,br,bI,List.cons_append,List.nil_append,List.append_nil,↓reduceIte,eq_self,and_true,true_and,and_self,and_false,false_and,reduceCtorEq,Oid.sub.injEq,Nat.reduceEqDiff,hd,Oid.ab u1,Oid.aa u1,Oid.ab u2,Oid.aa u2,Oid.ab u3,Oid.aa u3,Oid.ab u4,Oid.aa u4,Oid.ab u5,Oid.aa u5,Oid.ab u6,Oid.aa u6,Oid.ab v1,Oid.aa v1,Oid.ab v2,Oid.aa v2,Oid.ab v3,Oid.aa v3,Oid.ab v4,Oid.aa v4,Oid.ab v5,Oid.aa v5,Oid.ab v6,Oid.aa v6,Oid.sub.injEq,hcc1]) ?_
  obtain ⟨g,hg⟩:∃ g:Str × Unit→AV,g=fun w=>aY ((w.1,false),cC (aF L w.1)):=⟨_,rfl⟩
  rw [← hg]
  refine bK [0,2,3,45,46,47] (fun k s'=>∃ (i d j c:Nat),s' = ⟨[(0,.ptr st 0),(2,.list 3 (R.map aY)),(3,.sl (.sub d j x.p) 3 i),(45,.list 1 (W.map fun w=>.str w.1)),(46,.int .i64 (W.length:Nat)),(47,.int .i64 i)],Mem.of [(st,.cells [.map t,.ptr tr 0]),(t,.map [.ss] false es clock),(tr,.cells [.map o,.map rd,.map wr]),(o,.map [.ss] false eso co),(rd,.map [.ss,.sb] true esr cr),(wr,.map [.ss] false esw cw),(.sub d j x.p,.arr 3 ((W.take i).map g))],c,[]⟩∧k=W.length - i∧i≤W.length∧d < c) _ ⟨0,c2,0,c2+1+1,rfl,rfl,by omega,by omega⟩ ?_
  rintro k s' ⟨i,d',j',c',rfl,rfl,hi,hdc'⟩
  (repeat (first|(refine aA rfl rfl ?_)|(refine az rfl rfl ?_)|(refine ar nmd [] hng (by kernel_rfl) fun hf C S K hC1 hC hS hK=>?_;simp (disch:=first|omega|assumption) only [go_sem];refine hK ?_;clear hK hS hC hC1 K S C hf)|((first|refine zn ?_|refine ze ?_|refine zk ?_);with_reducible (constructor;repeat constructor);try refine zl ?_)))
  refine aS rfl rfl (fun hb=>?_) (fun hb=>?_)
  ·have hl:i < W.length:=by omega
   have hts:=fw g hl
   have hti:((W.take i).map g).length=i:=by rw [List.length_map,List.length_take];omega
   generalize hq:W.getD i default=q at hts
   obtain ⟨qn,qu⟩:=q
   have hat:=fun p h=>vO t t es clock p h h qn ((aK qn L).getD Bits.no) (k8 hm1 qn)
   have hgp:(if qn=[] then (⟨2,7,[]⟩:Bits) else (aK qn L).getD Bits.no)=aF L qn:=rfl
   rw [hgp] at hat
   have hval:=fun p hp=>sU (aF L qn) (la ho1 qn) p hp
   have hgq:g (qn,qu) = .agg [.str qn,.bool false,.str (cC (aF L qn))]:=by rw [hg];rfl
   rw [hgq] at hts
   generalize aF L qn=B at hat hval hts
   simp only [Bits.av] at hat hval
   (try ((first|refine zn ?_|refine ze ?_|refine zk ?_);with_reducible (constructor;repeat constructor));try refine zl ?_)
   refine ar nmd [] hng (by kernel_rfl) fun hf C S K hC1 hC hS hK=>?_;simp (disch:=first|omega|assumption) only [go_sem,hd,Oid.ab u1,Oid.aa u1,Oid.ab u2,Oid.aa u2,Oid.ab u3,Oid.aa u3,Oid.ab u4,Oid.aa u4,Oid.ab u5,Oid.aa u5,Oid.ab u6,Oid.aa u6,hq,AV.cells]
   refine hK ?_;clear hK hS hC hC1 K S C hf
   (try ((first|refine zn ?_|refine ze ?_|refine zk ?_);with_reducible (constructor;repeat constructor));try refine zl ?_)
   refine ar nmd [] hng (by kernel_rfl) fun hf C S K hC1 hC hS hK=>?_;simp (disch:=first|omega|assumption) only [go_sem,hd,Oid.ab u1,Oid.aa u1,Oid.ab u2,Oid.aa u2,Oid.ab u3,Oid.aa u3,Oid.ab u4,Oid.aa u4,Oid.ab u5,Oid.aa u5,Oid.ab u6,Oid.aa u6,AV.cells]
   refine hC1 _ (hat _ (u2' _ _)) (by simp (disch:=first|omega|assumption) only [go_sem,hd,Oid.ab u1,Oid.aa u1,Oid.ab u2,Oid.aa u2,Oid.ab u3,Oid.aa u3,Oid.ab u4,Oid.aa u4,Oid.ab u5,Oid.aa u5,Oid.ab u6,Oid.aa u6]) ?_
   simp (disch:=first|omega|assumption) only [go_sem,hd,Oid.ab u1,Oid.aa u1,Oid.ab u2,Oid.aa u2,Oid.ab u3,Oid.aa u3,Oid.ab u4,Oid.aa u4,Oid.ab u5,Oid.aa u5,Oid.ab u6,Oid.aa u6,AV.cells]
   refine hC1 _ (hval _ (aw rfl hp)) (by simp (disch:=first|omega|assumption) only [go_sem,hd,Oid.ab u1,Oid.aa u1,Oid.ab u2,Oid.aa u2,Oid.ab u3,Oid.aa u3,Oid.ab u4,Oid.aa u4,Oid.ab u5,Oid.aa u5,Oid.ab u6,Oid.aa u6]) ?_
   simp (disch:=first|omega|assumption) only [go_sem,hd,Oid.ab u1,Oid.aa u1,Oid.ab u2,Oid.aa u2,Oid.ab u3,Oid.aa u3,Oid.ab u4,Oid.aa u4,Oid.ab u5,Oid.aa u5,Oid.ab u6,Oid.aa u6,AV.cells]
   refine hK ?_;clear hK hS hC hC1 K S C hf
   (repeat (first|(refine aA rfl rfl ?_)|(refine az rfl rfl ?_)|(refine ar nmd [] hng (by kernel_rfl) fun hf C S K hC1 hC hS hK=>?_;simp (disch:=first|omega|assumption) only [go_sem];refine hK ?_;clear hK hS hC hC1 K S C hf)|((first|refine zn ?_|refine ze ?_|refine zk ?_);with_reducible (constructor;repeat constructor);try refine zl ?_)))
   refine ⟨_,Mem.of [(st,.cells [.map t,.ptr tr 0]),(t,.map [.ss] false es clock),(tr,.cells [.map o,.map rd,.map wr]),(o,.map [.ss] false eso co),(rd,.map [.ss,.sb] true esr cr),(wr,.map [.ss] false esw cw),(.sub (c' + 1+1) 11 x.p,.arr 3 ((W.take (i+1)).map g))],?_,iH ?_,i+1,c' + 1+1,11,c' + 1+1+1+1,?_,rfl,by omega,by omega⟩
   ·omega
   ·rw [hts]
    simp only [aW,bc,Mem.af,Mem.aH,Mem.aO,Mem.aR,br,bI,List.cons_append,List.nil_append,List.append_nil,↓reduceIte,eq_self,and_true,true_and,and_self,and_false,false_and,reduceCtorEq,Oid.sub.injEq,Nat.reduceEqDiff,hd,Oid.ab u1,Oid.aa u1,Oid.ab u2,Oid.aa u2,Oid.ab u3,Oid.aa u3,Oid.ab u4,Oid.aa u4,Oid.ab u5,Oid.aa u5,Oid.ab u6,Oid.aa u6]
   ·rfl
  ·obtain rfl:i=W.length:=by omega
   rw [List.take_length]
   (repeat (first|(refine aA rfl rfl ?_)|(refine az rfl rfl ?_)|(refine ar nmd [] hng (by kernel_rfl) fun hf C S K hC1 hC hS hK=>?_;simp (disch:=first|omega|assumption) only [go_sem,hd,Oid.ab u1,Oid.aa u1,Oid.ab u2,Oid.aa u2,Oid.ab u3,Oid.aa u3,Oid.ab u4,Oid.aa u4,Oid.ab u5,Oid.aa u5,Oid.ab u6,Oid.aa u6];refine hK ?_;clear hK hS hC hC1 K S C hf)|((first|refine zn ?_|refine ze ?_|refine zk ?_);with_reducible (constructor;repeat constructor);try refine zl ?_)))
   refine gG (.sub d' j' x.p) 3 (W.map g) (by simp (disch:=first|omega|assumption) only [go_sem,hd,Oid.ab u1,Oid.aa u1,Oid.ab u2,Oid.aa u2,Oid.ab u3,Oid.aa u3,Oid.ab u4,Oid.aa u4,Oid.ab u5,Oid.aa u5,Oid.ab u6,Oid.aa u6]) ?_
   simp (disch:=first|omega|assumption) only [go_sem,hd,Oid.ab u1,Oid.aa u1,Oid.ab u2,Oid.aa u2,Oid.ab u3,Oid.aa u3,Oid.ab u4,Oid.aa u4,Oid.ab u5,Oid.aa u5,Oid.ab u6,Oid.aa u6,List.length_map]
   refine ay (aX (by simp (disch:=first|omega|assumption) only [go_sem,List.length_map]) ?_ ?_)
   all_goals simp only [List.mem_cons,List.not_mem_nil,or_false,forall_eq_or_imp,forall_eq,Option.some.injEq,forall_eq',Mem.af,eq_self,if_true,↓reduceIte,reduceCtorEq,implies_true,not_true_eq_false,false_imp_iff,true_and,and_true,false_and,and_false,imp_self,hd,Oid.ab u1,Oid.aa u1,Oid.ab u2,Oid.aa u2,Oid.ab u3,Oid.aa u3,Oid.ab u4,Oid.aa u4,Oid.ab u5,Oid.aa u5,Oid.ab u6,Oid.aa u6]
end
end Go.Proofs.YtmoaidkglldhcaaGreatDoor
namespace Go.Proofs.YtmoaidkglldhcaaGreatDoor
open Go Go.Ab
set_option maxRecDepth 20000
set_option maxHeartbeats 4000000
def St.halt (s:St):St:=⟨s.L,none⟩
def St.reads (s:St):List Tch:=match s.t with|none=>[]|some q=>q.R
def St.writes (s:St):List Tch:=match s.t with|none=>[]|some q=>q.W.map fun w=>((w.1,false),cC (aF s.L w.1))
theorem SOK.begin {s:St} (h:SOK s):SOK s.begin:=⟨h.sl,h.po,h.no,fun q hq=>by
 simp only [St.begin,Option.some.injEq] at hq
 subst hq
 exact ⟨h.sl,List.Pairwise.nil,List.Pairwise.nil,h.po,h.no⟩⟩
theorem SOK.halt {s:St} (h:SOK s):SOK s.halt:=⟨h.sl,h.po,h.no,fun q hq=>by cases hq⟩
theorem jN {st:Oid} {s:St} {N:List Oid} {F:Oid→ao} (h:cZ st s N F):∃ (t:Oid) (tv:AV) (es:List ME) (clock:Nat),st ∈ N∧t ∈ N∧¬ t=st∧F st = .cells [.map t,tv]∧F t = .map [.ss] false es clock∧fH es s.L:=by
 obtain ⟨L,t0⟩:=s
 obtain ⟨hnd,h⟩:=h
 cases t0 with
 | none =>
  obtain ⟨t,es,clock,rfl,k1,k2,k3⟩:=h
  exact ⟨t,_,es,clock,by simp,by simp,fun e=>by simp [e] at hnd,k1,k2,k3⟩
 | some q =>
  obtain ⟨t,tr,o,rd,wr,es,eso,esr,esw,clock,co,cr,cw,rfl,k1,k2,k3,k4,k5,k6,m1,m2,m3,m4⟩:=h
  exact ⟨t,_,es,clock,by simp,by simp,fun e=>by simp [e] at hnd,k1,k2,m1⟩
def gQ:List (Oid × ao)→Oid→ao
 | [],_=>.dfr
 | q::l,i=>if i=q.1 then q.2 else gQ l i
theorem lV {st:Oid} {s:St} {N:List Oid} {F:Oid→ao} (h:cZ st s N F) (p:Oid) (ho:a8 p N) :
  ∃ N' F',cZ st s.begin N' F'∧(∀ i ∈ N',i ∈ N∨Oid.under p i)∧ah Tryz.prog 33 [.ptr st 0] (Oid.under p) ⟨bk (N,F),.tuple [],sbx N' F'⟩:=by
 obtain ⟨t,tv,es,clock,h1,h2,hts,k1,k2,k3⟩:=jN h
 have hs:=ho st h1
 have ht:=ho t h2
 have hc:=A3 st t tv es clock hts p hs ht
 have e1:∀ c i,¬ st = .sub c i p:=fun c i e=>hs (e ▸ Oid.ae (Oid.aq _))
 have e2:∀ c i,¬ t = .sub c i p:=fun c i e=>ht (e ▸ Oid.ae (Oid.aq _))
 have e3:¬ st = .sub 0 0 (.sub 0 5 p):=fun e=>hs (e ▸ Oid.ae (Oid.ae (Oid.aq _)))
 have e4:¬ t = .sub 0 0 (.sub 0 5 p):=fun e=>ht (e ▸ Oid.ae (Oid.ae (Oid.aq _)))
 have e5:∀ c i,¬ Oid.sub 0 0 (.sub 0 5 p) = .sub c i p:=fun c i e=>by have:=congrArg Oid.depth e;simp only [Oid.depth] at this;omega
 have e1':∀ c i,¬ Oid.sub c i p=st:=fun c i e=>e1 c i e.symm
 have e2':∀ c i,¬ Oid.sub c i p=t:=fun c i e=>e2 c i e.symm
 have e3':¬ Oid.sub 0 0 (.sub 0 5 p)=st:=fun e=>e3 e.symm
 have e4':¬ Oid.sub 0 0 (.sub 0 5 p)=t:=fun e=>e4 e.symm
 have est:¬ st=t:=fun e=>hts e.symm
 have e6:∀ c i,¬ .sub c i p=Oid.sub 0 0 (.sub 0 5 p):=fun c i e=>e5 c i e.symm
 refine ⟨[st,t,.sub 0 9 p,.sub 0 0 (.sub 0 5 p),.sub 0 6 p,.sub 0 7 p],gQ [(st,.cells [.map t,.ptr (.sub 0 9 p) 0]),(t,.map [.ss] false es clock),(.sub 0 9 p,.cells [.map (.sub 0 0 (.sub 0 5 p)),.map (.sub 0 6 p),.map (.sub 0 7 p)]),(.sub 0 0 (.sub 0 5 p),.map [.ss] false es clock),(.sub 0 6 p,.map [.ss,.sb] true [] 0),(.sub 0 7 p,.map [.ss] false [] 0)],⟨?_,t,.sub 0 9 p,.sub 0 0 (.sub 0 5 p),.sub 0 6 p,.sub 0 7 p,es,es,[],[],clock,clock,0,0,rfl,?_,?_,?_,?_,?_,?_,k3,k3,nZ,nZ⟩,?_,?_⟩
 ·simp [e1,e2,e3,e4,e5,e6,est]
 ·simp [gQ]
 ·simp [gQ,hts]
 ·simp [gQ,e1',e2']
 ·simp [gQ,e3',e4',e5]
 ·simp [gQ,e1',e2',e6]
 ·simp [gQ,e1',e2',e6]
 ·intro i hi
  simp only [List.mem_cons,List.not_mem_nil,or_false] at hi
  rcases hi with rfl|rfl|rfl|rfl|rfl|rfl
  ·exact .inl h1
  ·exact .inl h2
  ·exact .inr (Oid.ae (Oid.aq _))
  ·exact .inr (Oid.ae (Oid.ae (Oid.aq _)))
  ·exact .inr (Oid.ae (Oid.aq _))
  ·exact .inr (Oid.ae (Oid.aq _))
 ·refine hc.FJ ?_ ?_ ?_ ?_
  ·intro q hq
   simp only [List.mem_cons,List.not_mem_nil,or_false] at hq
   rcases hq with rfl|rfl
   ·exact bP.2 ⟨h1,k1.symm⟩
   ·exact bP.2 ⟨h2,k2.symm⟩
  ·intro q hq
   simp only [List.mem_cons,List.not_mem_nil,or_false] at hq
   rcases hq with rfl|rfl|rfl|rfl|rfl<;>simp
  ·intro i hi
   simp only [List.mem_cons,List.not_mem_nil,or_false] at hi
   rcases hi with rfl|rfl|rfl|rfl|rfl|rfl
   ·exact .inl h1
   ·exact .inl h2
   ·exact .inr ⟨_,List.mem_cons_of_mem _ List.mem_cons_self,rfl⟩
   ·exact .inr ⟨_,List.mem_cons_of_mem _ (List.mem_cons_of_mem _ List.mem_cons_self),rfl⟩
   ·exact .inr ⟨_,List.mem_cons_of_mem _ (List.mem_cons_of_mem _ (List.mem_cons_of_mem _ List.mem_cons_self)),rfl⟩
   ·exact .inr ⟨_,List.mem_cons_of_mem _ (List.mem_cons_of_mem _ (List.mem_cons_of_mem _ (List.mem_cons_of_mem _ List.mem_cons_self))),rfl⟩
  ·intro i hi
   have hbt:=jo (F:=F) h2
   simp only [List.mem_cons,List.not_mem_nil,or_false] at hi
   rcases hi with rfl|rfl|rfl|rfl|rfl|rfl
   ·simp [Mem.aJ,Mem.set,gQ,e1,e3]
   ·simp [Mem.aJ,Mem.set,gQ,e2,e4,hts,hbt,k2]
   ·simp [Mem.aJ,Mem.set,gQ,e6,e1',e2']
   ·simp [Mem.aJ,Mem.set,gQ,e5,e3',e4']
   ·simp [Mem.aJ,Mem.set,gQ,e6,e1',e2']
   ·simp [Mem.aJ,Mem.set,gQ,e6,e1',e2']
end Go.Proofs.YtmoaidkglldhcaaGreatDoor
namespace Go.Proofs.YtmoaidkglldhcaaGreatDoor
open Go Go.Ab
set_option maxRecDepth 20000
set_option maxHeartbeats 4000000
structure Eb (h:Tch):Prop where
 key:h.1.1.length≤1000000
 len:h.2.length≤4000000000
 ok:(lL h.2).1.ok
 pos:0≤(lL h.2).1.k∧0≤(lL h.2).1.m
 fine:(lL h.2).2=0
 plain:h.1.2=false
def jv (s:St):List Tch→St
 | []=>s
 | h::l=>jv (s.put h.1.1 (lL h.2).1) l
end Go.Proofs.YtmoaidkglldhcaaGreatDoor
namespace Go.Proofs.YtmoaidkglldhcaaGreatDoor
open Go Go.Ab
set_option maxRecDepth 20000
def EG (b:Bits):Prop:=(1≤b.k∧b.k≤3)∧(0≤b.m∧b.m≤7)∧¬ (b.k=2∧¬ b.l=[])∧b.l.length≤3
theorem iP (m k l:UInt8):(0≤(dW m k l).k∧(dW m k l).k≤3)∧(0≤(dW m k l).m∧(dW m k l).m≤7)∧¬ ((dW m k l).k=2∧¬ (dW m k l).l=[])∧(dW m k l).l.length≤3:=by
 have h4:m.toNat % 4 < 4:=Nat.mod_lt _ (by decide)
 have h8:k.toNat % 8 < 8:=Nat.mod_lt _ (by decide)
 refine ⟨by simp only [dW];omega,by simp only [dW];omega,?_,?_⟩
 ·rintro ⟨h1,h2⟩
  apply h2
  simp only [dW] at h1 ⊢
  rw [if_neg (by omega)]
 ·simp only [dW]
  split
  ·simp only [List.length_drop,List.length_cons,List.length_nil];omega
  ·decide
theorem Bm (m k l:UInt8) (h0:¬ (dW m k l).k=0):EG (dW m k l):=by
 obtain ⟨h1,h2,h3,h4⟩:=iP m k l
 exact ⟨⟨by omega,h1.2⟩,h2,h3,h4⟩
theorem yc (m k l:UInt8):(dW m k l).ok:=by
 obtain ⟨h1,h2,h3,h4⟩:=iP m k l
 exact ⟨⟨by omega,by omega⟩,⟨by omega,by omega⟩,by omega⟩
theorem qe (i:UInt8):(vN i).length≤6:=by
 have h:i.toNat % 10 < 10:=Nat.mod_lt _ (by decide)
 unfold vN
 generalize i.toNat % 10=j at h
 have:∀ j,j < 10→(paths.getD j default).length≤6:=by decide
 exact this j h
structure SG (s:St) (n:Nat):Prop where
 ok:SOK s
 len:s.L.length≤n
 key:∀ q ∈ s.L,q.1.length≤6
 dO:∀ q ∈ s.L,EG q.2
theorem gr {n:Str} {b:Bits} {L:PL} {q:Str × Bits} (h:q ∈ dz n b L):(q=(n,b)∧¬ b.k=0)∨q ∈ L:=by
 unfold dz at h
 split at h
 ·exact .inr h
 ·rcases dJ h with h|h
  ·split at h
   ·cases h
   ·exact .inl ⟨List.mem_singleton.1 h,‹_›⟩
  ·exact .inr h
theorem SG.put {s:St} {n:Nat} (h:SG s n) (hn:n < 1000000) (i m k l:UInt8):SG (s.put (vN i) (dW m k l)) (n+1) :=
 ⟨h.ok.put _ _ (Nat.lt_of_le_of_lt h.len hn) (Nat.le_trans (qe i) (by decide)) (yc m k l) ⟨(iP m k l).1.1,(iP m k l).2.1.1⟩,
  Nat.le_trans (iv (vN i) (dW m k l) s.L) (Nat.succ_le_succ h.len),
  fun q hq=>by
   rcases gr hq with ⟨rfl,_⟩|hq
   ·exact qe i
   ·exact h.key q hq,
  fun q hq=>by
   rcases gr hq with ⟨rfl,h0⟩|hq
   ·exact Bm m k l h0
   ·exact h.dO q hq⟩
theorem SG.mono {s:St} {n m:Nat} (h:SG s n) (hn:n≤m):SG s m:=⟨h.ok,Nat.le_trans h.len hn,h.key,h.dO⟩
theorem SG.read {s:St} {n:Nat} (h:SG s n) (f:Str × Bool):SG (s.read f) n:=⟨h.ok.read f,h.len,h.key,h.dO⟩
theorem SG.begin {s:St} {n:Nat} (h:SG s n):SG s.begin n:=⟨h.ok.begin,h.len,h.key,h.dO⟩
theorem SG.halt {s:St} {n:Nat} (h:SG s n):SG s.halt n:=⟨h.ok.halt,h.len,h.key,h.dO⟩
structure TG (L0:PL) (s:St) (n:Nat) (q:Tr):Prop where
 t:s.t=some q
 old:q.old=L0
 rd:∀ x ∈ q.R,x.2=cg L0 x.1∧x.1.1.length≤6
 wr:∀ n,aK n q.W=none→aK n s.L=aK n L0
 wk:∀ w ∈ q.W,¬ w.1=[]∧w.1.length≤6
 rl:q.R.length≤n
 wl:q.W.length≤n
theorem gu {L:PL} (hs:aV ltB L) (n m:Str) (b:Bits):aK m (dz n b L)=if n=[] then aK m L else if m=n then (if b.k=0 then none else some b) else aK m L:=by
 unfold dz
 split
 ·rfl
 ·exact pT gh n m _ hs
theorem TG.begin {s:St}:TG s.L s.begin 0 ⟨s.L,[],[]⟩ :=
 ⟨rfl,rfl,fun x hx=>(by cases hx),fun _ _=>rfl,fun w hw=>(by cases hw),Nat.le_refl _,Nat.le_refl _⟩
theorem TG.mono {L0:PL} {s:St} {n m:Nat} {q:Tr} (h:TG L0 s n q) (hn:n≤m):TG L0 s m q:=⟨h.t,h.old,h.rd,h.wr,h.wk,Nat.le_trans h.rl hn,Nat.le_trans h.wl hn⟩
theorem TG.read {L0:PL} {s:St} {n:Nat} {q:Tr} (h:TG L0 s n q) (hs:SOK s) (f:Str × Bool) (hf:f.1.length≤6):TG L0 (s.read f) (n+1) (q.read f):=by
 have hT:=hs.tr q h.t
 refine ⟨by simp only [St.read,h.t,Option.map_some],h.old,fun x hx=>?_,h.wr,h.wk,Nat.le_trans (jL hT.sr) (Nat.succ_le_succ h.rl),Nat.le_succ_of_le h.wl⟩
 have hx':x ∈ cj q.old q.W f q.R:=hx
 unfold cj at hx'
 split at hx'
 ·exact h.rd x hx'
 ·split at hx'
  ·exact h.rd x hx'
  ·rcases dJ hx' with hx|hx
   ·rw [List.mem_singleton.1 hx,h.old];exact ⟨rfl,hf⟩
   ·exact h.rd x hx
theorem TG.put {L0:PL} {s:St} {n:Nat} {q:Tr} (h:TG L0 s n q) (hs:SOK s) (m:Str) (hm:m.length≤6) (b:Bits):TG L0 (s.put m b) (n+1) (q.put m):=by
 have hT:=hs.tr q h.t
 refine ⟨by simp only [St.put,h.t,Option.map_some],h.old,h.rd,fun k hk=>?_,fun w hw=>?_,Nat.le_succ_of_le h.rl,Nat.le_trans (oz hT.sw) (Nat.succ_le_succ h.wl)⟩
 ·have hk':aK k (eQ true m q.W)=none:=hk
  show aK k (dz m b s.L)=_
  rw [gu hs.sl]
  unfold eQ at hk'
  split at hk'
  ·rw [if_pos ‹_›];exact h.wr k hk'
  ·rw [if_pos rfl,pT gh m k _ hT.sw] at hk'
   split at hk'
   ·cases hk'
   ·rw [if_neg ‹_›,if_neg ‹_›];exact h.wr k hk'
 ·have hw':w ∈ eQ true m q.W:=hw
  unfold eQ at hw'
  split at hw'
  ·exact h.wk w hw'
  ·rw [if_pos rfl] at hw'
   rcases dJ hw' with hw|hw
   ·rw [List.mem_singleton.1 hw];exact ⟨‹_›,hm⟩
   ·exact h.wk w hw
theorem TG.FR {L0:PL} {s:St} {n:Nat} {q:Tr} (h:TG L0 s n q):(s.reads.all fun x=>cg L0 x.1 == x.2)=true:=by
 unfold St.reads
 rw [h.t]
 exact List.all_eq_true.2 fun x hx=>beq_iff_eq.2 (h.rd x hx).1.symm
end Go.Proofs.YtmoaidkglldhcaaGreatDoor
namespace Go.Proofs.YtmoaidkglldhcaaGreatDoor
open Go Go.Ab
set_option maxRecDepth 20000
def AgL (L L':PL) (rd:Rds):Prop:=∀ f ∈ rd,(f.2=false→aF L' f.1=aF L f.1)∧(f.2=true→aU L' f.1=aU L f.1)
theorem AgL.left {L L':PL} {a b:Rds} (h:AgL L L' (a++b)):AgL L L' a:=fun f hf=>h f (List.mem_append_left _ hf)
theorem AgL.right {L L':PL} {a b:Rds} (h:AgL L L' (a++b)):AgL L L' b:=fun f hf=>h f (List.mem_append_right _ hf)
theorem AgL.get {L L':PL} {rd:Rds} (h:AgL L L' rd) {n:Str} (hn:(n,false) ∈ rd):aF L' n=aF L n:=(h _ hn).1 rfl
theorem AgL.nam {L L':PL} {rd:Rds} (h:AgL L L' rd) {n:Str} (hn:(n,true) ∈ rd):aU L' n=aU L n:=(h _ hn).2 rfl
theorem Bn {L L':PL} {fol:Bool} {w:Wk} {n:Str} {t:List Str} (h:AgL L L' (bl L fol w n t).1):bl L' fol w n t=bl L fol w n t:=by
 have h0:(w.pl,false) ∈ (bl L fol w n t).1:=by
  unfold bl;repeat' split
  all_goals simp
 have e0:=h.get h0
 unfold bl at h ⊢
 rw [e0]
 split;· rfl
 rename_i c1;rw [if_neg c1] at h
 split;· rfl
 rename_i c2;rw [if_neg c2] at h
 split;· rfl
 rename_i c3;rw [if_neg c3] at h
 split;· rfl
 rename_i c4;rw [if_neg c4] at h
 have e1:=h.get (n:=iw w n) (by simp)
 unfold goF;rw [e1]
theorem rF {L L':PL} {fol:Bool}:∀ (k:Nat) (w:Wk),AgL L L' (bL L fol k w).1→bL L' fol k w=bL L fol k w
 | 0,w,_=>rfl
 | k+1,⟨a,todo,l,d⟩,h=>by
  cases todo with
  | nil=>rfl
  | cons n t =>
   simp only [bL] at h ⊢
   cases hs:bl L fol ⟨a,n::t,l,d⟩ n t with
   | mk rd r =>
    rw [hs] at h
    have h1:AgL L L' rd:=by
     cases r with
     | err e=>exact h
     | go w'=>exact h.left
    have:=Bn (by rw [hs];exact h1)
    rw [this,hs]
    cases r with
    | err e=>rfl
    | go w'=>simp only;rw [rF k w' h.right]
def Hg {α:Type} (X:PL→Rds × Rs α):Prop:=∀ L L',AgL L L' (X L).1→X L' = X L
theorem Hg.const {α:Type} (x:Rds × Rs α):Hg fun _=>x:=fun _ _ _=>rfl
theorem Hg.then {α β:Type} {X:PL→Rds × Rs α} {f:PL→α→Rds × Rs β} (hX:Hg X) (hf:∀ a,Hg fun L=>f L a):Hg fun L=>a7 (X L) (f L):=fun L L' h=>by
 simp only at h ⊢
 cases hx:X L with
 | mk r a =>
  cases a with
  | err e =>
   rw [p6 hx] at h
   rw [p6 ((hX L L' (by rw [hx];exact h)).trans hx)];rfl
  | go a =>
   rw [tf hx] at h
   rw [tf ((hX L L' (by rw [hx];exact h.left)).trans hx)]
   have:=hf a L L' h.right
   simp only at this
   rw [this];rfl
theorem Hg.ite {α:Type} {c:Prop} [Decidable c] {X Y:PL→Rds × Rs α} (hX:Hg X) (hY:Hg Y):Hg fun L=>if c then X L else Y L:=by
 by_cases h:c
 ·simp only [if_pos h];exact hX
 ·simp only [if_neg h];exact hY
theorem mT (cwd path:Str) (fol:Bool):Hg fun L=>findF L cwd path fol:=by
 unfold findF
 refine Hg.ite (.const _) (.ite (.const _) fun L L' h=>?_)
 have h:AgL L L' (cu L (bL L fol (wkW (aL cwd path)) (aL cwd path))).1:=h
 show cu L' _=cu L _
 cases hx:bL L fol (wkW (aL cwd path)) (aL cwd path) with
 | mk r a =>
  rw [hx] at h
  cases a with
  | err e=>rw [rF _ _ (by rw [hx];exact h),hx];rfl
  | go w =>
   have h1:AgL L L' r:=h.left
   rw [rF _ _ (by rw [hx];exact h1),hx]
   have e1:=h.get (n:=w.pl) (by simp [cu])
   simp only [cu,e1]
theorem jw (cwd path:Str) (fol:Bool):Hg fun L=>bR L cwd path fol:=(mT cwd path fol).then fun a=>.const _
theorem jO {α:Type} (place:Str) (a:α):Hg fun L=>bW L place a:=fun L L' h=>by
 have e:=h.get (n:=aP place) (by simp [bW])
 simp only [bW,e]
theorem Bo (cwd:Str) (um:Int) (path data:Str) (more:Bool):Hg fun L=>cY L cwd um path data more :=
 (mT cwd path true).then fun _=>.ite (.const _) (.ite (.ite (.const _) ((jO _ _).then fun _=>.const _)) (.ite (.const _) (.const _)))
theorem wq (cwd path:Str) (e:Bits):Hg fun L=>eO L cwd path e:=(mT cwd path false).then fun _=>.ite (.const _) (jO _ _)
theorem uY (cwd target path:Str):Hg fun L=>bC L cwd target path:=.ite (.const _) (.ite (.const _) (wq _ _ _))
theorem yd (cwd path:Str):Hg fun L=>cS L cwd path:=(jw cwd path false).then fun _=>.ite (.const _) (jO _ _)
theorem Bp (cwd path:Str):Hg fun L=>dK L cwd path:=(jw cwd path false).then fun a=>.ite (.const _) (.ite (.const _) (Hg.then (fun L L' h=>by
 have e:=h.nam (n:=a.1) (by simp)
 simp only [e]) fun _=>jO _ _))
theorem ye (cwd f t:Str):Hg fun L=>cT L cwd f t:=(jw cwd f false).then fun _=>.ite (.const _) ((mT cwd t false).then fun _=>.ite (.const _) (.ite (.const _) ((jO _ _).then fun _=>jO _ _)))
theorem Bq (cwd path:Str) (m:Int):Hg fun L=>dL L cwd path m:=(jw cwd path true).then fun _=>.const _
theorem Br (cwd path:Str):Hg fun L=>bQ L cwd path:=(jw cwd path true).then fun _=>.const _
def mI (old:PL) (W:WL) (R:RL) (l:Rds):RL:=l.foldl (fun R f=>cj old W f R) R
theorem uZ (L old:PL) (W:WL):∀ (l:Rds) (R:RL),(⟨L,some ⟨old,R,W⟩⟩:St).rds l=⟨L,some ⟨old,mI old W R l,W⟩⟩
 | [],R=>rfl
 | f::l,R=>uZ L old W l (cj old W f R)
def dD (L:PL) (l:Pts):PL:=l.foldl (fun L q=>dz q.1 q.2 L) L
def tA (W:WL) (l:Pts):WL:=l.foldl (fun W q=>eQ true q.1 W) W
theorem u7 (old:PL) (R:RL):∀ (l:Pts) (L:PL) (W:WL),(⟨L,some ⟨old,R,W⟩⟩:St).pts l=⟨dD L l,some ⟨old,R,tA W l⟩⟩
 | [],L,W=>rfl
 | q::l,L,W=>u7 old R l (dz q.1 q.2 L) (eQ true q.1 W)
theorem wu {old old':PL} {W:WL}:∀ (l:Rds) (R:RL),(∀ f ∈ l,cg old f=cg old' f)→mI old W R l=mI old' W R l
 | [],R,_=>rfl
 | f::l,R,h=>by
  have e:=h f List.mem_cons_self
  show mI old W (cj old W f R) l=mI old' W (cj old' W f R) l
  have e2:cj old W f R=cj old' W f R:=by unfold cj;rw [e]
  rw [e2]
  exact wu l _ fun g hg=>h g (List.mem_cons_of_mem _ hg)
theorem tB {old:PL}:∀ (l:Rds) (R:RL),aV ltF R→(∀ x ∈ R,x.2=cg old x.1)→aV ltF (mI old [] R l)∧(∀ x ∈ mI old [] R l,x.2=cg old x.1)∧(∀ x ∈ R,x ∈ mI old [] R l)∧∀ f ∈ l,(f,cg old f) ∈ mI old [] R l
 | [],R,hs,hv=>⟨hs,hv,fun _ h=>h,fun f h=>by cases h⟩
 | f::l,R,hs,hv=>by
  have hs1:=oy (old:=old) (W:=[]) (f:=f) hs
  have hv1:∀ x ∈ cj old [] f R,x.2=cg old x.1:=fun x hx=>by
   unfold cj at hx
   split at hx
   ·exact hv x hx
   ·split at hx
    ·exact hv x hx
    ·rcases dJ hx with hx|hx
     ·rw [List.mem_singleton.1 hx]
     ·exact hv x hx
  have hin:∀ x ∈ R,x ∈ cj old [] f R:=fun x hx=>by
   unfold cj
   split;· exact hx
   split;· exact hx
   rename_i h2
   refine ((b6 jT f (some (cg old f)) hs).mem_iff).2 (List.mem_append_right _ (List.mem_filter.2 ⟨hx,?_⟩))
   rw [decide_eq_true_eq]
   rintro rfl
   have:=(bs (hs.nodup jT)).2 (show (x.1,x.2) ∈ R from hx)
   rw [this] at h2;exact h2 rfl
  have hnew:(f,cg old f) ∈ cj old [] f R:=by
   unfold cj
   split
   ·rename_i h;have h2:=h.2;simp [aK] at h2
   ·split
    ·rename_i h
     cases hl:aK f R with
     | none=>rw [hl] at h;cases h
     | some v =>
      have h3:=(bs (hs.nodup jT)).1 hl
      have h4:=hv _ h3
      simp only at h4
      rw [← h4];exact h3
    ·exact ((b6 jT f (some (cg old f)) hs).mem_iff).2 (List.mem_append_left _ (List.mem_singleton.2 rfl))
  obtain ⟨k1,k2,k3,k4⟩:=tB l (cj old [] f R) hs1 hv1
  refine ⟨k1,k2,fun x hx=>k3 x (hin x hx),fun g hg=>?_⟩
  rcases List.mem_cons.1 hg with rfl|hg
  ·exact k3 _ hnew
  ·exact k4 g hg
theorem oI (n:Str):∀ (l:Pts) (L L':PL),aV ltB L→aV ltB L'→(n ∈ l.map (·.1)∧¬ n=[]∨aK n L=aK n L')→aK n (dD L l)=aK n (dD L' l)
 | [],L,L',_,_,h=>by
  rcases h with h|h
  ·cases h.1
  ·exact h
 | q::l,L,L',hs,hs',h=>by
  refine oI n l _ _ (eN hs _ _) (eN hs' _ _) ?_
  show _∨aK n (dz q.1 q.2 L)=aK n (dz q.1 q.2 L')
  rw [gu hs,gu hs']
  rcases h with ⟨h,hn⟩|h
  ·rcases List.mem_cons.1 h with rfl|h
   ·exact .inr (by rw [if_neg hn,if_neg hn,if_pos rfl,if_pos rfl])
   ·exact .inl ⟨h,hn⟩
  ·exact .inr (by rw [h])
theorem qg:∀ (l:Pts) (W:WL) (w:Str × Unit),w ∈ tA W l→w ∈ W∨(w.1 ∈ l.map (·.1)∧¬ w.1=[])
 | [],W,w,h=>.inl h
 | q::l,W,w,h=>by
  rcases qg l _ w h with h|h
  ·have h:w ∈ eQ true q.1 W:=h
   unfold eQ at h
   split at h
   ·exact .inl h
   ·rename_i hn
    rw [if_pos rfl] at h
    rcases dJ h with h|h
    ·rw [List.mem_singleton.1 h];exact .inr ⟨List.mem_cons_self,hn⟩
    ·exact .inl h
  ·exact .inr ⟨List.mem_cons_of_mem _ h.1,h.2⟩
theorem yf {L L':PL} (hs:aV ltB L) (hs':aV ltB L') (l:Pts) :
  (tA [] l).map (fun w=>(((w.1,false),cC (aF (dD L l) w.1)):Tch))=(tA [] l).map (fun w=>(((w.1,false),cC (aF (dD L' l) w.1)):Tch)):=by
 refine List.map_congr_left fun w hw=>?_
 rcases qg l [] w hw with h|h
 ·cases h
 ·have:=oI w.1 l L L' hs hs' (.inl h)
  simp only [aF,this]
end Go.Proofs.YtmoaidkglldhcaaGreatDoor
namespace Go.Proofs.YtmoaidkglldhcaaGreatDoor
open Go Go.Ab
set_option maxRecDepth 20000
def Bt (n:Str):Prop:=¬ n=[]∧(47:UInt8) ∉ n∧n.length≤32∧¬ n=[46]∧¬ n=[46,46]
def mkP:List Str→Str
 | []=>[]
 | n::l=>47::(n++mkP l)
theorem gi:∀ (l:List Str) (n:Str),mkP (l++[n])=mkP l++(47::n)
 | [],n=>by simp [mkP]
 | m::l,n=>by simp [mkP,gi l n]
def NPl (s:Str):Prop:=∃ l,(∀ n ∈ l,Bt n)∧s=mkP l
theorem NPl.nil:NPl []:=⟨[],fun n h=>(by cases h),rfl⟩
theorem yg (a n:Str) (h:(47:UInt8) ∉ n):eh (a++(47::n)) 47 (a++(47::n)).length=a.length:=by
 have key:∀ k,k≤n.length→eh (a++(47::n)) 47 (a.length+1+k)=a.length:=by
  intro k
  induction k with
  | zero =>
   intro _
   rw [Nat.add_zero,eh,if_pos]
   simp [List.getD_eq_getElem?_getD]
  | succ k ih =>
   intro hk
   rw [show a.length+1+(k+1)=(a.length+1+k)+1 from by omega,eh,if_neg,ih (by omega)]
   intro e
   rw [List.getD_eq_getElem?_getD,List.getElem?_append_right (by omega),show a.length+1+k - a.length=k+1 from by omega,List.getElem?_cons_succ,List.getElem?_eq_getElem (by omega),Option.getD_some] at e
   exact h (e ▸ List.getElem_mem _)
 have:=key n.length (Nat.le_refl _)
 rw [List.length_append,List.length_cons,show a.length+(n.length+1)=a.length+1+n.length from by omega]
 exact this
theorem iy (a n:Str) (h:(47:UInt8) ∉ n):aP (a++(47::n))=a:=by
 unfold aP
 rw [yg a n h]
 simp
theorem qh {α:Type} (l:List α):l=[]∨∃ m x,l=m++[x]:=by
 cases l with
 | nil=>exact .inl rfl
 | cons a l=>exact .inr ⟨(a::l).dropLast,(a::l).getLast (by simp),(List.dropLast_concat_getLast (by simp)).symm⟩
theorem NPl.Bu {s:Str} (h:NPl s):NPl (aP s):=by
 obtain ⟨l,hl,rfl⟩:=h
 rcases qh l with rfl|⟨m,x,rfl⟩
 ·exact NPl.nil
 ·rw [gi,iy _ _ (hl x (by simp)).2.1]
  exact ⟨m,fun n hn=>hl n (List.mem_append_left _ hn),rfl⟩
theorem NPl.next {s n:Str} (h:NPl s) (hn:Bt n):NPl (s++(47::n)):=by
 obtain ⟨l,hl,rfl⟩:=h
 refine ⟨l++[n],fun x hx=>?_,(gi l n).symm⟩
 rcases List.mem_append.1 hx with hx|hx
 ·exact hl x hx
 ·rw [List.mem_singleton.1 hx];exact hn
def pk (t:List Str):Prop:=∀ x ∈ t,¬ x=[]∧(47:UInt8) ∉ x
theorem qi (c:UInt8):∀ (s:Str) (t:Str),t ∈ bh c s→c ∉ t
 | [],t,h=>by rw [bh,List.mem_singleton] at h;rw [h];simp
 | b::s,t,h=>by
  have ih:=qi c s
  rw [bh] at h
  split at h
  ·rcases List.mem_cons.1 h with rfl|h
   ·simp
   ·exact ih t h
  ·rename_i hb
   cases hs:bh c s with
   | nil=>exact absurd hs (jH c s)
   | cons l r =>
    rw [hs] at h ih
    rcases List.mem_cons.1 h with rfl|h
    ·simp only [List.mem_cons,not_or]
     exact ⟨fun e=>hb e.symm,ih l List.mem_cons_self⟩
    ·exact ih t (List.mem_cons_of_mem _ h)
theorem lW (s:Str):pk (aZ s):=fun x hx=>by
 obtain ⟨h1,h2⟩:=List.mem_filter.1 hx
 exact ⟨by simpa using h2,qi 47 s x h1⟩
theorem pk.app {a b:List Str} (h:pk a) (h':pk b):pk (a++b):=fun x hx=>(List.mem_append.1 hx).elim (h x) (h' x)
theorem tC {L:PL} {fol:Bool} {w w':Wk} {n:Str} {t:List Str} {rd:Rds} (hp:NPl w.pl) (ht:pk (n::t)) (h:bl L fol w n t=(rd,.go w')):NPl w'.pl∧pk w'.todo:=by
 have ht':pk t:=fun x hx=>ht x (List.mem_cons_of_mem _ hx)
 unfold bl at h
 split at h;· cases h
 split at h;· cases h
 rename_i h32
 split at h;· cases h;exact ⟨hp,ht'⟩
 rename_i hd1
 split at h;· cases h;exact ⟨hp.Bu,ht'⟩
 rename_i hd2
 have hn:Bt n:=⟨(ht n List.mem_cons_self).1,(ht n List.mem_cons_self).2,by omega,hd1,hd2⟩
 obtain ⟨-,h⟩:=Prod.mk.inj h
 unfold goF at h
 split at h
 ·unfold dt at h
  split at h;· cases h
  split at h;· cases h
  cases h
  refine ⟨?_,(lW _).app ht'⟩
  simp only
  split
  ·exact NPl.nil
  ·exact hp
 ·split at h;· cases h
  cases h
  exact ⟨hp.next hn,ht'⟩
theorem wv {L:PL} {fol:Bool}:∀ (k:Nat) (w w':Wk),NPl w.pl→pk w.todo→(bL L fol k w).2 = .go w'→NPl w'.pl
 | 0,w,w',hp,ht,h=>by
  simp only [bL] at h
  split at h
  ·cases h;exact hp
  ·cases h
 | k+1,⟨a,todo,l,d⟩,w',hp,ht,h=>by
  cases todo with
  | nil=>simp only [bL,Rs.go.injEq] at h;subst h;exact hp
  | cons n t =>
   simp only [bL] at h
   cases hs:bl L fol ⟨a,n::t,l,d⟩ n t with
   | mk rd r =>
    rw [hs] at h
    cases r with
    | err e=>cases h
    | go w1 =>
     obtain ⟨k1,k2⟩:=tC hp ht hs
     exact wv k w1 w' k1 k2 h
theorem gR {L:PL} {cwd path:Str} {fol:Bool} {a:Str × Bits} (hc:NPl cwd) (h:(findF L cwd path fol).2 = .go a):NPl a.1∧a.2=aF L a.1:=by
 unfold findF at h
 split at h;· cases h
 split at h;· cases h
 have hk:=fun w'=>wv (L:=L) (fol:=fol) (wkW (aL cwd path)) (aL cwd path) w' (by
  simp only [aL];split
  ·exact NPl.nil
  ·exact hc) (lW path)
 generalize bL L fol (wkW (aL cwd path)) (aL cwd path)=x at h hk
 obtain ⟨rd,r⟩:=x
 cases r with
 | err e=>cases h
 | go w =>
  simp only [cu] at h
  split at h
  ·cases h
  ·cases h;exact ⟨hk w rfl,rfl⟩
def cD (L:PL):Prop:=∀ q ∈ L,∃ l n,(∀ x ∈ l,Bt x)∧Bt n∧q.1=mkP (l++[n])∧(aF L (mkP l)).k=2
theorem cD.up {L:PL} (h:cD L) {q:Str × Bits} (hq:q ∈ L):NPl q.1∧¬ q.1=[]∧(aF L (aP q.1)).k=2:=by
 obtain ⟨l,n,h1,h2,h3,h4⟩:=h q hq
 rw [h3,gi,iy _ _ h2.2.1]
 exact ⟨NPl.next ⟨l,h1,rfl⟩ h2,by simp,h4⟩
theorem jx {L:PL} (hs:aV ltB L) (n m:Str) (b:Bits):aF (dz n b L) m=if m=[]∨¬ m=n∨n=[] then aF L m else if b.k=0 then Bits.no else b:=by
 unfold aF
 by_cases hm:m=[]
 ·rw [if_pos hm,if_pos (.inl hm),if_pos hm]
 ·rw [if_neg hm,if_neg hm,gu hs]
  by_cases hn:n=[]
  ·rw [if_pos hn,if_pos (.inr (.inr hn))]
  ·rw [if_neg hn]
   by_cases hmn:m=n
   ·rw [if_pos hmn,if_neg (show ¬ (m=[]∨¬ m=n∨n=[]) from fun h=>h.elim hm fun h=>h.elim (fun h=>h hmn) hn)]
    split<;>rfl
   ·rw [if_neg hmn,if_pos (.inr (.inl hmn))]
theorem cD.put {L:PL} (h:cD L) (hs:aV ltB L) {n:Str} {b:Bits} (hn:NPl n) (h1:¬ b.k=0→(aF L (aP n)).k=2) (h2:(aF L n).k=2→¬ b.k=2→∀ q ∈ L,¬ aP q.1=n):cD (dz n b L):=by
 by_cases hn0:n=[]
 ·unfold dz;rw [if_pos hn0];exact h
 intro q hq
 have hq':(q=(n,b)∧¬ b.k=0)∨(q ∈ L∧¬ q.1=n):=by
  have hs2:=eN hs n b
  have hl:=(bs (hs2.nodup gh)).2 (show (q.1,q.2) ∈ dz n b L from hq)
  rw [gu hs,if_neg hn0] at hl
  split at hl
  ·rename_i e
   split at hl
   ·cases hl
   ·rename_i h0
    refine .inl ⟨?_,h0⟩
    rw [Option.some.inj hl,← e]
  ·rename_i e
   exact .inr ⟨(bs (hs.nodup gh)).1 hl,e⟩
 rcases hq' with ⟨rfl,h0⟩|⟨hq',hne⟩
 ·obtain ⟨l,hl,rfl⟩:=hn
  rcases qh l with rfl|⟨m,x,rfl⟩
  ·exact absurd rfl hn0
  ·have hx:=hl x (by simp)
   have ha:=h1 h0
   rw [gi,iy _ _ hx.2.1] at ha
   refine ⟨m,x,fun y hy=>hl y (List.mem_append_left _ hy),hx,rfl,?_⟩
   rw [jx hs,if_pos]
   ·exact ha
   ·refine .inr (.inl fun e=>?_)
    have:=congrArg List.length e
    rw [gi] at this
    simp only [List.length_append,List.length_cons] at this
    omega
 ·obtain ⟨l,x,k1,k2,k3,k4⟩:=h q hq'
  refine ⟨l,x,k1,k2,k3,?_⟩
  rw [jx hs]
  split
  ·exact k4
  ·rename_i hc
   simp only [not_or,Decidable.not_not] at hc
   obtain ⟨_,he,_⟩:=hc
   rw [he] at k4
   by_cases hb:b.k=2
   ·rw [if_neg (by rw [hb];decide)];exact hb
   ·refine absurd ?_ (h2 k4 hb q hq')
    rw [k3,gi,iy _ _ k2.2.1,he]
theorem fC {α:Type} {L:PL} {place:Str} {a b:α} (h:(bW L place a).2 = .go b):a=b∧¬ place=[]∧(aF L (aP place)).k=2:=by
 simp only [bW] at h
 split at h
 ·cases h
 ·rename_i h0
  rw [Decidable.not_not] at h0
  unfold bV at h0
  split at h0;· cases h0
  split at h0;· cases h0
  rename_i h1 h2
  exact ⟨Rs.go.inj h,h1,Decidable.not_not.1 h2⟩
theorem bH {α β:Type} {x:Rds × Rs α} {f:α→Rds × Rs β} {b:β} (h:(a7 x f).2 = .go b):∃ a,x.2 = .go a∧(f a).2 = .go b:=by
 obtain ⟨r,a⟩:=x
 cases a with
 | err e=>cases h
 | go a=>exact ⟨a,rfl,h⟩
theorem fK {L:PL} {cwd path:Str} {fol:Bool} {a:Str × Bits} (hc:NPl cwd) (h:(bR L cwd path fol).2 = .go a):NPl a.1∧a.2=aF L a.1∧¬ a.2.k=0:=by
 obtain ⟨b,h1,h2⟩:=bH h
 simp only at h2
 split at h2
 ·cases h2
 ·cases h2
  obtain ⟨k1,k2⟩:=gR hc h1
  exact ⟨k1,k2,‹_›⟩
theorem cD.here {L:PL} (h:cD L) (hs:aV ltB L) {n:Str} (hk:¬ (aF L n).k=0):(aF L (aP n)).k=2:=by
 by_cases hn:n=[]
 ·subst hn;rfl
 ·unfold aF at hk
  rw [if_neg hn] at hk
  cases hl:aK n L with
  | none=>rw [hl] at hk;exact absurd rfl hk
  | some b=>exact (h.up ((bs (hs.nodup gh)).1 hl)).2.2
theorem u9 (a n:Str) (h:(47:UInt8) ∉ n):cH a (a++(47::n))=some n:=by
 have hd:(a++(47::n)).drop (a.length+1)=n:=by
  rw [← List.drop_drop,List.drop_left];rfl
 unfold cH
 rw [hd,if_pos]
 refine ⟨?_,?_⟩
 ·simp only [iq,Bool.and_eq_true,decide_eq_true_eq,List.length_append,List.length_cons,List.length_nil]
  refine ⟨by omega,?_⟩
  rw [show a++47::n=(a++[47])++n from by simp,show a.length+(0+1)=(a++[47]).length from by simp,List.take_left]
 ·have h1:Lib.indexByte n 47 = -1:=by
   have:=od h
   rwa [Lib.index_one] at this
  rw [h1];decide
theorem cD.bare {L:PL} (h:cD L) {n:Str} (hn:aU L n=[]):∀ q ∈ L,¬ aP q.1=n:=fun q hq e=>by
 obtain ⟨l,x,k1,k2,k3,k4⟩:=h q hq
 rw [k3,gi,iy _ _ k2.2.1] at e
 have:x ∈ aU L n:=List.mem_filterMap.2 ⟨q,hq,by rw [k3,gi,e];exact u9 n x k2.2.1⟩
 rw [hn] at this;cases this
theorem va {L:PL} {cwd path data:Str} {um:Int} {more:Bool} {ps:Pts} (h:cD L) (hs:aV ltB L) (hc:NPl cwd) (hr:(cY L cwd um path data more).2 = .go ps):cD (dD L ps):=by
 obtain ⟨a,h1,h2⟩:=bH hr
 obtain ⟨k1,k2⟩:=gR hc h1
 have hw:∀ e:Bits,dA a.1 e more data = .go ps→∃ d,ps=[(a.1,⟨e.k,e.m,d⟩)]:=fun e he=>by
  unfold dA at he
  split at he
  ·cases he
  ·exact ⟨_,(Rs.go.inj he).symm⟩
 split at h2
 ·cases h2
 rename_i c1
 split at h2
 ·split at h2
  ·cases h2
  ·obtain ⟨_,h3,h4⟩:=bH h2
   obtain ⟨d,rfl⟩:=hw _ h4
   obtain ⟨_,h5,h6⟩:=fC h3
   exact h.put hs k1 (fun _=>h6) fun hk=>by rw [← k2] at hk;exact absurd hk c1
 ·rename_i c2
  split at h2
  ·cases h2
  ·obtain ⟨d,rfl⟩:=hw _ h2
   exact h.put hs k1 (fun hk=>h.here hs (by rw [← k2];exact c2)) fun hk=>by rw [← k2] at hk;exact absurd hk c1
theorem qj {L:PL} {cwd path:Str} {e:Bits} {ps:Pts} (h:cD L) (hs:aV ltB L) (hc:NPl cwd) (hr:(eO L cwd path e).2 = .go ps):cD (dD L ps):=by
 obtain ⟨a,h1,h2⟩:=bH hr
 obtain ⟨k1,k2⟩:=gR hc h1
 split at h2
 ·cases h2
 ·rename_i c1
  obtain ⟨rfl,h5,h6⟩:=fC h2
  exact h.put hs k1 (fun _=>h6) fun hk=>by rw [← k2] at hk;rw [hk] at c1;exact absurd (by decide) c1
theorem rG {L:PL} {cwd target path:Str} {ps:Pts} (h:cD L) (hs:aV ltB L) (hc:NPl cwd) (hr:(bC L cwd target path).2 = .go ps):cD (dD L ps):=by
 unfold bC at hr
 split at hr;· cases hr
 split at hr;· cases hr
 exact qj h hs hc hr
theorem tD {L:PL} {cwd path:Str} {ps:Pts} (h:cD L) (hs:aV ltB L) (hc:NPl cwd) (hr:(cS L cwd path).2 = .go ps):cD (dD L ps):=by
 obtain ⟨a,h1,h2⟩:=bH hr
 obtain ⟨k1,k2,k3⟩:=fK hc h1
 split at h2
 ·cases h2
 ·rename_i c1
  obtain ⟨rfl,h5,h6⟩:=fC h2
  exact h.put hs k1 (fun hk=>absurd rfl hk) fun hk=>by rw [← k2] at hk;exact absurd hk c1
theorem vb {L:PL} {cwd path:Str} {ps:Pts} (h:cD L) (hs:aV ltB L) (hc:NPl cwd) (hr:(dK L cwd path).2 = .go ps):cD (dD L ps):=by
 obtain ⟨a,h1,h2⟩:=bH hr
 obtain ⟨k1,k2,k3⟩:=fK hc h1
 split at h2;· cases h2
 split at h2;· cases h2
 obtain ⟨_,h3,h4⟩:=bH h2
 simp only at h3
 split at h3
 ·cases h3
 ·rename_i c3
  obtain ⟨rfl,h5,h6⟩:=fC h4
  exact h.put hs k1 (fun hk=>absurd rfl hk) fun _ _=>h.bare (Decidable.not_not.1 c3)
theorem tE {L:PL} {cwd f t:Str} {ps:Pts} (h:cD L) (hs:aV ltB L) (hc:NPl cwd) (hr:(cT L cwd f t).2 = .go ps):cD (dD L ps):=by
 obtain ⟨a,h1,h2⟩:=bH hr
 obtain ⟨k1,k2,k3⟩:=fK hc h1
 split at h2;· cases h2
 rename_i c1
 obtain ⟨b,h3,h4⟩:=bH h2
 obtain ⟨j1,j2⟩:=gR hc h3
 split at h4;· cases h4
 rename_i c2
 split at h4;· cases h4
 obtain ⟨_,h5,h6⟩:=bH h4
 obtain ⟨_,r1,r2⟩:=fC h5
 obtain ⟨rfl,r3,r4⟩:=fC h6
 split
 ·exact h
 ·rename_i hab
  have hput:=h.put hs k1 (b:=Bits.no) (fun hk=>absurd rfl hk) (fun hk=>by rw [← k2] at hk;exact absurd hk c1)
  refine hput.put (eN hs _ _) j1 (fun _=>?_) fun hk=>?_
  ·rw [jx hs,if_pos]
   ·exact r4
   ·refine .inr (.inl fun e=>?_)
    rw [e,← k2] at r4
    exact c1 r4
  ·rw [jx hs,if_pos (.inr (.inl fun e=>hab e.symm)),← j2] at hk
   exact absurd hk c2
theorem vc {L:PL} {cwd path:Str} {m:Int} {ps:Pts} (h:cD L) (hs:aV ltB L) (hc:NPl cwd) (hr:(dL L cwd path m).2 = .go ps):cD (dD L ps):=by
 obtain ⟨a,h1,h2⟩:=bH hr
 obtain ⟨k1,k2,k3⟩:=fK hc h1
 simp only at h2
 split at h2;· cases h2
 split at h2;· cases h2
 cases h2
 exact h.put hs k1 (fun _=>h.here hs (by rw [← k2];exact k3)) fun hk hb=>by rw [← k2] at hk;exact absurd hk hb
end Go.Proofs.YtmoaidkglldhcaaGreatDoor
namespace Go.Proofs.YtmoaidkglldhcaaGreatDoor
open Go Go.Ab
set_option maxRecDepth 20000
theorem yh {L L':PL} (h1:aV ltB L) (h2:aV ltB L') (h:∀ n,aK n L=aK n L'):L=L':=by
 have n1:=h1.nodup gh
 have n2:=h2.nodup gh
 refine lM gh ((List.perm_ext_iff_of_nodup ((List.pairwise_map.1 n1).imp fun h e=>h (congrArg _ e)) ((List.pairwise_map.1 n2).imp fun h e=>h (congrArg _ e))).2 fun q=>?_) h1 h2
 obtain ⟨n,b⟩:=q
 rw [← bs n1,← bs n2,h n]
theorem wx {b:Bits} (h:EG b):(cC b).length≤4000000000:=by
 obtain ⟨⟨h1,h1'⟩,⟨h2,h2'⟩,h3,h4⟩:=h
 obtain ⟨k,m,l⟩:=b
 simp only at h1 h1' h2 h2' h3 h4
 obtain ⟨k,rfl⟩:=Int.eq_ofNat_of_zero_le (by omega:0≤k)
 obtain ⟨m,rfl⟩:=Int.eq_ofNat_of_zero_le h2
 have hv:cC ⟨k,m,l⟩=cG [Lib.decDigits k,Lib.decDigits m,l]:=by
  rw [cC,if_neg (by simp only;omega),Lib.itoa_nonneg,Lib.itoa_nonneg]
 rw [hv]
 have d1:=fk 0 k (by omega)
 have d2:=fk 0 m (by omega)
 refine Nat.le_trans (rp (k:=100) (by decide) fun s hs=>?_) (by show 3 * 200≤4000000000;decide)
 simp only [List.mem_cons,List.not_mem_nil,or_false] at hs
 rcases hs with rfl|rfl|rfl<;>omega
theorem rH {L:PL} (h:aV ltB L) (hg:∀ q ∈ L,EG q.2) {n:Str} (hn:¬ n=[]):(aK n L=none∧aF L n=Bits.no)∨∃ b,aK n L=some b∧aF L n=b∧EG b:=by
 unfold aF
 rw [if_neg hn]
 cases hb:aK n L with
 | none=>exact .inl ⟨rfl,rfl⟩
 | some b=>exact .inr ⟨b,rfl,rfl,hg _ ((bs (h.nodup gh)).1 hb)⟩
theorem wy {L:PL} (h:aV ltB L) (hg:∀ q ∈ L,EG q.2) {n:Str} (hn:¬ n=[]):lL (cC (aF L n))=(aF L n,0)∧(cC (aF L n)).length≤4000000000:=by
 rcases rH h hg hn with ⟨_,e⟩|⟨b,_,e,hb⟩
 ·rw [e];exact ⟨rfl,by decide⟩
 ·rw [e];exact ⟨rj b hb.1 hb.2.1 hb.2.2.1 (by have:=hb.2.2.2;omega),wx hb⟩
theorem wz:∀ (l:List Tch) (s:St),s.t=none→(jv s l).t=none
 | [],_,h=>h
 | q::l,s,h=>wz l _ (by simp [St.put,h])
theorem oJ {L:PL} (h:aV ltB L) (hg:∀ q ∈ L,EG q.2):∀ (W:WL) (s:St),aV ltB s.L→(∀ w ∈ W,¬ w.1=[]) →
  aV ltB (jv s (W.map fun w=>((w.1,false),cC (aF L w.1)))).L∧∀ n,aK n (jv s (W.map fun w=>((w.1,false),cC (aF L w.1)))).L=if n ∈ W.map (·.1) then aK n L else aK n s.L
 | [],s,hs,_=>⟨hs,fun n=>by simp [jv]⟩
 | w::W,s,hs,hw=>by
  have hn:=hw w List.mem_cons_self
  have he:=(wy h hg hn).1
  obtain ⟨k1,k2⟩:=oJ h hg W (s.put w.1 (aF L w.1)) (eN hs _ _) fun w' h'=>hw w' (List.mem_cons_of_mem _ h')
  simp only [List.map_cons,jv,he]
  refine ⟨k1,fun n=>?_⟩
  rw [k2 n]
  by_cases h1:n ∈ W.map (·.1)
  ·rw [if_pos h1,if_pos (List.mem_cons_of_mem _ h1)]
  ·rw [if_neg h1]
   show aK n (dz w.1 (aF L w.1) s.L)=_
   rw [gu hs,if_neg hn]
   by_cases h2:n=w.1
   ·subst h2
    rw [if_pos rfl,if_pos List.mem_cons_self]
    rcases rH h hg hn with ⟨e1,e⟩|⟨b,e1,e,hb⟩
    ·rw [e,e1];rfl
    ·rw [e,e1,if_neg (by have:=hb.1.1;omega)]
   ·rw [if_neg h2,if_neg fun h3=>by
     rcases List.mem_cons.1 h3 with h3|h3
     ·exact h2 h3
     ·exact h1 h3]
theorem TG.same {L0:PL} {s:St} {n m:Nat} {q:Tr} (h:TG L0 s n q) (hs:SG s m) (h0:aV ltB L0):jv ⟨L0,none⟩ s.writes=⟨s.L,none⟩:=by
 unfold St.writes
 rw [h.t]
 obtain ⟨k1,k2⟩:=oJ hs.ok.sl hs.dO q.W ⟨L0,none⟩ h0 fun w hw=>(h.wk w hw).1
 have k3:=wz (q.W.map fun w=>((w.1,false),cC (aF s.L w.1))) ⟨L0,none⟩ rfl
 simp only
 generalize jv ⟨L0,none⟩ (q.W.map fun w=>((w.1,false),cC (aF s.L w.1)))=z at k1 k2 k3
 obtain ⟨zL,zt⟩:=z
 simp only at k1 k2 k3
 subst k3
 congr 1
 refine yh k1 hs.ok.sl fun n=>?_
 rw [k2 n]
 split
 ·rfl
 ·rename_i hn
  refine (h.wr n ?_).symm
  cases hl:aK n q.W with
  | none=>rfl
  | some u=>exact absurd (List.mem_map.2 ⟨(n,u),(bs ((hs.ok.tr q h.t).sw.nodup gh)).1 hl,rfl⟩) hn
theorem TG.app {L0:PL} {s:St} {n m:Nat} {q:Tr} (h:TG L0 s n q) (hs:SG s m):∀ x ∈ s.writes,Eb x:=by
 unfold St.writes
 rw [h.t]
 intro x hx
 obtain ⟨w,hw,rfl⟩:=List.mem_map.1 hx
 obtain ⟨hn,hl⟩:=h.wk w hw
 obtain ⟨e1,e2⟩:=wy hs.ok.sl hs.dO hn
 refine ⟨Nat.le_trans hl (by decide),e2,?_,?_,?_,rfl⟩
 ·rw [e1];exact la hs.ok.po w.1
 ·rw [e1];exact ox hs.ok.no w.1
 ·rw [e1]
end Go.Proofs.YtmoaidkglldhcaaGreatDoor
namespace Go.Proofs.YtmoaidkglldhcaaGreatDoor
open Go Go.Ab
set_option maxRecDepth 20000
structure EK (b:Bits):Prop where
 k:1≤b.k∧b.k≤3
 m:0≤b.m∧b.m≤7
 d:b.k=2→b.l=[]
 l:b.l.length≤100000
 h:b.k=3→b.l.length≤300
def VK (b:Bits):Prop:=b=Bits.no∨EK b
theorem VK.ok {b:Bits} (h:VK b):b.ok:=by
 rcases h with rfl|⟨h1,h2,h3,h4,h5⟩
 ·exact ⟨⟨by decide,by decide⟩,⟨by decide,by decide⟩,by decide⟩
 ·exact ⟨⟨by omega,by omega⟩,⟨by omega,by omega⟩,by omega⟩
theorem VK.pos {b:Bits} (h:VK b):0≤b.k∧0≤b.m:=by
 rcases h with rfl|⟨h1,h2,_⟩
 ·exact ⟨by decide,by decide⟩
 ·exact ⟨by omega,by omega⟩
theorem VK.mode {b:Bits} (h:VK b):0≤b.m∧b.m≤7:=by
 rcases h with rfl|⟨h1,h2,_⟩
 ·exact ⟨by decide,by decide⟩
 ·exact h2
theorem VK.ent {b:Bits} (h:VK b):lL (cC b)=(b,0):=by
 rcases h with rfl|h
 ·rfl
 ·exact rj b h.k h.m (fun hh=>hh.2 (h.d hh.1)) (by have:=h.l;omega)
theorem VK.inj {a b:Bits} (h:VK a) (h':VK b) (e:cC a=cC b):a=b:=by
 have:=h.ent
 rw [e,h'.ent] at this
 exact (Prod.mk.inj this).1.symm
structure LK (L:PL):Prop where
 so:aV ltB L
 ek:∀ q ∈ L,EK q.2
theorem LK.link {L:PL} (h:LK L):jt L:=fun q hq h3=>(h.ek q hq).h h3
theorem LK.get {L:PL} (h:LK L) (n:Str):VK (aF L n):=by
 unfold aF
 split
 ·exact .inr ⟨⟨by decide,by decide⟩,⟨by decide,by decide⟩,fun _=>rfl,by decide,fun h=>by simp at h⟩
 ·cases hl:aK n L with
  | none=>exact .inl rfl
  | some b=>exact .inr (h.ek _ ((bs (h.so.nodup gh)).1 hl))
theorem LK.put {L:PL} (h:LK L) (n:Str) {b:Bits} (hb:VK b):LK (dz n b L) :=
 ⟨eN h.so n b,fun q hq=>by
  rcases gr hq with ⟨rfl,h0⟩|hq
  ·rcases hb with rfl|hb
   ·exact absurd rfl h0
   ·exact hb
  ·exact h.ek q hq⟩
structure OpB (c:Nat) (x:Rds × Rs Pts):Prop where
 rd:∀ f ∈ x.1,f.1.length≤c
 rl:x.1.length≤20000
 pt:∀ q ∈ bG x.2,q.1.length≤c∧VK q.2
 pl:(bG x.2).length≤2
structure RdB {α:Type} (c k:Nat) (x:Rds × Rs α) (V:α→Prop):Prop where
 rd:∀ f ∈ x.1,f.1.length≤c
 rl:x.1.length≤k
 go:∀ a,x.2 = .go a→V a
theorem RdB.then {α β:Type} {c k k':Nat} {x:Rds × Rs α} {V:α→Prop} {f:α→Rds × Rs β} {W:β→Prop} (h:RdB c k x V) (h':∀ a,V a→RdB c k' (f a) W):RdB c (k+k') (a7 x f) W:=by
 obtain ⟨r,a⟩:=x
 cases a with
 | err e=>exact ⟨h.rd,Nat.le_trans h.rl (Nat.le_add_right _ _),fun a h=>by cases h⟩
 | go a =>
  have h2:=h' a (h.go a rfl)
  refine ⟨fun g hg=>?_,?_,fun b hb=>h2.go b hb⟩
  ·rcases List.mem_append.1 hg with hg|hg
   ·exact h.rd g hg
   ·exact h2.rd g hg
  ·show (r++(f a).1).length≤_
   have h3:r.length≤k:=h.rl
   have h4:=h2.rl
   rw [List.length_append];omega
theorem RdB.err {α:Type} {c k:Nat} {e:Int} {V:α→Prop}:RdB c k (([],.err e):Rds × Rs α) V:=⟨fun f hf=>(by cases hf),Nat.zero_le _,fun a h=>(by cases h)⟩
theorem RdB.val {α:Type} {c k:Nat} {r:Rs α} {V:α→Prop} (h:∀ a,r = .go a→V a):RdB c k (([],r):Rds × Rs α) V:=⟨fun f hf=>(by cases hf),Nat.zero_le _,h⟩
theorem RdB.mono {α:Type} {c k c' k':Nat} {x:Rds × Rs α} {V W:α→Prop} (h:RdB c k x V) (hc:c≤c') (hk:k≤k') (hV:∀ a,V a→W a):RdB c' k' x W :=
 ⟨fun f hf=>Nat.le_trans (h.rd f hf) hc,Nat.le_trans h.rl hk,fun a ha=>hV a (h.go a ha)⟩
def PV (c:Nat) (l:Pts):Prop:=l.length≤2∧∀ q ∈ l,q.1.length≤c∧VK q.2
theorem RdB.op {c k:Nat} {x:Rds × Rs Pts} (h:RdB c k x (PV c)) (hk:k≤20000):OpB c x:=by
 refine ⟨h.rd,Nat.le_trans h.rl hk,fun q hq=>?_,?_⟩
 ·obtain ⟨r,a⟩:=x
  cases a with
  | err e=>cases hq
  | go a=>exact (h.go a rfl).2 q hq
 ·obtain ⟨r,a⟩:=x
  cases a with
  | err e=>exact Nat.zero_le _
  | go a=>exact (h.go a rfl).1
theorem PV.one {c:Nat} {n:Str} {b:Bits} (hn:n.length≤c) (hb:VK b):PV c [(n,b)]:=⟨by simp,fun q hq=>by rw [List.mem_singleton.1 hq];exact ⟨hn,hb⟩⟩
section
variable {L:PL} (hL:LK L) (cwd:Str)
include hL
theorem kC (path:Str) (fol:Bool):RdB (cwd.length+2700) 6000 (findF L cwd path fol) (fun a=>a.1.length≤cwd.length+2700∧VK a.2):=by
 obtain ⟨h1,h2,h3⟩:=ix hL.so hL.link cwd path fol
 exact ⟨h1,h2,fun a ha=>⟨(h3 a ha).1,by rw [(h3 a ha).2];exact hL.get a.1⟩⟩
theorem gS (path:Str) (fol:Bool):RdB (cwd.length+2700) 6000 (bR L cwd path fol) (fun a=>a.1.length≤cwd.length+2700∧VK a.2∧¬ a.2.k=0) :=
 (kC hL cwd path fol).then (k':=0) fun a ha=>.val fun b hb=>by
  split at hb
  ·cases hb
  ·cases hb;exact ⟨ha.1,ha.2,‹_›⟩
omit hL in
theorem lX {α:Type} {c:Nat} {place:Str} {a:α} {V:α→Prop} (hp:place.length≤c) (hV:V a):RdB c 1 (bW L place a) V :=
 ⟨fun f hf=>by rw [List.mem_singleton.1 hf];exact Nat.le_trans (iN place) hp,by simp [bW],fun b hb=>by
  simp only [bW] at hb
  split at hb
  ·cases hb
  ·cases hb;exact hV⟩
theorem oK (hW:cD L):∀ (k:Nat) (w w':Wk),NPl w.pl→pk w.todo→¬ (aF L w.pl).k=3→(bL L true k w).2 = .go w'→¬ (aF L w'.pl).k=3
 | 0,w,w',hp,ht,h3,h=>by
  simp only [bL] at h
  split at h
  ·cases h;exact h3
  ·cases h
 | k+1,⟨a,todo,l,d⟩,w',hp,ht,h3,h=>by
  cases todo with
  | nil=>simp only [bL,Rs.go.injEq] at h;subst h;exact h3
  | cons n t =>
   simp only [bL] at h
   cases hs:bl L true ⟨a,n::t,l,d⟩ n t with
   | mk rd r =>
    rw [hs] at h
    cases r with
    | err e=>cases h
    | go w1 =>
     obtain ⟨k1,k2⟩:=tC hp ht hs
     refine oK hW k w1 w' k1 k2 ?_ h
     unfold bl at hs
     split at hs;· cases hs
     rename_i hin
     split at hs;· cases hs
     split at hs;· cases hs;exact h3
     split at hs
     ·cases hs
      have h2:(aF L a).k=2:=by
       rw [Decidable.not_not] at hin
       unfold inE at hin
       split at hin;· cases hin
       split at hin;· cases hin
       rename_i h2;exact Decidable.not_not.1 h2
      have:=hW.here hL.so (n:=a) (by rw [h2];decide)
      simp only;omega
     obtain ⟨-,hs⟩:=Prod.mk.inj hs
     unfold goF at hs
     split at hs
     ·unfold dt at hs
      split at hs;· cases hs
      split at hs;· cases hs
      cases hs
      simp only
      split
      ·show ¬ (2:Int)=3
       decide
      ·exact h3
     ·rename_i hk
      split at hs;· cases hs
      cases hs
      exact fun e=>hk ⟨e,.inr (.inl rfl)⟩
theorem tF (hW:cD L) (hc:NPl cwd) (hcd:(aF L cwd).k=2) {path:Str} {a:Str × Bits} (h:(findF L cwd path true).2 = .go a):¬ a.2.k=3:=by
 have ha:=(gR hc h).2
 unfold findF at h
 split at h;· cases h
 split at h;· cases h
 have hk:=fun w'=>oK hL hW (wkW (aL cwd path)) (aL cwd path) w' (by
  simp only [aL];split
  ·exact NPl.nil
  ·exact hc) (lW path) (by
  simp only [aL];split
  ·show ¬ (2:Int)=3
   decide
  ·omega)
 generalize bL L true (wkW (aL cwd path)) (aL cwd path)=x at h hk
 obtain ⟨rd,r⟩:=x
 cases r with
 | err e=>cases h
 | go w =>
  simp only [cu] at h
  split at h
  ·cases h
  ·cases h;exact hk w rfl
theorem DD (hW:cD L) (hc:NPl cwd) (hcd:(aF L cwd).k=2) (um:Int) (hu:0≤bF 6 um∧bF 6 um≤7) (path data:Str) (more:Bool):OpB (cwd.length+2700) (cY L cwd um path data more):=by
 have hw:∀ (at':Str) (e:Bits),at'.length≤cwd.length+2700→e.k=1→0≤e.m∧e.m≤7→RdB (cwd.length+2700) 0 (([],dA at' e more data):Rds × Rs Pts) (PV (cwd.length+2700)):=fun at' e ha h1 hm=>.val fun l hl=>by
  unfold dA at hl
  split at hl
  ·cases hl
  ·cases hl
   exact .one ha (.inr ⟨by simp only;omega,hm,fun h=>by simp only at h;omega,by simp only;omega,fun h=>by simp only at h;omega⟩)
 have hf:RdB (cwd.length+2700) 6000 (findF L cwd path true) (fun a=>(a.1.length≤cwd.length+2700∧VK a.2)∧¬ a.2.k=3) :=
  ⟨(kC hL cwd path true).rd,(kC hL cwd path true).rl,fun a ha=>⟨(kC hL cwd path true).go a ha,tF hL cwd hW hc hcd ha⟩⟩
 refine RdB.op (k:=6000+1) (hf.then (k':=1) fun a ⟨⟨h1,h2⟩,h3⟩=>?_) (by decide)
 split
 ·exact .err
 ·split
  ·split
   ·exact .err
   ·exact ((lX (V:=fun _=>True) h1 trivial).then (k':=0) fun _ _=>hw a.1 _ h1 rfl hu).mono (Nat.le_refl _) (by decide) fun _ h=>h
  ·split
   ·exact .err
   ·rename_i c1 c2 c3
    have:a.2.k=1:=by
     rcases h2 with h2|h2
     ·rw [h2] at c2;exact absurd rfl c2
     ·have:=h2.k;omega
    exact (hw a.1 a.2 h1 this h2.mode).mono (Nat.le_refl _) (by decide) fun _ h=>h
theorem Bv (path:Str) (e:Bits) (he:VK e):OpB (cwd.length+2700) (eO L cwd path e) :=
 RdB.op (k:=6000+1) ((kC hL cwd path false).then (k':=1) fun a ha=>by
  split
  ·exact .err
  ·exact lX ha.1 (.one ha.1 he)) (by decide)
theorem DE (um:Int) (hu:0≤bF 7 um∧bF 7 um≤7) (path:Str):OpB (cwd.length+2700) (dB L cwd um path) :=
 Bv hL cwd path _ (.inr ⟨(show 1≤(2:Int)∧(2:Int)≤3 by decide),hu,fun _=>rfl,(show 0≤100000 by decide),fun h=>by simp at h⟩)
theorem yi (target path:Str):OpB (cwd.length+2700) (bC L cwd target path):=by
 unfold bC
 split
 ·exact RdB.op (k:=0) .err (by decide)
 ·rename_i ht
  split
  ·exact RdB.op (k:=0) .err (by decide)
  ·have:target.length≤200:=by rw [not_or] at ht;omega
   exact Bv hL cwd path _ (.inr ⟨(show 1≤(3:Int)∧(3:Int)≤3 by decide),(show 0≤(7:Int)∧(7:Int)≤7 by decide),fun h=>by simp at h,by simp only;omega,fun _=>by simp only;omega⟩)
theorem Bw (path:Str):OpB (cwd.length+2700) (cS L cwd path) :=
 RdB.op (k:=6000+1) ((gS hL cwd path false).then (k':=1) fun a ha=>by
  split
  ·exact .err
  ·exact lX ha.1 (.one ha.1 (.inl rfl))) (by decide)
theorem DF (path:Str):OpB (cwd.length+2700) (dK L cwd path) :=
 RdB.op (k:=6000+2) ((gS hL cwd path false).then (k':=2) fun a ha=>by
  split
  ·exact .err
  ·split
   ·exact .err
   ·refine RdB.then (k:=1) (k':=1) (V:=fun _=>True) ⟨fun f hf=>?_,by simp,fun _ _=>trivial⟩ fun _ _=>lX ha.1 (.one ha.1 (.inl rfl))
    rw [List.mem_singleton.1 hf];exact ha.1) (by decide)
theorem Bx (f t:Str):OpB (cwd.length+2700) (cT L cwd f t) :=
 RdB.op (k:=6000+(6000+(1+1))) ((gS hL cwd f false).then (k':=6000+(1+1)) fun a ha=>by
  split
  ·exact .err
  ·refine (kC hL cwd t false).then (k':=1+1) fun b hb=>?_
   split
   ·exact .err
   ·split
    ·exact .err
    ·refine (lX (V:=fun _=>True) ha.1 trivial).then (k':=1) fun _ _=>lX hb.1 ?_
     split
     ·exact ⟨by simp,fun q hq=>by cases hq⟩
     ·refine ⟨by simp,fun q hq=>?_⟩
      simp only [List.mem_cons,List.not_mem_nil,or_false] at hq
      rcases hq with rfl|rfl
      ·exact ⟨ha.1,.inl rfl⟩
      ·exact ⟨hb.1,ha.2.1⟩) (by decide)
theorem DG (path:Str) (m:Int):OpB (cwd.length+2700) (dL L cwd path m) :=
 RdB.op (k:=6000) ((gS hL cwd path true).then (k':=0) fun a ha=>.val fun l hl=>by
  split at hl;· cases hl
  rename_i hm
  split at hl;· cases hl
  cases hl
  rw [Decidable.not_not] at hm
  have hk:EK a.2:=ha.2.1.resolve_left fun e=>ha.2.2 (by rw [e];rfl)
  exact .one ha.1 (.inr ⟨hk.k,hm,hk.d,hk.l,hk.h⟩)) (by decide)
theorem rI (path:Str):RdB (cwd.length+2700) 6000 (bQ L cwd path) (fun a=>a.length≤cwd.length+2700∧(aF L a).k=2):=by
 have h:=(gS hL cwd path true)
 refine ⟨?_,?_,?_⟩
 ·exact ((h.then (k':=0) (W:=fun _=>True) fun a ha=>.val fun _ _=>trivial)).rd
 ·exact ((h.then (k':=0) (W:=fun _=>True) fun a ha=>.val fun _ _=>trivial)).rl
 ·intro b hb
  obtain ⟨a,h1,h2⟩:=bH hb
  have ha:=h.go a h1
  simp only at h2
  split at h2;· cases h2
  rename_i hk
  split at h2;· cases h2
  cases h2
  obtain ⟨c,h3,h4⟩:=bH h1
  have h5:=(ix hL.so hL.link cwd path true).2.2 c h3
  simp only at h4
  split at h4;· cases h4
  cases h4
  refine ⟨ha.1,?_⟩
  rw [← h5.2];exact Decidable.not_not.1 hk
theorem FT (path:Str):RdB (cwd.length+2700) 6001 (js L cwd path) (fun _=>True) :=
 (gS hL cwd path true).then (k':=1) fun a ha=>by
  split
  ·exact .err
  ·split
   ·exact .err
   ·exact ⟨fun f hf=>by rw [List.mem_singleton.1 hf];exact ha.1,by simp,fun _ _=>trivial⟩
theorem vd (path:Str):RdB (cwd.length+2700) 6000 (gP L cwd path) (fun _=>True):=(gS hL cwd path true).then (k':=0) fun _ _=>.val fun _ _=>trivial
theorem ve (path:Str):RdB (cwd.length+2700) 6000 (dR L cwd path) (fun _=>True):=(gS hL cwd path false).then (k':=0) fun _ _=>.val fun _ _=>trivial
end
structure KS (s:St) (cwd:Str) (n:Nat):Prop where
 ok:SOK s
 ek:∀ q ∈ s.L,EK q.2
 well:cD s.L
 np:NPl cwd
 cd:(aF s.L cwd).k=2
 len:s.L.length≤4 * n
 key:∀ q ∈ s.L,q.1.length≤3000 * n
 cl:cwd.length≤3000 * n
 tr:∀ q,s.t=some q→q.R.length≤20000 * n∧q.W.length≤4 * n
theorem KS.lk {s:St} {cwd:Str} {n:Nat} (h:KS s cwd n):LK s.L:=⟨h.ok.sl,h.ek⟩
theorem mU:∀ (l:Rds) (s:St),SOK s→∀ q,(s.rds l).t=some q→∃ q0,s.t=some q0∧q.R.length≤q0.R.length+l.length∧q.W=q0.W∧q.old=q0.old
 | [],s,_,q,hq=>⟨q,hq,Nat.le_refl _,rfl,rfl⟩
 | f::l,s,hs,q,hq=>by
  obtain ⟨q1,h1,h2,h3,h4⟩:=mU l (s.read f) (hs.read f) q hq
  simp only [St.read,Option.map_eq_some_iff] at h1
  obtain ⟨q0,h5,rfl⟩:=h1
  have:=jL (old:=q0.old) (W:=q0.W) (f:=f) (hs.tr q0 h5).sr
  refine ⟨q0,h5,?_,h3,h4⟩
  have h2':q.R.length≤(cj q0.old q0.W f q0.R).length+l.length:=h2
  simp only [List.length_cons];omega
theorem vf:∀ (l:Pts) (s:St),SOK s→s.L.length+l.length≤1000000→(∀ q ∈ l,q.1.length≤1000000∧VK q.2)→SOK (s.pts l)∧(s.pts l).L.length≤s.L.length+l.length∧(s.pts l).L=dD s.L l ∧
  ∀ q,(s.pts l).t=some q→∃ q0,s.t=some q0∧q.R=q0.R∧q.W.length≤q0.W.length+l.length∧q.old=q0.old
 | [],s,hs,_,_=>⟨hs,Nat.le_refl _,rfl,fun q hq=>⟨q,hq,rfl,Nat.le_refl _,rfl⟩⟩
 | p::l,s,hs,hl,hv=>by
  have hp:=hv p List.mem_cons_self
  simp only [List.length_cons] at hl
  have hs1:=hs.put p.1 p.2 (by omega) hp.1 hp.2.ok hp.2.pos
  have hl1:(s.put p.1 p.2).L.length≤s.L.length+1:=iv p.1 p.2 s.L
  obtain ⟨k1,k2,k3,k4⟩:=vf l (s.put p.1 p.2) hs1 (by omega) fun q hq=>hv q (List.mem_cons_of_mem _ hq)
  refine ⟨k1,?_,k3,fun q hq=>?_⟩
  ·show ((s.put p.1 p.2).pts l).L.length≤_
   simp only [List.length_cons];omega
  ·obtain ⟨q1,h1,h2,h3,h4⟩:=k4 q hq
   simp only [St.put,Option.map_eq_some_iff] at h1
   obtain ⟨q0,h5,rfl⟩:=h1
   have h6:q.W.length≤(eQ true p.1 q0.W).length+l.length:=h3
   have h7:=oz (n:=p.1) (hs.tr q0 h5).sw
   refine ⟨q0,h5,h2,?_,h4⟩
   simp only [List.length_cons];omega
theorem tG:∀ (l:Pts) {L:PL},LK L→(∀ q ∈ l,VK q.2)→LK (dD L l)
 | [],_,h,_=>h
 | p::l,_,h,hv=>tG l (h.put p.1 (hv p List.mem_cons_self)) fun q hq=>hv q (List.mem_cons_of_mem _ hq)
theorem qo {c:Nat}:∀ (l:Pts) {L:PL},(∀ q ∈ L,q.1.length≤c)→(∀ q ∈ l,q.1.length≤c)→∀ q ∈ dD L l,q.1.length≤c
 | [],_,h,_=>h
 | p::l,L,h,hv=>qo l (fun q hq=>by
     rcases gr hq with ⟨rfl,_⟩|hq
     ·exact hv p List.mem_cons_self
     ·exact h q hq) fun q hq=>hv q (List.mem_cons_of_mem _ hq)
theorem KS.act {s:St} {cwd cwd':Str} {n:Nat} (h:KS s cwd n) (hn:n≤100) {c:Nat} {x:Rds × Rs Pts} (hx:OpB c x) (hc:c≤3000 * (n+1)) (hw:cD (dD s.L (bG x.2))) (hcd:(aF (dD s.L (bG x.2)) cwd').k=2) (hnp:NPl cwd') (hcl:cwd'.length≤3000 * (n+1)) :
  KS ((s.rds x.1).pts (bG x.2)) cwd' (n+1):=by
 have h1:=h.ok.rds x.1
 have hL:(s.rds x.1).L=s.L:=te x.1 s
 have hlen:=h.len
 have hpl:=hx.pl
 obtain ⟨k1,k2,k3,k4⟩:=vf (bG x.2) (s.rds x.1) h1 (by rw [hL];omega) fun q hq=>⟨by have:=(hx.pt q hq).1;omega,(hx.pt q hq).2⟩
 rw [hL] at k2 k3
 refine ⟨k1,?_,by rw [k3];exact hw,hnp,by rw [k3];exact hcd,by omega,?_,hcl,fun q hq=>?_⟩
 ·rw [k3];exact (tG _ h.lk fun q hq=>(hx.pt q hq).2).ek
 ·rw [k3]
  exact qo _ (fun q hq=>by have:=h.key q hq;omega) fun q hq=>Nat.le_trans (hx.pt q hq).1 hc
 ·obtain ⟨q1,e1,e2,e3,e4⟩:=k4 q hq
  obtain ⟨q0,f1,f2,f3,f4⟩:=mU x.1 s h.ok q1 e1
  have h9:=h.tr q0 f1
  have:=hx.rl
  rw [e2];rw [f3] at e3
  omega
end Go.Proofs.YtmoaidkglldhcaaGreatDoor
namespace Go.Proofs.YtmoaidkglldhcaaGreatDoor
open Go Go.Ab
set_option maxRecDepth 20000
end Go.Proofs.YtmoaidkglldhcaaGreatDoor
namespace Go.Proofs.YtmoaidkglldhcaaGreatDoor
open Go Go.Ab
set_option maxRecDepth 20000
set_option maxHeartbeats 4000000
theorem yj (r:Oid) (L:PL) (hL:L.length≤1000000) (OO RR WW bb:AV) (p:Oid) (hr:¬ Oid.under p r) :
  ah Tryz.prog 37 [.ptr r 0] (Oid.under p) ⟨[(r,.cells [.list 4 (L.map aC),OO,RR,WW,bb])],.tuple [],[(r,some (.cells [.list 4 (L.map aC),.list 4 (L.map aC),.list 3 [],.list 1 [],.bool true]))]⟩:=by
 refine aD (n:=26) (rs:=[]) Tryz.func37 rfl rfl (by decide) rfl rfl rfl ?_;rintro x rfl hrd hng
 refine kx ?_
 refine qw (uu hr) ?_
 refine qd (.d [] [] [0]) (uu hr) trivial ?_
 refine cK (gq (.sub 1 9 x.p) r 4 (L.map aC) [.list 4 (L.map aC),.sl (.sub 1 9 x.p) 4 L.length,.nilSl,.nilSl,.bool true] [.list 4 (L.map aC),.list 4 (L.map aC),.nilSl,.nilSl,.bool true] ?_ ?_ ?_ (.keep (.gU ?_ (.keep (.keep (.keep .nil)))))
  (rk r [.list 4 (L.map aC),.list 4 (L.map aC),.nilSl,.nilSl,.bool true] [.list 4 (L.map aC),.list 4 (L.map aC),.list 3 [],.list 1 [],.bool true] ?_ (.cons (.refl _) (.cons (.refl _) (.cons (.gg 3) (.cons (.gg 1) (.cons (.refl _) .nil))))) (.now (bU rfl ?_ ?_))))
 ·simp (disch:=first|omega|assumption) only [go_sem,Oid.ab hr,Oid.aa hr]
 ·simp (disch:=first|omega|assumption) only [go_sem,Oid.ab hr,Oid.aa hr]
 ·exact fun e=>hr (e ▸ Oid.ae (Oid.aq _))
 ·rw [List.length_map]
 ·simp (disch:=first|omega|assumption) only [go_sem,Oid.ab hr,Oid.aa hr]
 ·simp (disch:=first|omega|assumption) only [go_sem,Oid.ab hr,Oid.aa hr]
  all_goals simp only [List.mem_cons,List.not_mem_nil,or_false,forall_eq_or_imp,forall_eq,Option.some.injEq,forall_eq',Mem.af,eq_self,if_true,↓reduceIte,reduceCtorEq,implies_true,not_true_eq_false,false_imp_iff,true_and,and_true,false_and,and_false,imp_self]
 ·simp (disch:=first|omega|assumption) only [go_sem,Oid.ab hr,Oid.aa hr]
  all_goals simp only [List.mem_cons,List.not_mem_nil,or_false,forall_eq_or_imp,forall_eq,Option.some.injEq,forall_eq',Mem.af,eq_self,if_true,↓reduceIte,reduceCtorEq,implies_true,not_true_eq_false,false_imp_iff,true_and,and_true,false_and,and_false,imp_self]
theorem wA (r:Oid) (L:PL) (ho:POk L) (hno:xL L) (OO bb:AV) (Rs:List AV) (W:WL) (hW:W.length≤1000000) (p:Oid) (hr:¬ Oid.under p r) :
  ah Tryz.prog 40 [.ptr r 0] (Oid.under p) ⟨[(r,.cells [.list 4 (L.map aC),OO,.list 3 Rs,.list 1 (W.map fun w=>.str w.1),bb])],.tuple [.list 3 Rs,.list 3 (W.map fun w=>aY ((w.1,false),cC (aF L w.1)))],[(r,some (.cells [.list 4 (L.map aC),.list 4 [],.list 3 [],.list 1 [],.bool false]))]⟩:=by
 have hL:=ho.len
 refine aD (n:=58) (rs:=[.tmp 2,.tmp 3]) Tryz.func40 rfl rfl (by decide) rfl rfl rfl ?_;rintro x rfl hrd hng
 refine kx ?_
 refine qw (uu hr) ?_
 refine ko 4 3 qs0 ?_
 simp (disch:=first|omega|assumption) only [go_sem,Oid.ab hr,Oid.aa hr]
 obtain ⟨g,hg⟩:∃ g:Str × Unit→AV,g=fun w=>aY ((w.1,false),cC (aF L w.1)):=⟨_,rfl⟩
 rw [← hg]
 refine bK [0,4,5] (fun k s'=>∃ (i d j c:Nat),s' = ⟨[(0,.ptr r 0),(4,.sl (.sub d j x.p) 3 i),(5,.int .i64 i)],Mem.of [(r,.cells [.list 4 (L.map aC),OO,.list 3 Rs,.list 1 (W.map fun w=>.str w.1),bb]),(.sub d j x.p,.arr 3 ((W.take i).map g))],c,[]⟩∧k=W.length - i∧i≤W.length∧d < c) _ ⟨0,3,0,4,rfl,rfl,by omega,by omega⟩ ?_
 rintro k s' ⟨i,d,j,c,rfl,rfl,hi,hdc⟩
 (repeat (first|(refine aA rfl rfl ?_)|(refine az rfl rfl ?_)|(refine ar nmd [] hng (by kernel_rfl) fun hf C S K hC1 hC hS hK=>?_;simp (disch:=first|omega|assumption) only [go_sem,Oid.ab hr,Oid.aa hr,List.length_map];refine hK ?_;clear hK hS hC hC1 K S C hf)|((first|refine zn ?_|refine ze ?_|refine zk ?_);with_reducible (constructor;repeat constructor);try refine zl ?_)))
 refine aS rfl rfl (fun hb=>?_) (fun hb=>?_)
 ·have hl:i < W.length:=by omega
  have hts:=fw g hl
  have hti:((W.take i).map g).length=i:=by rw [List.length_map,List.length_take];omega
  generalize hq:W.getD i default=q at hts
  obtain ⟨qn,qu⟩:=q
  have hget:=fun p=>uL L (by omega) qn p
  have hval:=fun p=>pR (aF L qn) (la ho qn) (ox hno qn) p
  have hgq:g (qn,qu) = .agg [.str qn,.bool false,.str (cC (aF L qn))]:=by rw [hg];rfl
  rw [hgq] at hts
  generalize aF L qn=B at hget hval hts
  simp only [Bits.av] at hget hval
  (try ((first|refine zn ?_|refine ze ?_|refine zk ?_);with_reducible (constructor;repeat constructor));try refine zl ?_)
  refine cV nmd [] [(4,19),(7,19),(4,20),(7,20)] mixed hng (by kernel_rfl) [0,4,5] fun hf C S K hC hS hK=>?_;simp (disch:=first|omega|assumption) only [go_sem,Oid.ab hr,Oid.aa hr,hq,AV.cells]
  (repeat ((first|refine hC _ (hget _) (by simp (disch:=first|omega|assumption) only [go_sem]) ?_|refine hC _ (hval _) (by simp (disch:=first|omega|assumption) only [go_sem]) ?_);simp (disch:=first|omega|assumption) only [go_sem]))
  (first|refine hK (aT rfl) ?_|refine hK (by simp (disch:=first|omega|assumption) only [go_sem,List.reverse_cons,List.reverse_nil,ne_eq,not_false_eq_true,implies_true]) ?_);clear hK hS hC K S C hf
  refine qw0 ?_
  exact ⟨_,_,by omega,fun _ _ h=>h,i+1,c+1,23,c+1+1+1,by rw [hts];rfl,rfl,by omega,by omega⟩
 ·obtain rfl:i=W.length:=by omega
  rw [List.take_length]
  refine qw (uu hr) ?_
  refine gG (.sub d j x.p) 3 (W.map g) (qs (uu hr)) ?_
  refine ay (rk r [.list 4 (L.map aC),.nilSl,.nilSl,.nilSl,.bool false] [.list 4 (L.map aC),.list 4 [],.list 3 [],.list 1 [],.bool false] ?_ (.cons (.refl _) (.cons (.gg 4) (.cons (.gg 3) (.cons (.gg 1) (.cons (.refl _) .nil))))) (.now (fm ?_ ?_ ?_)))
  ·simp (disch:=first|omega|assumption) only [go_sem,Oid.ab hr,Oid.aa hr]
  ·simp (disch:=first|omega|assumption) only [go_sem,Oid.ab hr,Oid.aa hr,List.length_map]
  ·simp (disch:=first|omega|assumption) only [go_sem,Oid.ab hr,Oid.aa hr]
   all_goals simp only [List.mem_cons,List.not_mem_nil,or_false,forall_eq_or_imp,forall_eq,Option.some.injEq,forall_eq',Mem.af,eq_self,if_true,↓reduceIte,reduceCtorEq,implies_true,not_true_eq_false,false_imp_iff,true_and,and_true,false_and,and_false,imp_self]
  ·simp (disch:=first|omega|assumption) only [go_sem,Oid.ab hr,Oid.aa hr]
   all_goals simp only [List.mem_cons,List.not_mem_nil,or_false,forall_eq_or_imp,forall_eq,Option.some.injEq,forall_eq',Mem.af,eq_self,if_true,↓reduceIte,reduceCtorEq,implies_true,not_true_eq_false,false_imp_iff,true_and,and_true,false_and,and_false,imp_self]
end Go.Proofs.YtmoaidkglldhcaaGreatDoor
namespace Go.Proofs.YtmoaidkglldhcaaGreatDoor
open Go Go.Ab
set_option maxRecDepth 20000
set_option maxHeartbeats 4000000
theorem DH (st t:Oid) (p:Oid) (hs:¬ Oid.under p st):ah Tryz.prog 35 [.ptr st 0] (Oid.under p) ⟨[(st,.cells [.map t,.nilPtr])],.tuple [.list 3 [],.list 3 []],[]⟩:=by
 refine aD (n:=69) (rs:=[.tmp 2,.tmp 3]) Tryz.func35 rfl rfl (by decide) rfl rfl rfl ?_;rintro x rfl hrd hng
 refine qw (uu hs) ?_
 refine eK 2 3 qs0 ?_
 refine eK 3 3 qs0 ?_
 refine ay (aX rfl ?_ ?_)
 all_goals simp only [List.mem_cons,List.not_mem_nil,or_false,forall_eq_or_imp,forall_eq,Option.some.injEq,forall_eq',Mem.af,eq_self,if_true,↓reduceIte,reduceCtorEq,implies_true,not_true_eq_false,false_imp_iff,true_and,and_true,false_and,and_false,imp_self,Oid.ab hs,Oid.aa hs]
theorem yk {r:Oid} {s:St} {N:List Oid} {F:Oid→ao} (h:eR r s N F):N=[r]∧∃ OO RR WW bb:AV,F r = .cells [.list 4 (s.L.map aC),OO,RR,WW,bb]:=by
 obtain ⟨L,t0⟩:=s
 obtain ⟨rfl,h⟩:=h
 cases t0 with
 | none=>obtain ⟨OO,h⟩:=h;exact ⟨rfl,_,_,_,_,h⟩
 | some q=>exact ⟨rfl,_,_,_,_,h⟩
theorem vg {r:Oid} {s:St} {N:List Oid} {F:Oid→ao} (h:eR r s N F) (hs:SOK s) :
  ∃ F',eR r s.begin N F'∧∀ p,a8 p N→ah Tryz.prog 37 [.ptr r 0] (Oid.under p) ⟨bk (N,F),.tuple [],sb N F'⟩:=by
 obtain ⟨rfl,OO,RR,WW,bb,hF⟩:=yk h
 refine ⟨kZ F r (.cells [.list 4 (s.L.map aC),.list 4 (s.L.map aC),.list 3 [],.list 1 [],.bool true]),⟨rfl,by rw [bm,if_pos rfl];rfl⟩,fun p ho=>?_⟩
 exact ah.one (yj r s.L hs.po.len OO RR WW bb p (ho r (by simp))) hF
theorem By {r:Oid} {s:St} {N:List Oid} {F:Oid→ao} (h:eR r s N F) (hs:SOK s) (hR:∀ q,s.t=some q→q.W.length≤1000000) :
  ∃ F',eR r s.halt N F'∧∀ p,a8 p N→ah Tryz.prog 40 [.ptr r 0] (Oid.under p) ⟨bk (N,F),.tuple [.list 3 (s.reads.map aY),.list 3 (s.writes.map aY)],sb N F'⟩:=by
 obtain ⟨L,t0⟩:=s
 obtain ⟨rfl,h⟩:=h
 refine ⟨kZ F r (.cells [.list 4 (L.map aC),.list 4 [],.list 3 [],.list 1 [],.bool false]),⟨rfl,_,by rw [bm,if_pos rfl];rfl⟩,fun p ho=>?_⟩
 cases t0 with
 | none =>
  obtain ⟨OO,hF⟩:=h
  exact ah.one (wA r L hs.po hs.no OO (.bool false) [] [] (by simp) p (ho r (by simp))) hF
 | some q =>
  have hc:=wA r L hs.po hs.no (.list 4 (q.old.map aC)) (.bool true) (q.R.map aY) q.W (hR q rfl) p (ho r (by simp))
  have hw:(q.W.map fun w=>aY ((w.1,false),cC (aF L w.1)))=((⟨L,some q⟩:St).writes.map aY):=by
   simp only [St.writes,List.map_map];rfl
  rw [hw] at hc
  exact ah.one hc h
theorem rJ {st:Oid} {s:St} {N:List Oid} {F:Oid→ao} (h:cZ st s N F) (hs:SOK s) (hR:∀ q,s.t=some q→q.R.length≤1000000∧q.W.length≤1000000) :
  ∃ N' F',cZ st s.halt N' F'∧(∀ i ∈ N',i ∈ N)∧∀ p,p.mono=false→a8 p N→ah Tryz.prog 35 [.ptr st 0] (Oid.under p) ⟨bk (N,F),.tuple [.list 3 (s.reads.map aY),.list 3 (s.writes.map aY)],sbx N' F'⟩:=by
 obtain ⟨L,t0⟩:=s
 obtain ⟨hnd,h⟩:=h
 cases t0 with
 | none =>
  obtain ⟨t,es,clock,rfl,k1,k2,k3⟩:=h
  refine ⟨[st,t],F,⟨hnd,t,es,clock,rfl,k1,k2,k3⟩,fun i hi=>hi,fun p hp ho=>?_⟩
  refine ah.FJ (DH st t p (ho _ (by simp))) (fun q hq=>?_) (fun q hq=>by cases hq) (fun i hi=>.inl hi) fun i hi=>jo hi
  rw [List.mem_singleton.1 hq,bk2,k1];exact List.mem_cons_self
 | some q =>
  obtain ⟨t,tr,o,rd,wr,es,eso,esr,esw,clock,co,cr,cw,rfl,k1,k2,k3,k4,k5,k6,m1,m2,m3,m4⟩:=h
  have hT:=hs.tr q rfl
  obtain ⟨hR1,hW1⟩:=hR q rfl
  have hnd':[wr,rd,o,tr,t,st].Nodup:=(List.reverse_perm [st,t,tr,o,rd,wr]).nodup_iff.2 hnd
  have hts:¬ t=st:=fun e=>by simp [e] at hnd
  have est:¬ st=t:=fun e=>hts e.symm
  refine ⟨[st,t],kZ F st (.cells [.map t,.nilPtr]),⟨by simp [est],t,es,clock,rfl,by rw [bm,if_pos rfl],by rw [bm,if_neg hts];exact k2,m1⟩,fun i hi=>by
   simp only [List.mem_cons,List.not_mem_nil,or_false] at hi
   rcases hi with rfl|rfl<;>simp,fun p hp ho=>?_⟩
  have hc:=DC st t tr o rd wr hnd' es eso esr esw clock co cr cw L q.R q.W m3 hT.sr hR1 m4 hT.sw hW1 m1 hs.po hs.no p hp ho
  have hw:(q.W.map fun w=>aY ((w.1,false),cC (aF L w.1)))=((⟨L,some q⟩:St).writes.map aY):=by
   simp only [St.writes,List.map_map];rfl
  rw [hw] at hc
  refine ah.FJ hc ?_ (fun q hq=>by rw [List.mem_singleton.1 hq];simp) (fun i hi=>by
   simp only [List.mem_cons,List.not_mem_nil,or_false] at hi
   rcases hi with rfl|rfl<;>exact .inl (by simp)) fun i hi=>?_
  ·rw [bk6,k1,k2,k3,k4,k5,k6];exact fun q hq=>hq
  ·simp only [List.mem_cons,List.not_mem_nil,or_false] at hi
   show ((Mem.of _).set st (some _)) i=_
   simp only [Mem.set,bm]
   split
   ·rfl
   ·exact jo (by rcases hi with rfl|rfl<;>simp)
end Go.Proofs.YtmoaidkglldhcaaGreatDoor
namespace Go.Proofs.YtmoaidkglldhcaaGreatDoor
open Go Go.Ab
set_option maxRecDepth 20000
set_option maxHeartbeats 4000000
theorem oL (l:List Tch) (hl:l.length≤4000000000) (p:Oid):ah Tryz.prog 41 [.list 3 (l.map aY),.list 3 (l.map aY)] (Oid.under p) ⟨[],.bool true,[]⟩:=by
 refine aD (n:=26) (rs:=[.tmp 4]) Tryz.func41 rfl rfl (by decide) rfl rfl rfl ?_;rintro x rfl hrd hng
 (repeat (first|(refine aA rfl rfl ?_)|(refine az rfl rfl ?_)|(refine ar nmd [] hng (by kernel_rfl) fun hf C S K hC1 hC hS hK=>?_;simp (disch:=first|omega|assumption) only [go_sem,List.length_map,decide_true,decide_false,ne_eq,not_true_eq_false,not_false_eq_true];(repeat ((first|refine hC1 _ () (by simp (disch:=first|omega|assumption) only [go_sem]) ?_);simp (disch:=first|omega|assumption) only [go_sem]));refine hK ?_;clear hK hS hC hC1 K S C hf)|((first|refine zn ?_|refine ze ?_|refine zk ?_);with_reducible (constructor;repeat constructor);try refine zl ?_)))
 refine bK [0,1,5] (fun k s'=>∃ i c:Nat,s' = ⟨[(0,.list 3 (l.map aY)),(1,.list 3 (l.map aY)),(5,.int .i64 i)],Mem.of [],c,[]⟩∧k=l.length - i∧i≤l.length) _ ⟨0,_,rfl,rfl,Nat.zero_le _⟩ ?_
 rintro k s' ⟨i,c,rfl,rfl,hi⟩
 (repeat (first|(refine aA rfl rfl ?_)|(refine az rfl rfl ?_)|(refine ar nmd [] hng (by kernel_rfl) fun hf C S K hC1 hC hS hK=>?_;simp (disch:=first|omega|assumption) only [go_sem,List.length_map];(repeat ((first|refine hC1 _ () (by simp (disch:=first|omega|assumption) only [go_sem]) ?_);simp (disch:=first|omega|assumption) only [go_sem]));refine hK ?_;clear hK hS hC hC1 K S C hf)|((first|refine zn ?_|refine ze ?_|refine zk ?_);with_reducible (constructor;repeat constructor);try refine zl ?_)))
 refine aS rfl rfl (fun hb=>?_) (fun hb=>?_)
 ·have hlt:i < l.length:=by omega
  generalize hq:l.getD i default=q
  obtain ⟨⟨qn,qf⟩,qv⟩:=q
  (try ((first|refine zn ?_|refine ze ?_|refine zk ?_);with_reducible (constructor;repeat constructor));try refine zl ?_)
  refine cV nmd [] [] mixed hng (by kernel_rfl) [0,1,5,25] fun hf C S K hC hS hK=>?_;simp (disch:=first|omega|assumption) only [go_sem,hq,aY,AV.cells]
  (first|refine hK (aT rfl) ?_|refine hK (by simp (disch:=first|omega|assumption) only [go_sem,List.reverse_cons,List.reverse_nil,ne_eq,not_false_eq_true,implies_true]) ?_);clear hK hS hC K S C hf
  (repeat (first|(refine aA rfl rfl ?_)|(refine az rfl rfl ?_)|(refine ar nmd [] hng (by kernel_rfl) fun hf C S K hC1 hC hS hK=>?_;simp (disch:=first|omega|assumption) only [go_sem];refine hK ?_;clear hK hS hC hC1 K S C hf)|((first|refine zn ?_|refine ze ?_|refine zk ?_);with_reducible (constructor;repeat constructor);try refine zl ?_)))
  exact ⟨_,_,by omega,fun _ _ h=>h,i+1,_,rfl,rfl,by omega⟩
 ·(repeat (first|(refine aA rfl rfl ?_)|(refine az rfl rfl ?_)|(refine ar nmd [] hng (by kernel_rfl) fun hf C S K hC1 hC hS hK=>?_;simp (disch:=first|omega|assumption) only [go_sem];refine hK ?_;clear hK hS hC hC1 K S C hf)|((first|refine zn ?_|refine ze ?_|refine zk ?_);with_reducible (constructor;repeat constructor);try refine zl ?_)))
  exact ay (bt rfl)
def iQ (L:PL) (l:List Tch):Bool:=l.all fun h=>cg L h.1 == h.2
def Bz (L:PL) (h:Tch):Bool:=!(cg L h.1 == h.2)
theorem vh (bx st t:Oid) (tv:AV) (es:List ME) (clock:Nat) (L:PL) (hm:fH es L) (hs:aV ltB L) (ho:POk L) (h:Tch) (hn:h.1.1.length≤140737488355000) (p:Oid) (hp:p.mono=false) (hbx:¬ Oid.under p bx) (hst:¬ Oid.under p st) (ht:¬ Oid.under p t) (d1:¬ st=bx) (d2:¬ t=bx) (d3:¬ t=st) :
  ah Tryz.prog 86 [aY h,.ptr bx 0] (Oid.under p) ⟨[(bx,.cells [.ptr st 0]),(st,.cells [.map t,tv]),(t,.map [.ss] false es clock)],.bool (Bz L h),[]⟩:=by
 obtain ⟨⟨qn,qf⟩,qv⟩:=h
 have hv:=fun p hp u=>p0 t es clock L hm hs ho qn hn qf p hp u
 unfold Bz
 generalize cg L (qn,qf)=V at hv ⊢
 simp only [aY,cI] at hv ⊢
 refine aD (n:=17) (rs:=[.tmp 3]) Tryz.func86 rfl rfl (by decide) rfl rfl rfl ?_;rintro x rfl hrd hng
 (try ((first|refine zn ?_|refine ze ?_|refine zk ?_);with_reducible (constructor;repeat constructor));try refine zl ?_)
 refine ar nmd [] hng (by kernel_rfl) fun hf C S K hC1 hC hS hK=>?_;simp (disch:=first|omega|assumption) only [go_sem]
 refine hK ?_;clear hK hS hC hC1 K S C hf
 (try ((first|refine zn ?_|refine ze ?_|refine zk ?_);with_reducible (constructor;repeat constructor));try refine zl ?_)
 refine cV nmd [] [(9,11)] mixed hng (by kernel_rfl) [3] fun hf C S K hC hS hK=>?_;simp (disch:=first|omega|assumption) only [go_sem,Oid.ab hbx,Oid.aa hbx,Oid.ab hst,Oid.aa hst,Oid.ab ht,Oid.aa ht,d1,d2,d3]
 refine hC _ (hv _ (aw rfl hp) (fun h=>ht (Oid.ae h))) (by simp (disch:=first|omega|assumption) only [go_sem,Oid.ab hbx,Oid.aa hbx,Oid.ab hst,Oid.aa hst,Oid.ab ht,Oid.aa ht,d1,d2,d3]) ?_
 simp (disch:=first|omega|assumption) only [go_sem,Oid.ab hbx,Oid.aa hbx,Oid.ab hst,Oid.aa hst,Oid.ab ht,Oid.aa ht,d1,d2,d3]
 (first|refine hK (aT rfl) ?_|refine hK (by simp (disch:=first|omega|assumption) only [go_sem,List.reverse_cons,List.reverse_nil,ne_eq,not_false_eq_true,implies_true]) ?_);clear hK hS hC K S C hf
 (repeat (first|(refine aA rfl rfl ?_)|(refine az rfl rfl ?_)|(refine ar nmd [] hng (by kernel_rfl) fun hf C S K hC1 hC hS hK=>?_;simp (disch:=first|omega|assumption) only [go_sem];refine hK ?_;clear hK hS hC hC1 K S C hf)|((first|refine zn ?_|refine ze ?_|refine zk ?_);with_reducible (constructor;repeat constructor);try refine zl ?_)))
 refine ay (aX ?_ ?_ ?_)
 ·have hbq:decide (V≠qv) = !(V == qv):=by by_cases h:V=qv<;>simp [h]
  simp (disch:=first|omega|assumption) only [go_sem,hbq]
 ·all_goals simp only [List.mem_cons,List.not_mem_nil,or_false,forall_eq_or_imp,forall_eq,Option.some.injEq,forall_eq',Mem.af,eq_self,if_true,↓reduceIte,reduceCtorEq,implies_true,not_true_eq_false,false_imp_iff,true_and,and_true,false_and,and_false,imp_self,Oid.ab hbx,Oid.aa hbx,Oid.ab hst,Oid.aa hst,Oid.ab ht,Oid.aa ht,d1,d2,d3]
 ·all_goals simp only [List.mem_cons,List.not_mem_nil,or_false,forall_eq_or_imp,forall_eq,Option.some.injEq,forall_eq',Mem.af,eq_self,if_true,↓reduceIte,reduceCtorEq,implies_true,not_true_eq_false,false_imp_iff,true_and,and_true,false_and,and_false,imp_self,Oid.ab hbx,Oid.aa hbx,Oid.ab hst,Oid.aa hst,Oid.ab ht,Oid.aa ht,d1,d2,d3]
def ixT (q:Tch→Bool):List Tch→Int
 | []=>-1
 | s::l=>if q s=true then 0 else if ixT q l = -1 then -1 else ixT q l+1
theorem oM {q:Tch→Bool}:∀ {l:List Tch},l.any q=false→ixT q l = -1
 | [],_=>rfl
 | s::l,h=>by
  simp only [List.any_cons,Bool.or_eq_false_iff] at h
  simp [ixT,h.1,oM h.2]
theorem BA {q:Tch→Bool}:∀ {l:List Tch} {i:Nat},i < l.length→(l.take i).any q=false→q (l.getD i default)=true→ixT q l=i
 | [],_,h,_,_=>by simp at h
 | s::l,0,_,_,h=>by
  have h':q s=true:=h
  simp [ixT,h']
 | s::l,i+1,h,h1,h2=>by
  simp only [List.take_succ_cons,List.any_cons,Bool.or_eq_false_iff] at h1
  have ih:=BA (l:=l) (i:=i) (by simpa using h) h1.2 h2
  simp only [ixT,h1.1,ih,Bool.false_eq_true,if_false]
  rw [if_neg (by omega)];omega
theorem DI {q:Tch→Bool} (l:List Tch):decide (0≤ixT q l)=l.any q:=by
 cases h:l.any q with
 | false=>rw [oM h];rfl
 | true =>
  have key:∀ l:List Tch,l.any q=true→0≤ixT q l:=by
   intro l
   induction l with
   | nil=>intro h;cases h
   | cons s l ih =>
    intro h
    simp only [ixT]
    split
    ·omega
    ·rename_i hs
     have:=ih (by simpa [hs] using h)
     rw [if_neg (by omega)];omega
  exact decide_eq_true (key l h)
theorem yl {q:Tch→Bool} {l:List Tch} {i:Nat} (hi:i < l.length) (h:(l.take i).any q=false) (h2:q (l.getD i default)=false):(l.take (i+1)).any q=false:=by
 rw [List.take_add_one,List.any_append,h,List.getElem?_eq_getElem hi]
 rw [List.getD_eq_getElem?_getD,List.getElem?_eq_getElem hi] at h2
 simpa using h2
section
variable (bx st t:Oid) (oo:AV) (tv:AV) (es:List ME) (clock:Nat) (q:Tch→Bool) (fu:FuncId) (l:List Tch) (hl:l.length≤4000000000) (d1:¬ st=bx) (d2:¬ t=bx) (d3:¬ t=st)
 (hq:∀ h ∈ l,∀ p:Oid,p.mono=false→¬ Oid.under p bx→¬ Oid.under p st→¬ Oid.under p t→ah Tryz.prog fu [aY h,.ptr bx 0] (Oid.under p) ⟨[(bx,.cells [.ptr st 0]),(st,.cells [.map t,tv]),(t,.map [.ss] false es clock)],.bool (q h),[]⟩)
include hl hq d1 d2 d3
theorem ym (p:Oid) (hp:p.mono=false) (hbx:¬ Oid.under p bx) (hst:¬ Oid.under p st) (ht:¬ Oid.under p t) :
  ah Tryz.prog 115 [.list 3 (l.map aY),.fn (.func fu) [] [.ptr bx 0]] (Oid.under p) ⟨[(bx,.cells [.ptr st 0]),(st,.cells [.map t,tv]),(t,.map [.ss] false es clock)],.int .i64 (ixT q l),[]⟩:=by
 have hb':∀ c i,¬ Oid.under (.sub c i p) bx:=fun c i h=>hbx (Oid.ae h)
 have hst':∀ c i,¬ Oid.under (.sub c i p) st:=fun c i h=>hst (Oid.ae h)
 have ht':∀ c i,¬ Oid.under (.sub c i p) t:=fun c i h=>ht (Oid.ae h)
 refine aD (n:=19) (rs:=[.tmp 4]) Tryz.func115 rfl rfl (by decide) rfl rfl rfl ?_;rintro x rfl hrd hng
 refine qw0 ?_
 refine bK [0,1,7,8] (fun k s'=>∃ i c:Nat,s' = ⟨[(0,.list 3 (l.map aY)),(1,.fn (.func fu) [] [.ptr bx 0]),(7,.int .i64 l.length),(8,.int .i64 i)],Mem.of [(bx,.cells [.ptr st 0]),(st,.cells [.map t,tv]),(t,.map [.ss] false es clock)],c,[]⟩∧k=l.length - i∧i≤l.length∧(l.take i).any q=false) _ ⟨0,_,rfl,rfl,Nat.zero_le _,by simp⟩ ?_
 rintro k s' ⟨i,c,rfl,rfl,hi,hno⟩
 refine qw0 ?_
 refine aS rfl rfl (fun hb=>?_) (fun hb=>?_)
 ·have hlt:i < l.length:=by omega
  have hq1:=hq (l.getD i default) (by rw [b9 hlt];exact List.getElem_mem hlt)
  generalize hg:l.getD i default=g at hq1
  obtain ⟨b,hbq⟩:∃ b,q g=b:=⟨_,rfl⟩
  rw [hbq] at hq1
  obtain ⟨⟨gn,gf⟩,gv⟩:=g
  simp only [aY] at hq1
  refine qw0 ?_
  refine ar nmd [] hng (by kernel_rfl) fun hf C S K hC1 hC hS hK=>?_;simp (disch:=first|omega|assumption) only [go_sem,hg,aY,AV.cells]
  refine hC1 _ (hq1 _ (aw rfl hp) (hb' _ _) (hst' _ _) (ht' _ _)) (qs (ai (uu hbx) (ai (uu hst) (ai (uu ht) (ai d1 (ai d2 d3)))))) ?_
  simp (disch:=first|omega|assumption) only [go_sem,Oid.ab hbx,Oid.aa hbx,Oid.ab hst,Oid.aa hst,Oid.ab ht,Oid.aa ht,d1,d2,d3]
  refine hK ?_;clear hK hS hC hC1 K S C hf
  (try ((first|refine zn ?_|refine ze ?_|refine zk ?_);with_reducible (constructor;repeat constructor));try refine zl ?_)
  refine lE rfl rfl (fun hb=>?_) (fun hb=>?_)
  ·rw [BA hlt hno (by rw [hg,hbq];exact hb)]
   refine qw0 ?_
   refine ay (aX rfl ?_ ?_)
   all_goals simp only [List.mem_cons,List.not_mem_nil,or_false,forall_eq_or_imp,forall_eq,Option.some.injEq,forall_eq',Mem.af,eq_self,if_true,↓reduceIte,reduceCtorEq,implies_true,not_true_eq_false,false_imp_iff,true_and,and_true,false_and,and_false,imp_self,Oid.ab hbx,Oid.aa hbx,Oid.ab hst,Oid.aa hst,Oid.ab ht,Oid.aa ht,d1,d2,d3]
  ·have hn:=yl hlt hno (by rw [hg,hbq];exact hb)
   refine qw0 ?_
   exact ⟨_,_,by omega,fun _ _ h=>h,i+1,_,rfl,rfl,by omega,hn⟩
 ·obtain rfl:i=l.length:=by omega
  rw [List.take_length] at hno
  rw [oM hno]
  refine qw0 ?_
  refine ay (aX rfl ?_ ?_)
  all_goals simp only [List.mem_cons,List.not_mem_nil,or_false,forall_eq_or_imp,forall_eq,Option.some.injEq,forall_eq',Mem.af,eq_self,if_true,↓reduceIte,reduceCtorEq,implies_true,not_true_eq_false,false_imp_iff,true_and,and_true,false_and,and_false,imp_self,Oid.ab hbx,Oid.aa hbx,Oid.ab hst,Oid.aa hst,Oid.ab ht,Oid.aa ht,d1,d2,d3]
theorem rK (p:Oid) (hp:p.mono=false) (hbx:¬ Oid.under p bx) (hst:¬ Oid.under p st) (ht:¬ Oid.under p t) :
  ah Tryz.prog 85 [.list 3 (l.map aY),.fn (.func fu) [] [.ptr bx 0]] (Oid.under p) ⟨[(bx,.cells [.ptr st 0]),(st,.cells [.map t,tv]),(t,.map [.ss] false es clock)],.bool (l.any q),[]⟩:=by
 have hi:=fun p hp a b c=>ym bx st t tv es clock q fu l hl d1 d2 d3 hq p hp a b c
 have han:=DI (q:=q) l
 refine aD (n:=9) (rs:=[.tmp 4]) Tryz.func85 rfl rfl (by decide) rfl rfl rfl ?_;rintro x rfl hrd hng
 refine qw0 ?_
 refine ar nmd [] hng (by kernel_rfl) fun hf C S K hC1 hC hS hK=>?_;simp (disch:=first|omega|assumption) only [go_sem]
 refine hC1 _ (hi _ (aw rfl hp) (fun h=>hbx (Oid.ae h)) (fun h=>hst (Oid.ae h)) (fun h=>ht (Oid.ae h))) (qs (ai (uu hbx) (ai (uu hst) (ai (uu ht) (ai d1 (ai d2 d3)))))) ?_
 simp (disch:=first|omega|assumption) only [go_sem,Oid.ab hbx,Oid.aa hbx,Oid.ab hst,Oid.aa hst,Oid.ab ht,Oid.aa ht,d1,d2,d3,han]
 refine hK ?_;clear hK hS hC hC1 K S C hf
 refine qw0 ?_
 refine ay (aX rfl ?_ ?_)
 all_goals simp only [List.mem_cons,List.not_mem_nil,or_false,forall_eq_or_imp,forall_eq,Option.some.injEq,forall_eq',Mem.af,eq_self,if_true,↓reduceIte,reduceCtorEq,implies_true,not_true_eq_false,false_imp_iff,true_and,and_true,false_and,and_false,imp_self,Oid.ab hbx,Oid.aa hbx,Oid.ab hst,Oid.aa hst,Oid.ab ht,Oid.aa ht,d1,d2,d3]
end
theorem yn (st t:Oid) (tv:AV) (es:List ME) (clock:Nat) (L:PL) (hm:fH es L) (hs:aV ltB L) (ho:POk L) (l:List Tch) (hl:l.length≤4000000000) (hn:∀ h ∈ l,h.1.1.length≤140737488355000) (d3:¬ t=st) (p:Oid) (hp:p.mono=false) (hst:¬ Oid.under p st) (ht:¬ Oid.under p t) :
  ah Tryz.prog 45 [.ptr st 0,.list 3 (l.map aY)] (Oid.under p) ⟨[(st,.cells [.map t,tv]),(t,.map [.ss] false es clock)],.bool (iQ L l),[]⟩:=by
 have hag:(!(l.any (Bz L)))=iQ L l:=by
  unfold iQ Bz
  rw [List.not_any_eq_all_not]
  congr 1
  funext h
  rw [Bool.not_not]
 refine aD (n:=9) (rs:=[.tmp 4]) Tryz.func45 rfl rfl (by decide) rfl rfl rfl ?_;rintro x rfl hrd hng
 have hbx:∀ c i,¬ c=0→¬ Oid.under (.sub c i x.p) (.sub 0 0 x.p):=fun c i hc h=>hc (Oid.apart h (Oid.aq _)).1
 have d1:¬ st = .sub 0 0 x.p:=fun e=>hst (e ▸ Oid.ae (Oid.aq _))
 have d2:¬ t = .sub 0 0 x.p:=fun e=>ht (e ▸ Oid.ae (Oid.aq _))
 have d1':¬ .sub 0 0 x.p=st:=fun e=>d1 e.symm
 have d2':¬ .sub 0 0 x.p=t:=fun e=>d2 e.symm
 refine qr0 ?_
 refine ar nmd [] hng (by kernel_rfl) fun hf C S K hC1 hC hS hK=>?_;simp (disch:=first|omega|assumption) only [go_sem,d1,d2,d1',d2',d3]
 refine hC1 _ (rK (.sub 0 0 x.p) st t tv es clock (Bz L) 86 l hl d1 d2 d3 (fun h hh p hp b1 b2 b3=>vh (.sub 0 0 x.p) st t tv es clock L hm hs ho h (hn h hh) p hp b1 b2 b3 d1 d2 d3) _ (aw rfl hp) (hbx _ _ (by omega)) (fun h=>hst (Oid.ae h)) (fun h=>ht (Oid.ae h))) (qs (ai d1 (ai d2 (ai d1' (ai d2' d3))))) ?_
 simp (disch:=first|omega|assumption) only [go_sem,d1,d2,d1',d2',d3,hag]
 refine hK ?_;clear hK hS hC hC1 K S C hf
 refine qw0 ?_
 refine ay (aX rfl ?_ ?_)
 all_goals simp only [List.mem_cons,List.not_mem_nil,or_false,forall_eq_or_imp,forall_eq,Option.some.injEq,forall_eq',Mem.af,eq_self,if_true,↓reduceIte,reduceCtorEq,implies_true,not_true_eq_false,false_imp_iff,true_and,and_true,false_and,and_false,imp_self,d1,d2,d1',d2',d3]
theorem ah.vi {P:Program} [Laid P] {f:FuncId} {xs:List AV} {sp:Oid→Prop} {L0:List (Oid × ao)} {v:AV} {B:Bk} (h:ah P f xs sp ⟨L0,v,[]⟩) (hL:∀ q,q ∈ L0→q ∈ bk B):ah P f xs sp ⟨bk B,v,[]⟩ :=
 ⟨h.enters,fun x g args w m hm hn ha hs hx=>h.calls x g args w m hm (fun q hq=>hn q (hL q hq)) ha hs hx⟩
end Go.Proofs.YtmoaidkglldhcaaGreatDoor
namespace Go.Proofs.YtmoaidkglldhcaaGreatDoor
open Go Go.Ab
set_option maxRecDepth 20000
set_option maxHeartbeats 4000000
end Go.Proofs.YtmoaidkglldhcaaGreatDoor
namespace Go.Proofs.YtmoaidkglldhcaaGreatDoor
open Go Go.Ab
set_option maxRecDepth 20000
set_option maxHeartbeats 4000000
def two (a:Oid) (x y:ao):Oid→ao:=fun i=>if i=a then x else y
theorem tH {a b:Oid} (h:¬ b=a):cZ a ⟨[],none⟩ [a,b] (two a (.cells [.map b,.nilPtr]) (.map [.ss] false [] 0)) :=
 ⟨(by have h':¬ a=b:=fun e=>h e.symm;simp [h']),b,[],0,rfl,if_pos rfl,if_neg h,AY⟩
theorem wB:SOK ⟨[],none⟩:=⟨List.Pairwise.nil,⟨by simp,fun q hq=>(by cases hq),fun q hq=>(by cases hq)⟩,fun q hq=>(by cases hq),fun q hq=>(by cases hq)⟩
theorem BB {st:Oid} {s:St} {N:List Oid} {F:Oid→ao} (h:cZ st s N F):∃ (es:List ME) (clock:Nat),fH es s.L∧∀ p,a8 p N →
  ah Tryz.prog 42 [.ptr st 0] (Oid.under p) ⟨bk (N,F),.ptr (.sub 1 6 p) 0,[(.sub 1 6 p,some (.cells [.map (.sub 0 0 (.sub 1 4 p)),.nilPtr])),(.sub 0 0 (.sub 1 4 p),some (.map [.ss] false es clock))]⟩:=by
 obtain ⟨t,tv,es,clock,h1,h2,hts,k1,k2,k3⟩:=jN h
 refine ⟨es,clock,k3,fun p ho=>?_⟩
 have hc:=Dl st t tv es clock hts p (ho st h1) (ho t h2)
 refine ⟨hc.enters,fun x g args w m hm hn ha hs hx=>hc.calls x g args w m hm (fun q hq=>?_) ha hs hx⟩
 refine hn q (bP.2 ?_)
 simp only [List.mem_cons,List.not_mem_nil,or_false] at hq
 rcases hq with rfl|rfl
 ·exact ⟨h1,k1.symm⟩
 ·exact ⟨h2,k2.symm⟩
theorem yo {a b:Oid} (h:¬ b=a) {es:List ME} {clock:Nat} {L:PL} (hm:fH es L):cZ a ⟨L,none⟩ [a,b] (two a (.cells [.map b,.nilPtr]) (.map [.ss] false es clock)) :=
 ⟨(by have h':¬ a=b:=fun e=>h e.symm;simp [h']),b,es,clock,rfl,if_pos rfl,if_neg h,hm⟩
theorem yr {st:Oid} {s:St} {N:List Oid} {F:Oid→ao} (h:cZ st s N F) (hs:SOK s) (p:Oid) (ho:a8 p N) :
  ah Tryz.prog 24 [.ptr st 0] (Oid.under p) ⟨bk (N,F),.list 1 (s.L.map fun q=>.str q.1),[]⟩:=by
 obtain ⟨t,tv,es,clock,h1,h2,hts,k1,k2,k3⟩:=jN h
 have hc:=A2 st t tv es clock (by rw [k9 k3];have:=hs.po.len;omega) hts p (ho st h1) (ho t h2)
 rw [xK k3 hs.sl,List.map_map] at hc
 refine ah.vi hc fun q hq=>bP.2 ?_
 simp only [List.mem_cons,List.not_mem_nil,or_false] at hq
 rcases hq with rfl|rfl
 ·exact ⟨h1,k1.symm⟩
 ·exact ⟨h2,k2.symm⟩
theorem vj {st:Oid} {s:St} {N:List Oid} {F:Oid→ao} (h:cZ st s N F) (hs:SOK s) (l:List Tch) (hl:l.length≤4000000000) (hn:∀ h ∈ l,h.1.1.length≤140737488355000) (p:Oid) (hp:p.mono=false) (ho:a8 p N) :
  ah Tryz.prog 45 [.ptr st 0,.list 3 (l.map aY)] (Oid.under p) ⟨bk (N,F),.bool (iQ s.L l),[]⟩:=by
 obtain ⟨t,tv,es,clock,h1,h2,hts,k1,k2,k3⟩:=jN h
 have hc:=yn st t tv es clock s.L k3 hs.sl hs.po l hl hn hts p hp (ho st h1) (ho t h2)
 refine ah.vi hc fun q hq=>bP.2 ?_
 simp only [List.mem_cons,List.not_mem_nil,or_false] at hq
 rcases hq with rfl|rfl
 ·exact ⟨h1,k1.symm⟩
 ·exact ⟨h2,k2.symm⟩
end Go.Proofs.YtmoaidkglldhcaaGreatDoor
