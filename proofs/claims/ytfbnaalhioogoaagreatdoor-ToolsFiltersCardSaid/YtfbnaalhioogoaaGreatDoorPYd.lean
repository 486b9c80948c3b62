/- A part of the proof: the texts FwM, K0, S16, S17, S23, Del, KA, FwK, FwV, S24, S25, S15, S26, FwN, Z1, Z2, Z3, Z4, Z5, Z6, Z7, Z8, Z9h, Z10, Z11, one behind the other. -/
import Derived.Test.YtfbnaalhioogoaaGreatDoorPYc
import Derived.Sort.Row
import Derived.Shelf.SlicesE.DeleteFunc
import Derived.Test.YtfbnaalhioogoaaGreatDoorProg
import Derived.WalkKit
import Derived.BigQuiet
import Derived.Deep.QuietTactic
import Derived.Laws.Externs
import Derived.Laws.BitsLemmas
import Derived.Tactics
import Derived.Tactics2
import Derived.KernelRfl
set_option linter.unusedVariables false
set_option linter.unusedSimpArgs false
set_option linter.unusedSectionVars false
namespace Go.Ab
section
variable {κ ν:Type} [DecidableEq κ] {ek:κ→AV} {ev:ν→AV}
def ef (ek:κ→AV) (ev:ν→AV) (q:κ × ν × Nat):ME:=⟨ek q.1,ev q.2.1,q.2.2⟩
def prj (q:κ × ν × Nat):κ × ν:=(q.1,q.2.1)
def aM (n:κ):List (κ × ν)→Option ν
 | []=>none
 | q::L=>if n=q.1 then some q.2 else aM n L
def Cb (n:κ) (b:ν) (c:Nat):List (κ × ν × Nat)→List (κ × ν × Nat)
 | []=>[(n,b,c)]
 | q::L=>if n=q.1 then (q.1,b,q.2.2)::L else q::Cb n b c L
def Cc (n:κ):List (κ × ν × Nat)→List (κ × ν × Nat)
 | []=>[]
 | q::L=>if n=q.1 then L else q::Cc n L
def Ko (ev:ν→AV) (z:AV):Option ν→AV
 | some b=>ev b
 | none=>z
theorem HK (he:kg ek) (n:κ) (z:AV):∀ E:List (κ × ν × Nat),fE (ek n) z (E.map (ef ek ev))=Ko ev z (aM n (E.map prj))
 | []=>rfl
 | q::L=>by
  have ih:=HK he n z L
  have h1:=he n q.1
  simp only [fE,List.map_cons,dQ,ef,h1,aM,prj] at ih ⊢
  by_cases h:n=q.1
  ·simp [h,Ko]
  ·simp only [h,decide_false,Bool.false_eq_true,if_false];exact ih
theorem HL (he:kg ek) (n:κ):∀ E:List (κ × ν × Nat),bM (ek n) (E.map (ef ek ev))=(aM n (E.map prj)).isSome
 | []=>rfl
 | q::L=>by
  have ih:=HL he n L
  have h1:=he n q.1
  simp only [bM,List.map_cons,dQ,ef,h1,aM,prj] at ih ⊢
  by_cases h:n=q.1
  ·simp [h]
  ·simp only [h,decide_false,Bool.false_eq_true,if_false];exact ih
theorem HM (he:kg ek) (n:κ) (b:ν) (c:Nat):∀ E:List (κ × ν × Nat),b7 (ek n) (ev b) c (E.map (ef ek ev))=(Cb n b c E).map (ef ek ev)
 | []=>rfl
 | q::L=>by
  have ih:=HM he n b c L
  have h1:=he n q.1
  simp only [List.map_cons,b7,Cb]
  by_cases h:n=q.1
  ·simp [h,ef,he q.1 q.1]
  ·simp only [h,ef,h1,decide_false,Bool.false_eq_true,if_false,List.map_cons]
   exact congrArg _ ih
theorem HN (he:kg ek) (n:κ):∀ E:List (κ × ν × Nat),k7 (ek n) (E.map (ef ek ev))=(Cc n E).map (ef ek ev)
 | []=>rfl
 | q::L=>by
  have ih:=HN he n L
  have h1:=he n q.1
  simp only [List.map_cons,k7,Cc]
  by_cases h:n=q.1
  ·simp [h,ef,he q.1 q.1]
  ·simp only [h,ef,h1,decide_false,Bool.false_eq_true,if_false,List.map_cons]
   exact congrArg _ ih
theorem iu {n:κ}:∀ {L:List (κ × ν)},¬ n ∈ L.map (·.1)→L.filter (fun q=>decide (¬ q.1=n))=L
 | [],_=>rfl
 | q::L,h=>by
  simp only [List.map_cons,List.mem_cons,not_or] at h
  have h1:¬ q.1=n:=fun e=>h.1 e.symm
  rw [List.filter_cons_of_pos (by simpa using h1),iu h.2]
theorem qF (n:κ) (b:ν) (c:Nat):∀ E:List (κ × ν × Nat),((E.map prj).map (·.1)).Nodup→((Cb n b c E).map prj).Perm ((n,b)::(E.map prj).filter fun q=>decide (¬ q.1=n))
 | [],_=>.refl _
 | q::L,h=>by
  simp only [List.map_cons,List.nodup_cons] at h
  have ih:=qF n b c L h.2
  simp only [Cb]
  by_cases hn:n=q.1
  ·subst hn
   rw [if_pos rfl,List.map_cons,List.map_cons,List.filter_cons_of_neg (by simp [prj])];erw [iu h.1]
   exact .refl _
  ·rw [if_neg hn,List.map_cons,List.map_cons,List.filter_cons_of_pos (by show decide (¬ (prj q).1=n)=true;exact decide_eq_true fun e=>hn (Eq.symm e))]
   exact (ih.cons _).trans (.swap _ _ _)
theorem xf (n:κ):∀ E:List (κ × ν × Nat),((E.map prj).map (·.1)).Nodup→(Cc n E).map prj=(E.map prj).filter fun q=>decide (¬ q.1=n)
 | [],_=>rfl
 | q::L,h=>by
  simp only [List.map_cons,List.nodup_cons] at h
  have ih:=xf n L h.2
  simp only [Cc]
  by_cases hn:n=q.1
  ·subst hn
   rw [if_pos rfl,List.map_cons,List.filter_cons_of_neg (by simp [prj])];exact (iu h.1).symm
  ·rw [if_neg hn,List.map_cons,List.map_cons,List.filter_cons_of_pos (by show decide (¬ (prj q).1=n)=true;exact decide_eq_true fun e=>hn (Eq.symm e)),ih]
theorem bK {n:κ} {b:ν}:∀ {L:List (κ × ν)},(L.map (·.1)).Nodup→(aM n L=some b↔(n,b) ∈ L)
 | [],_=>by simp [aM]
 | q::L,h=>by
  simp only [List.map_cons,List.nodup_cons] at h
  have ih:=bK (n:=n) (b:=b) h.2
  simp only [aM]
  by_cases hn:n=q.1
  ·subst hn
   rw [if_pos rfl]
   refine ⟨fun e=>?_,fun e=>?_⟩
   ·simp only [Option.some.injEq] at e;subst e;exact List.mem_cons_self
   ·rcases List.mem_cons.1 e with e|e
    ·rw [← e]
    ·exact absurd (List.mem_map_of_mem (f:=(·.1)) e) h.1
  ·rw [if_neg hn,ih]
   exact ⟨List.mem_cons_of_mem _,fun e=>(List.mem_cons.1 e).resolve_left fun e=>hn (by rw [← e])⟩
theorem kK {n:κ} {L L':List (κ × ν)} (hp:L.Perm L') (h:(L.map (·.1)).Nodup):aM n L=aM n L':=by
 have h':(L'.map (·.1)).Nodup:=(hp.map _).nodup_iff.1 h
 cases h1:aM n L with
 | some b=>rw [eq_comm,bK h',← hp.mem_iff,← bK h];exact h1
 | none =>
  cases h2:aM n L' with
  | none=>rfl
  | some b=>rw [bK h',← hp.mem_iff,← bK h,h1] at h2;cases h2
def jc (ek:κ→AV) (ev:ν→AV) (es:List ME) (L:List (κ × ν)):Prop:=∃ E:List (κ × ν × Nat),es=E.map (ef ek ev)∧(E.map prj).Perm L∧(L.map (·.1)).Nodup
omit [DecidableEq κ] in
theorem oG:jc ek ev [] ([]:List (κ × ν)):=⟨[],rfl,.refl _,List.nodup_nil⟩
theorem tS (he:kg ek) {es:List ME} {L:List (κ × ν)} (h:jc ek ev es L) (n:κ) (z:AV):fE (ek n) z es=Ko ev z (aM n L):=by
 obtain ⟨E,rfl,h2,h3⟩:=h
 rw [HK he,kK h2 ((h2.map _).nodup_iff.2 h3)]
theorem Cd (he:kg ek) {es:List ME} {L:List (κ × ν)} (h:jc ek ev es L) (n:κ):bM (ek n) es=(aM n L).isSome:=by
 obtain ⟨E,rfl,h2,h3⟩:=h
 rw [HL he,kK h2 ((h2.map _).nodup_iff.2 h3)]
theorem oH (he:kg ek) {es:List ME} {L L':List (κ × ν)} (h:jc ek ev es L) (n:κ) (b:ν) (c:Nat) (hp:L'.Perm ((n,b)::L.filter fun q=>decide (¬ q.1=n))):jc ek ev (b7 (ek n) (ev b) c es) L':=by
 obtain ⟨E,rfl,h2,h3⟩:=h
 have h4:=(h2.map (·.1)).nodup_iff.2 h3
 refine ⟨_,HM he n b c E,((qF n b c E h4).trans ((h2.filter _).cons _)).trans hp.symm,((hp.map (·.1)).nodup_iff).2 ?_⟩
 rw [List.map_cons,List.nodup_cons]
 refine ⟨fun hm=>?_,h3.sublist (List.filter_sublist.map _)⟩
 obtain ⟨q,h5,h6⟩:=List.mem_map.1 hm
 have:=(List.mem_filter.1 h5).2
 simp only [decide_eq_true_eq] at this
 exact this h6
theorem Ce (he:kg ek) {es:List ME} {L L':List (κ × ν)} (h:jc ek ev es L) (n:κ) (hp:L'.Perm (L.filter fun q=>decide (¬ q.1=n))):jc ek ev (k7 (ek n) es) L':=by
 obtain ⟨E,rfl,h2,h3⟩:=h
 have h4:=(h2.map (·.1)).nodup_iff.2 h3
 refine ⟨_,HN he n E,?_,((hp.map (·.1)).nodup_iff).2 (h3.sublist (List.filter_sublist.map _))⟩
 rw [xf n E h4]
 exact (h2.filter _).trans hp.symm
omit [DecidableEq κ] in
theorem jT {es S:List ME} (hp:es.Pairwise fun e e'=>e.born < e'.born) (hs:∀ e ∈ S,e ∈ es) (hn:(S.map (·.born)).Nodup) (hall:∀ e ∈ es,e.born ∈ S.map (·.born)):S.Perm es:=by
 have hne:es.Nodup:=(hp.imp fun {a b} h=>by intro e;subst e;exact Nat.lt_irrefl _ h)
 have hns:S.Nodup:=by
  refine List.Pairwise.imp ?_ (List.pairwise_map.1 hn)
  intro a b h e;exact h (by rw [e])
 refine (List.perm_ext_iff_of_nodup hns hne).2 fun e=>⟨hs e,fun he=>?_⟩
 obtain ⟨e',h1,h2⟩:=List.mem_map.1 (hall e he)
 have h3:e' = e:=by
  apply Classical.byContradiction
  intro hne'
  have hinj:∀ a ∈ es,∀ b ∈ es,¬ a=b→¬ a.born=b.born:=fun a ha b hb hab=>by
   have h5:es.Pairwise fun a b=>¬ a.born=b.born:=hp.imp fun h=>by omega
   obtain ⟨i,hi,rfl⟩:=List.mem_iff_getElem.1 ha
   obtain ⟨j,hj,rfl⟩:=List.mem_iff_getElem.1 hb
   rw [List.pairwise_iff_getElem] at h5
   rcases Nat.lt_trichotomy i j with h|h|h
   ·exact h5 i j hi hj h
   ·subst h;exact absurd rfl hab
   ·exact fun e=>h5 j i hj hi h (Eq.symm e)
  exact hinj e' (hs e' h1) e he hne' h2
 rwa [← h3]
end
section
variable {κ ν:Type} [DecidableEq κ] (lt:κ→κ→Prop) [DecidableRel lt]
structure Ord:Prop where
 irr:∀ a,¬ lt a a
 tr:∀ a b c,lt a b→lt b c→lt a c
 tot:∀ a b,¬ lt a b→¬ a=b→lt b a
def eI (n:κ):Option ν→List (κ × ν)
 | some b=>[(n,b)]
 | none=>[]
def dH (n:κ) (o:Option ν):List (κ × ν)→List (κ × ν)
 | []=>eI n o
 | q::L=>if lt q.1 n then q::dH n o L else eI n o++(if q.1=n then L else q::L)
def aY (L:List (κ × ν)):Prop:=L.Pairwise fun a b=>lt a.1 b.1
variable {lt}
omit [DecidableEq κ] [DecidableRel lt] in
theorem aY.nodup (ho:Ord lt) {L:List (κ × ν)} (h:aY lt L):(L.map (·.1)).Nodup:=by
 rw [List.nodup_iff_pairwise_ne,List.pairwise_map]
 exact h.imp fun {a b} h (e:a.1=b.1)=>ho.irr a.1 (by rw [← e] at h;exact h)
theorem cJ (ho:Ord lt) (n:κ) (o:Option ν):∀ {L:List (κ × ν)},aY lt L→(dH lt n o L).Perm (eI n o++L.filter fun q=>decide (¬ q.1=n))
 | [],_=>by simp [dH]
 | q::L,h=>by
  have h2:=List.pairwise_cons.1 h
  have ih:=cJ ho n o (L:=L) h2.2
  simp only [dH]
  by_cases hl:lt q.1 n
  ·have hn:¬ q.1=n:=fun e=>ho.irr n (by rw [e] at hl;exact hl)
   rw [if_pos hl,List.filter_cons_of_pos (by simpa using hn)]
   exact (ih.cons _).trans List.perm_middle.symm
  ·rw [if_neg hl]
   have hno:∀ q' ∈ L,¬ q'.1=n:=fun q' hq e=>by
    have:=h2.1 q' hq
    rw [e] at this;exact hl this
   have hf:L.filter (fun q=>decide (¬ q.1=n))=L:=iu fun hm=>by
    obtain ⟨q',h3,h4⟩:=List.mem_map.1 hm
    exact hno q' h3 h4
   by_cases hn:q.1=n
   ·rw [if_pos hn,List.filter_cons_of_neg (by simpa using hn),hf]
   ·rw [if_neg hn,List.filter_cons_of_pos (by simpa using hn),hf]
theorem fc {n:κ} {o:Option ν} {x:κ × ν}:∀ {L:List (κ × ν)},x ∈ dH lt n o L→x ∈ eI n o∨x ∈ L
 | [],h=>.inl h
 | q::L,h=>by
  simp only [dH] at h
  split at h
  ·rcases List.mem_cons.1 h with rfl|h
   ·exact .inr List.mem_cons_self
   ·exact (fc h).imp id (List.mem_cons_of_mem _)
  ·rcases List.mem_append.1 h with h|h
   ·exact .inl h
   ·split at h
    ·exact .inr (List.mem_cons_of_mem _ h)
    ·exact .inr h
omit [DecidableEq κ] [DecidableRel lt] in
theorem oI {n:κ} {o:Option ν} {x:κ × ν} (h:x ∈ eI n o):x.1=n∧o=some x.2:=by
 cases o with
 | none=>cases h
 | some b=>simp only [eI,List.mem_singleton] at h;subst h;exact ⟨rfl,rfl⟩
theorem fX (ho:Ord lt) (n:κ) (o:Option ν):∀ {L:List (κ × ν)},aY lt L→aY lt (dH lt n o L)
 | [],_=>by cases o<;>simp [dH,eI,aY]
 | q::L,h=>by
  have h2:=List.pairwise_cons.1 h
  have ih:=fX ho n o (L:=L) h2.2
  simp only [dH]
  by_cases hl:lt q.1 n
  ·rw [if_pos hl]
   refine List.pairwise_cons.2 ⟨fun x hx=>?_,ih⟩
   rcases fc hx with hx|hx
   ·rw [(oI hx).1];exact hl
   ·exact h2.1 x hx
  ·rw [if_neg hl]
   refine List.pairwise_append.2 ⟨by cases o<;>simp [eI],?_,fun x hx y hy=>?_⟩
   ·split
    ·exact h2.2
    ·exact h
   ·rw [(oI hx).1]
    by_cases hn:q.1=n
    ·rw [if_pos hn] at hy;rw [← hn];exact h2.1 y hy
    ·rw [if_neg hn] at hy
     have hq:=ho.tot q.1 n hl hn
     rcases List.mem_cons.1 hy with rfl|hy
     ·exact hq
     ·exact ho.tr _ _ _ hq (h2.1 y hy)
omit [DecidableEq κ] [DecidableRel lt] in
theorem mc (ho:Ord lt) {L L':List (κ × ν)} (hp:L.Perm L') (h1:aY lt L) (h2:aY lt L'):L=L' :=
 List.Perm.eq_of_pairwise (le:=fun a b:κ × ν=>lt a.1 b.1) (fun a b _ _ h3 h4=>absurd (ho.tr _ _ _ h3 h4) (ho.irr _)) h1 h2 hp
theorem qG (ho:Ord lt) (n n':κ) (o:Option ν) {L:List (κ × ν)} (h:aY lt L):aM n' (dH lt n o L)=if n' = n then o else aM n' L:=by
 have h1:=fX ho n o h
 have hp:=cJ ho n o h
 have hnd:=h1.nodup ho
 rw [kK hp hnd]
 have hf:∀ {L:List (κ × ν)},aM n' (L.filter fun q=>decide (¬ q.1=n))=if n' = n then none else aM n' L:=by
  intro L
  induction L with
  | nil=>simp [aM]
  | cons q L ih =>
   by_cases hn:q.1=n
   ·rw [List.filter_cons_of_neg (by simpa using hn),ih,aM]
    by_cases h':n' = n
    ·simp [h']
    ·have:¬ n' = q.1:=fun e=>h' (e.trans hn)
     simp [h',this]
   ·rw [List.filter_cons_of_pos (by simpa using hn),aM,aM,ih]
    by_cases h':n' = n
    ·subst h'
     have:¬ n' = q.1:=fun e=>hn (Eq.symm e)
     simp [this]
    ·simp [h']
 cases o with
 | none=>simp only [eI,List.nil_append,hf]
 | some b =>
  simp only [eI,List.cons_append,List.nil_append,aM,hf]
  by_cases h':n' = n<;>simp [h']
end
end Go.Ab
namespace Go.Proofs.YtfbnaalhioogoaaGreatDoor
open Go Go.Ab Go.RowKit
set_option maxRecDepth 20000
set_option maxHeartbeats 2000000
def aU (c:UInt8):Str→List Str
 | []=>[[]]
 | b::s=>if b=c then []::aU c s else match aU c s with|[]=>[[b]]|l::r=>(b::l)::r
theorem fY (c:UInt8) (s:Str):aU c s≠[]:=by
 cases s with
 | nil=>simp [aU]
 | cons b s=>simp only [aU];split;· simp
             split<;>simp
theorem jv {c:UInt8}:∀ {s:Str},c ∉ s→aU c s=[s]
 | [],_=>rfl
 | b::s,h=>by
  have h1:¬ b=c:=fun e=>h (by simp [e])
  have h2:c ∉ s:=fun e=>h (by simp [e])
  rw [aU,if_neg h1,jv h2]
theorem kL {c:UInt8} (u:Str):∀ {t:Str},c ∉ t→aU c (t++c::u)=t::aU c u
 | [],_=>by rw [List.nil_append,aU,if_pos rfl]
 | b::t,h=>by
  have h1:¬ b=c:=fun e=>h (by simp [e])
  have h2:c ∉ t:=fun e=>h (by simp [e])
  rw [List.cons_append,aU,if_neg h1,kL u h2]
theorem gV (c:UInt8):∀ s:Str,(aU c s).length=s.count c+1
 | []=>rfl
 | b::s=>by
  have ih:=gV c s
  rw [aU]
  by_cases h:b=c
  ·rw [if_pos h,List.length_cons,ih,h,List.count_cons_self]
  ·rw [if_neg h,List.count_cons_of_ne h]
   cases hs:aU c s with
   | nil=>exact absurd hs (fY c s)
   | cons l r=>rw [hs] at ih;simpa using ih
theorem jU (c:UInt8):∀ s:Str,c ∉ s∨∃ t u,c ∉ t∧s=t++c::u
 | []=>.inl (by simp)
 | b::s=>by
  by_cases h:b=c
  ·exact .inr ⟨[],s,by simp,by rw [h];rfl⟩
  ·rcases jU c s with h1|⟨t,u,h1,h2⟩
   ·exact .inl (by simp only [List.mem_cons,not_or];exact ⟨fun e=>h e.symm,h1⟩)
   ·exact .inr ⟨b::t,u,by simp only [List.mem_cons,not_or];exact ⟨fun e=>h e.symm,h1⟩,by rw [h2];rfl⟩
theorem index_hit {c:UInt8} (u:Str):∀ {t:Str},c ∉ t→Lib.index (t++c::u) [c]=t.length
 | [],_=>by rw [Lib.index_one,List.nil_append,Lib.indexByte,if_pos (by simp)];rfl
 | b::t,h=>by
  have h1:¬ b=c:=fun e=>h (by simp [e])
  have h2:c ∉ t:=fun e=>h (by simp [e])
  have ih:=index_hit u h2
  rw [Lib.index_one] at ih ⊢
  rw [List.cons_append,Lib.indexByte,if_neg (by simpa using h1),ih,if_neg (by simp),List.length_cons]
  rfl
theorem oJ {c:UInt8}:∀ {s:Str},c ∉ s→Lib.index s [c] = -1
 | [],_=>rfl
 | b::t,h=>by
  have h1:¬ b=c:=fun e=>h (by simp [e])
  have h2:c ∉ t:=fun e=>h (by simp [e])
  have ih:=oJ h2
  rw [Lib.index_one] at ih ⊢
  rw [Lib.indexByte,if_neg (by simpa using h1),ih,if_pos (by simp)]
theorem qH (c:UInt8):∀ (k:Nat) (s:Str),s.count c=k→Lib.splitK [c] 0 k s=aU c s
 | 0,s,h=>by rw [Lib.splitK,jv (List.count_eq_zero.1 h)]
 | k+1,s,h=>by
  rcases jU c s with h1|⟨t,u,h1,rfl⟩
  ·rw [List.count_eq_zero.2 h1] at h;cases h
  ·rw [Lib.splitK,index_hit u h1,if_neg (by simp),kL u h1]
   have hc:u.count c=k:=by
    rw [List.count_append,List.count_eq_zero.2 h1,List.count_cons_self] at h;omega
   have hd:(t++c::u).drop (t.length+1)=u:=by
    rw [← List.drop_drop,List.drop_left];rfl
   simp only [Int.toNat_natCast,Nat.add_zero,List.take_left,List.length_singleton,hd]
   rw [qH c k u hc]
theorem Cf {g:Gh} {w:World} (h:l6 Tryz.prog g w):∃ m,w.cell? ⟨0,0,none⟩=some (.int .i64 m):=by
 obtain ⟨_,_,⟨m,h7⟩,_⟩:=h.facts
 exact ⟨m,h.com _ _ _ h7⟩
theorem gu {s:Str} {b:ByteArray} (h:b.data.toList=s):b=⟨s.toArray⟩:=by
 cases b;simp only at h;congr 1;rw [← h]
theorem oK (s:Str) (c:UInt8) (hl:s.length < 4294967281) (p:Oid) :
  af Tryz.prog 187 [.str s,.str [c]] (Oid.under p) ⟨[],.sl (.sub 0 0 p) 1 (aU c s).length,[(.sub 0 0 p,some (.arr 1 ((aU c s).map AV.str)))]⟩:=by
 have hB:Lib.splitB ⟨#[c]⟩ 0 (s.count c) ⟨s.toArray⟩=(aU c s).map fun t=>⟨t.toArray⟩:=by
  have h1:=Lib.splitB_data ⟨#[c]⟩ 0 (s.count c) ⟨s.toArray⟩
  have h2:Lib.splitK [c] 0 (s.count c) s=aU c s:=qH c _ s rfl
  rw [show (ByteArray.mk #[c]).data.toList=[c] from rfl,show (ByteArray.mk s.toArray).data.toList=s from rfl,h2] at h1
  rw [← h1,List.map_map]
  conv=>lhs;rw [← List.map_id (Lib.splitB _ _ _ _)]
  apply List.map_congr_left
  intro b _
  cases b;rfl
 have hc:((Lib.splitB ⟨#[c]⟩ 0 (s.count c) ⟨s.toArray⟩).map Value.string).toArray=((aU c s).map fun t=>Value.string ⟨t.toArray⟩).toArray:=by rw [hB,List.map_map];rfl
 have hg:∀ i,i < (aU c s).length→((aU c s).map AV.str).getD i .undef = .str ((aU c s).getD i []):=fun i hi=>by simp [List.getD_eq_getElem?_getD,List.getElem?_map,List.getElem?_eq_getElem hi]
 have hg2:∀ i,i < (aU c s).length→(((aU c s).map fun t=>Value.string ⟨t.toArray⟩).toArray).getD i undef=Value.string ⟨((aU c s).getD i []).toArray⟩:=fun i hi=>by
  simp [Array.getD_eq_getD_getElem?,List.getD_eq_getElem?_getD,List.getElem?_eq_getElem hi,hi]
 have key:=pU (P:=Tryz.prog) (f:=187) (xs:=[.str s,.str [c]]) (p:=p) ((aU c s).map AV.str) ((aU c s).map fun t=>Value.string ⟨t.toArray⟩).toArray 9 (by kernel_rfl) (by simp)
  (fun i hi=>by rw [hg i (by simpa using hi)];rfl) (fun i hi=>by rw [hg2 i (by simpa using hi)];rfl)
  (fun g i hi=>by rw [hg i (by simpa using hi),hg2 i (by simpa using hi)];exact .str _ _ rfl)
  fun g args w ha ht=>by
   obtain ⟨v,u,rfl,hv,hu⟩:=ha.two
   obtain ⟨b,rfl,hb⟩:=hv.br
   obtain ⟨d,rfl,hd⟩:=hu.br
   obtain ⟨m,hm⟩:=Cf ht
   rw [gu hb,gu hd]
   refine (Tryz.strings_Split ⟨s.toArray⟩ ⟨#[c]⟩ m w (by show s.toArray.size < _;simpa using hl) hm (by show 1≤(#[c]:Array UInt8).size;exact Nat.le_refl _)).mono ?_
   rintro e w' ⟨rfl,rfl⟩
   have hcb:Lib.countB ⟨s.toArray⟩ ⟨#[c]⟩=s.count c:=Lib.count_one c s
   rw [hcb,hc,List.length_map,gV]
   exact ⟨rfl,rfl⟩
 rwa [List.length_map] at key
def bN (l:Str) (b:UInt8):Nat→Int
 | 0=>-1
 | k+1=>if l.getD k 0=b then k else bN l b k
theorem ly (l:Str) (b:UInt8):∀ k,-1≤bN l b k∧bN l b k < k
 | 0=>by simp [bN]
 | k+1=>by
  have:=ly l b k
  rw [bN];split<;>omega
theorem qI (s:Str) (b:UInt8):∀ k,k≤s.length→Lib.lastIdx ⟨s.toArray⟩ (b.toNat:Int) k=bN s b k
 | 0,_=>rfl
 | k+1,h=>by
  have ih:=qI s b k (by omega)
  have hg:(⟨s.toArray⟩:ByteArray).data[k]! = s.getD k 0:=by
   show s.toArray[k]! = _
   rw [List.getD_eq_getElem?_getD,List.getElem?_eq_getElem h]
   simp [show k < s.length from h]
  have h':k < s.length:=h
  rw [Lib.lastIdx,bN,hg,ih]
  by_cases he:s.getD k 0=b
  ·rw [if_pos (by rw [he]),if_pos he]
  ·rw [if_neg (fun e=>he (UInt8.toNat_inj.1 (by omega))),if_neg he]
theorem kM (s:Str) (b:UInt8) (hl:s.length≤140737488355328) (sp:Oid→Prop):af Tryz.prog 191 [.str s,.int .u8 (b.toNat:Int)] sp ⟨[],.int .i64 (bN s b s.length),[]⟩ :=
 cm (by kernel_rfl) fun g args w ha _=>by
  obtain ⟨v,u,rfl,hv,hu⟩:=ha.two
  obtain ⟨c,rfl,hb⟩:=hv.br
  rw [hu.bl,gu hb]
  refine (Tryz.strings_LastIndexByte ⟨s.toArray⟩ b.toNat (by show s.toArray.size < _;simp;omega) w).mono ?_
  rintro e w' ⟨rfl,rfl⟩
  exact ⟨_,rfl,by unfold Lib.lastIndexByte;rw [qI s b _ (by show s.toArray.size≤_;simp)];exact .int _ _,rfl⟩
theorem qJ (l:Str) (b:UInt8):∀ k,0≤bN l b k→l.getD (bN l b k).toNat 0=b
 | 0,h=>by simp [bN] at h
 | k+1,h=>by
  rw [bN] at h ⊢
  split
  ·rename_i he;simpa using he
  ·rename_i he;rw [if_neg he] at h;exact qJ l b k h
end Go.Proofs.YtfbnaalhioogoaaGreatDoor
namespace Go.Proofs.YtfbnaalhioogoaaGreatDoor
open Go Go.Ab
theorem y4 (a b:Str):ew (.str a) (.str b)=decide (a=b):=by
 by_cases h:a=b<;>simp [ew,AV.cells,bL,eqS,h]
abbrev Ent:=Str × Bits × Nat
def nh (n:Str):List Ent→List Ent
 | []=>[]
 | q::L=>if n=q.1 then L else q::nh n L
theorem rX (n:Str):∀ L:List Ent,(nh n L).Sublist L
 | []=>.slnil
 | q::L=>by
  simp only [nh]
  split
  ·exact (List.Sublist.refl L).cons q
  ·exact (rX n L).cons_cons q
end Go.Proofs.YtfbnaalhioogoaaGreatDoor
namespace Go.Proofs.YtfbnaalhioogoaaGreatDoor
open Go Go.Ab
set_option maxRecDepth 20000
theorem mR {P:Program} [Laid P] {f:FuncId} {xs:List AV} {sp:Oid→Prop} {need:List (Oid × aw)} {v:AV} {t:Oid} {o:aw} (h:af P f xs sp ⟨need,v,[]⟩) (ht:(t,o) ∈ need):af P f xs sp ⟨need,v,[(t,some o)]⟩ :=
 ⟨h.enters,fun x g args w m hm hn ha hs hx=>(h.calls x g args w m hm hn ha hs hx).mono fun en w' ⟨g',u,h1,h2,h3,h4,h5⟩=>⟨g',u,h1,h2,h3,h4,by
  have he:m.aI [(t,some o)]=m:=by
   funext i
   simp only [Mem.aI,Mem.set]
   split
   ·rename_i e;rw [e];exact (hn _ ht).symm
   ·rfl
  show aB x g' (m.aI [(t,some o)]) w'
  rw [he];exact h5⟩⟩
def rY (n:Str) (b:Bits) (es:List ME) (clock:Nat):List ME:=if n=[] then es else if b.k=0 then k7 (.str n) es else b7 (.str n) b.av clock es
def rZ (n:Str) (b:Bits) (es:List ME) (clock:Nat):Nat:=if n=[] then clock else if b.k=0 then clock else if bM (.str n) es then clock else clock+1
theorem Kq (st t:Oid) (es:List ME) (clock:Nat) (hts:¬ t=st) (p:Oid) (hs:¬ Oid.under p st) (ht:¬ Oid.under p t) (n:Str) (b:Bits) :
  af Tryz.prog 23 [.ptr st 0,.str n,b.av] (Oid.under p) ⟨[(st,.cells [.map t,.nilPtr]),(t,.map [.ss] false es clock)],.tuple [],[(t,some (.map [.ss] false (rY n b es clock) (rZ n b es clock)))]⟩:=by
 unfold rY rZ
 by_cases hn:n=[]
 ·subst hn
  simp only [if_true]
  exact mR (GA st t es clock hts p hs ht b) (by simp)
 ·by_cases hb:b.k=0
  ·simp only [hn,hb,if_true,if_false]
   exact GC st t es clock hts p hs ht n hn b hb
  ·simp only [hn,hb,if_false]
   exact GB st t es clock hts p hs ht n hn b hb
end Go.Proofs.YtfbnaalhioogoaaGreatDoor
namespace Go.Proofs.YtfbnaalhioogoaaGreatDoor
open Go Go.Ab
open Go.Sort Go.RowKit
set_option maxRecDepth 20000
set_option maxHeartbeats 4000000
def bg (l:List Str):List Str:=l.mergeSort fun x y=>decide (x≤y)
theorem oL {w:World} {b n:Nat} {d:Array Str} {os:Array Obj} {b':Nat} (hb:b'≠b) (hlt:b' < w.heap.size):(grow (putRow encStr (Sort.ahead w n) b 0 d) os).heap[b']? = w.heap[b']? := by
 unfold putRow mapBlock
 rw [heap_grow_old _ _ (by simpa [ahead] using hlt)]
 simp [Array.getElem?_modify,Ne.symm hb,ahead]
theorem fJ {w:World} {b n:Nat} {d:Array Str} {os:Array Obj} {c:Array Value} {t:TypeId} {fz:Nat × Nat} (hb:w.heap[b]? = some (.cells c t fz)) :
  (grow (putRow encStr (Sort.ahead w n) b 0 d) os).heap[b]? = some (.cells (putCells encStr 0 d c) t fz):=by
 have hlt:=(Array.getElem?_eq_some_iff.1 hb).1
 unfold putRow mapBlock
 rw [heap_grow_old _ _ (by simpa [ahead] using hlt)]
 simp [Array.getElem?_modify,hb,ahead,onCells]
theorem r0 {w:World} {b n:Nat} {d:Array Str} {os:Array Obj}:w.heap.size≤(grow (putRow encStr (Sort.ahead w n) b 0 d) os).heap.size:=by
 unfold putRow mapBlock
 simp [grow,ahead]
theorem fK (d:Array Str) (c:Array Value):(putCells encStr 0 d c).size=c.size:=by simp [putCells]
theorem gw (l:List Str):(bg l).Perm l:=List.mergeSort_perm _ _
theorem eJ (l:List Str):(bg l).length=l.length:=(gw l).length_eq
theorem iN {g:Gh} {s:Str} {v:Value}:VR g (.str s) v↔v=encStr s:=by
 constructor
 ·intro h
  obtain ⟨b,rfl,hb⟩:=h.br
  show Value.string b=Value.string _
  congr 1
  cases b
  simp only at hb
  congr 1
  rw [← hb]
 ·rintro rfl
  exact .str _ _ rfl
theorem gx (l:List Str) (hl:¬ l=[]) (hsz:l.length < 4611686018427387904) (id p:Oid) :
  af Tryz.prog 161 [.sl id 1 l.length] (Oid.under p) ⟨[(id,.arr 1 (l.map .str))],.tuple [],[(id,some (.arr 1 ((bg l).map .str)))]⟩:=by
 refine ⟨by kernel_rfl,fun x g args w m hm hn hargs hsp hng=>?_⟩
 have hmi:=hn _ List.mem_cons_self
 simp only at hmi
 obtain ⟨v,rfl,a0⟩:=hargs.one
 have hne:l.length≠0:=fun e=>hl (List.eq_nil_of_length_eq_zero e)
 obtain ⟨b,cap,rfl,hloc,hcap,hrow⟩:=a0.dE.resolve_left fun h=>hne h.1
 obtain ⟨b0,hb0,hcom,hmay,hobj⟩:=hm.gP hmi hloc
 rw [hloc] at hb0;simp only [Option.some.injEq] at hb0;subst hb0
 obtain ⟨c,t,fz,hh,hcs,hfz,hxl,hone,hv⟩:=hobj
 have hlt:=(Array.getElem?_eq_some_iff.1 hh).1
 simp only [List.length_map,Nat.mul_one] at hcs hxl hone hv
 have hav:∀ (l:List Str) i,i < l.length→(l.map AV.str).getD i .undef = .str (l.getD i []):=fun l i hi=>by simp [List.getD_eq_getElem?_getD,List.getElem?_map,List.getElem?_eq_getElem hi]
 have hcell:∀ i,i < l.length→c.getD i undef=encStr (l.getD i []):=fun i hi=>by
  have:=hv i 0 hi (by omega)
  rw [hav l i hi] at this
  simp only [AV.cells,List.getD_cons_zero,Nat.mul_one,Nat.add_zero] at this
  exact iN.1 this
 have hH:Holds encStr w b 0 l.toArray:=by
  intro j hj
  have hj':j < l.length:=by simpa using hj
  have hjc:j < c.size:=by omega
  constructor
  ·have h3:=hcell j hj'
   simp only [World.cell?,hh,Nat.zero_add,Option.isSome_none,Bool.false_eq_true,if_false,Array.getElem?_eq_getElem hjc,Option.some.injEq]
   rw [Array.getD_eq_getD_getElem?,Array.getElem?_eq_getElem hjc,Option.getD_some] at h3
   rw [h3]
   have h5:l.toArray[j]! = l.getD j []:=by simp [List.getElem?_eq_getElem hj',hj']
   rw [h5]
  ·simp only [World.frozen?,hh,Nat.zero_add]
   have:=hfz j hjc
   by_cases h:fz.1≤j
   ·have:¬ j < fz.2:=fun h'=>this ⟨h,h'⟩
    simp [this]
   ·simp [h]
 refine (Tryz.slices_Sort_string b 0 cap l w hH hlt hsz).mono ?_
 rintro en w' ⟨rfl,n,os,rfl⟩
 have hlen:=eJ l
 show ∃ _ _,_
 refine ⟨g,_,rfl,Gh.le_refl g,fun _ _=>rfl,.tuple _ _ rfl (fun j hj=>absurd hj (Nat.not_lt_zero _)),?_⟩
 have hfold:(l.mergeSort fun x y=>decide (x≤y))=bg l:=rfl
 rw [hfold]
 refine hm.gD (o:=.arr 1 ((bg l).map .str)) hmi hloc rfl rfl ⟨rfl,Nat.le_add_right _ _⟩ r0 (fun b' hb' hlt'=>oL hb' hlt') (fun r hr=>?_) ?_ ?_
 ·obtain ⟨c',t',fz',h2,h3⟩:=hm.rows b r hr
  exact ⟨_,_,_,fJ h2,by rw [fK];exact h3⟩
 ·intro c9 t9 fz9 h9;exact ⟨_,_,fJ h9⟩
 ·have hget:∀ i,i < (bg l).length→(putCells encStr 0 (bg l).toArray c).getD i undef=encStr ((bg l).getD i []):=fun i hi=>by
   have hc2:i < c.size:=by omega
   simp only [putCells,Array.getD_eq_getD_getElem?,Array.getElem?_mapIdx,Array.getElem?_eq_getElem hc2,Option.map_some,Option.getD_some,Nat.zero_le,true_and,Nat.zero_add,Nat.sub_zero,List.size_toArray,hi,if_true]
   congr 1
   simp [List.getElem?_eq_getElem hi,hi]
  refine ⟨_,t,fz,fJ hh,?_,?_,?_,?_,?_⟩
  ·rw [fK,List.length_map,Nat.mul_one,hlen];exact hcs
  ·rw [fK];exact hfz
  ·intro i hi
   rw [hav _ i (by simpa using hi)];rfl
  ·intro j hj
   have hj':j < (bg l).length:=by simpa using hj
   rw [hget j hj'];rfl
  ·intro i j hi hj
   have hi':i < (bg l).length:=by simpa using hi
   obtain rfl:j=0:=by omega
   rw [hav _ i hi',Nat.mul_one,Nat.add_zero,hget i hi']
   exact .str _ _ rfl
theorem tT (p:Oid):af Tryz.prog 161 [.nilSl] (Oid.under p) ⟨[],.tuple [],[]⟩ :=
 cm (by kernel_rfl) fun g args w ha _=>by
  obtain ⟨v,rfl,hv⟩:=ha.one
  rw [hv.bJ]
  refine (Tryz.slices_Sort_string_none none 0 w).mono ?_
  rintro e w' ⟨rfl,rfl⟩
  exact ⟨_,rfl,.tuple _ _ rfl (fun j hj=>absurd hj (Nat.not_lt_zero _)),rfl⟩
theorem oM {l l':List Str} (hp:l.Perm l') (h1:l.Pairwise (· ≤ ·)) (h2:l'.Pairwise (· ≤ ·)):l=l':=by
 exact List.Perm.eq_of_pairwise (le:=(· ≤ ·)) (fun a b _ _ h3 h4=>List.le_antisymm h3 h4) h1 h2 hp
theorem oN (l:List Str):(bg l).Pairwise (· ≤ ·):=by
 have:=List.pairwise_mergeSort (le:=fun (x y:Str)=>decide (x≤y)) (fun a b c h1 h2=>by
  simp only [decide_eq_true_eq] at h1 h2 ⊢;exact List.le_trans h1 h2) (fun a b=>by
  simp only [Bool.or_eq_true,decide_eq_true_eq];exact List.le_total a b) l
 exact this.imp fun h=>by simpa using h
theorem oO {l l':List Str} (hp:l.Perm l') (h:l'.Pairwise (· ≤ ·)):bg l=l':=oM ((gw l).trans hp) (oN l) h
theorem pV {l l':List Str} (hp:l.Perm l'):bg l=bg l':=oM ((gw l).trans (hp.trans (gw l').symm)) (oN l) (oN l')
end Go.Proofs.YtfbnaalhioogoaaGreatDoor
namespace Go.Proofs
open Go.Shelf
def Tryz.GD:Go.Shelf.Ren:=⟨fun|10=>186|6=>259|n=>n,fun|22=>27|23=>9|25=>159|3=>3|4=>4|0=>0|n=>n,fun|n=>n⟩
theorem Tryz.Del:Go.Proofs.SlLaysH.n10 Tryz.prog Tryz.GD:={
 mixed:=by kernel_rfl
 f6:=⟨Tryz.f259.name,by decide,Tryz.func259.trans (congrArg some (by kernel_rfl))⟩
 f10:=⟨Tryz.f186.name,by decide,Tryz.func186.trans (congrArg some (by kernel_rfl))⟩
 t0:=Tryz.underlying0
 a0:=Tryz.isAgg0
 z0:=Tryz.sizeOf0
 v0:=Tryz.zeroValue0
 t3:=Tryz.underlying3
 a3:=Tryz.isAgg3
 z3:=Tryz.sizeOf3
 v3:=Tryz.zeroValue3
 t4:=Tryz.underlying4
 a4:=Tryz.isAgg4
 z4:=Tryz.sizeOf4
 v4:=Tryz.zeroValue4
 t22:=Tryz.underlying27
 a22:=Tryz.isAgg27
 z22:=Tryz.sizeOf27
 v22:=Tryz.zeroValue27
 a23:=Tryz.isAgg9
 z23:=Tryz.sizeOf9
 t25:=Tryz.underlying159
 a25:=Tryz.isAgg159
 z25:=Tryz.sizeOf159
 v25:=Tryz.zeroValue159 }
end Go.Proofs
namespace Go.Proofs.YtfbnaalhioogoaaGreatDoor
open Go Go.Ab Go.RowKit Go.Sort
set_option maxRecDepth 100000
set_option maxHeartbeats 4000000
theorem jV (w:World):grow w #[]=w:=by
 cases w;simp [grow]
theorem tU (s:Str) (W:World):FnGives Tryz.prog 188 #[] #[encStr s] (.bool (s.isEmpty)) W:=by
 show Calls Tryz.prog 188 #[encStr s] W _
 go_enter Tryz.func188,Tryz.ntmps188
 go_wp2
 go_ret
 refine ⟨?_,0,rfl⟩
 rfl
theorem qK (l l' tl:List Str) (f:FuncId) (he:cj Tryz.prog f=true) (hl:¬ l=[]) (ht:l'.length+tl.length=l.length) (id p:Oid) (av:AV) (val:Nat→Nat→Value) (xs:List AV) (need:List (Oid × aw))
  (hval:∀ (g:Gh) (b cap:Nat),g.loc id=some (some b)→l.length≤cap→g.row b=some (cap * 1)→VR g av (val b cap))
  (h:∀ (x:Ctx) (g:Gh) (m:Mem) (args:Array Value) (b cap:Nat) (w:World),aB x g m w→Fit Tryz.prog x→(∀ q ∈ need,m q.1=some q.2)→m id=some (.arr 1 (l.map .str))→g.loc id=some (some b)→(∀ k,g.com b k=none)→VRs g (.sl id 1 l.length::xs) args→args.getD 0 undef = .slice (some ⟨b,0,none⟩) l.length cap →
   Holds encStr w b 0 l.toArray→b < w.heap.size→l.length≤cap→Calls Tryz.prog f args w fun e w'=>e = .returned (val b cap)∧∃ n os,w' = grow (putRow encStr (Sort.ahead w n) b 0 (l' ++ tl).toArray) os) :
  af Tryz.prog f (.sl id 1 l.length::xs) (Oid.under p) ⟨(id,.arr 1 (l.map .str))::need,av,[(id,some (.arr 1 (l'.map .str)))]⟩:=by
 refine ⟨he,fun x g args w m hm hn hargs hsp hng=>?_⟩
 have hmi:=hn _ List.mem_cons_self
 have hmn:∀ q ∈ need,m q.1=some q.2:=fun q hq=>hn q (List.mem_cons_of_mem _ hq)
 simp only at hmi
 obtain ⟨v,hva⟩:∃ v,args.getD 0 undef=v:=⟨_,rfl⟩
 have a0:=hargs.2 0 (by simp)
 rw [hva,List.getD_cons_zero] at a0
 have hne:l.length≠0:=fun e=>hl (List.eq_nil_of_length_eq_zero e)
 obtain ⟨b,cap,rfl,hloc,hcap,hrow⟩:=a0.dE.resolve_left fun h=>hne h.1
 obtain ⟨b0,hb0,hcom,hmay,hobj⟩:=hm.gP hmi hloc
 rw [hloc] at hb0;simp only [Option.some.injEq] at hb0;subst hb0
 obtain ⟨c,t,fz,hh,hcs,hfz,hxl,hone,hv⟩:=hobj
 have hlt:=(Array.getElem?_eq_some_iff.1 hh).1
 simp only [List.length_map,Nat.mul_one] at hcs hxl hone hv
 have hav:∀ (l:List Str) i,i < l.length→(l.map AV.str).getD i .undef = .str (l.getD i []):=fun l i hi=>by simp [List.getD_eq_getElem?_getD,List.getElem?_map,List.getElem?_eq_getElem hi]
 have hcell:∀ i,i < l.length→c.getD i undef=encStr (l.getD i []):=fun i hi=>by
  have:=hv i 0 hi (by omega)
  rw [hav l i hi] at this
  simp only [AV.cells,List.getD_cons_zero,Nat.mul_one,Nat.add_zero] at this
  exact iN.1 this
 have hH:Holds encStr w b 0 l.toArray:=by
  intro j hj
  have hj':j < l.length:=by simpa using hj
  have hjc:j < c.size:=by omega
  constructor
  ·have h3:=hcell j hj'
   simp only [World.cell?,hh,Nat.zero_add,Option.isSome_none,Bool.false_eq_true,if_false,Array.getElem?_eq_getElem hjc,Option.some.injEq]
   rw [Array.getD_eq_getD_getElem?,Array.getElem?_eq_getElem hjc,Option.getD_some] at h3
   rw [h3]
   have h5:l.toArray[j]! = l.getD j []:=by simp [List.getElem?_eq_getElem hj',hj']
   rw [h5]
  ·simp only [World.frozen?,hh,Nat.zero_add]
   have:=hfz j hjc
   by_cases h:fz.1≤j
   ·have:¬ j < fz.2:=fun h'=>this ⟨h,h'⟩
    simp [this]
   ·simp [h]
 refine (h x g m args b cap w hm hng hmn hmi hloc hcom hargs hva hH hlt hcap).mono ?_
 rintro en w' ⟨rfl,n,os,rfl⟩
 show ∃ _ _,_
 refine ⟨g,_,rfl,Gh.le_refl g,fun _ _=>rfl,hval g b cap hloc hcap hrow,?_⟩
 refine hm.gD (o:=.arr 1 (l'.map .str)) hmi hloc rfl rfl ⟨rfl,Nat.le_add_right _ _⟩ r0 (fun b' hb' hlt'=>oL hb' hlt') (fun r hr=>?_) ?_ ?_
 ·obtain ⟨c',t',fz',h2,h3⟩:=hm.rows b r hr
  exact ⟨_,_,_,fJ h2,by rw [fK];exact h3⟩
 ·intro c9 t9 fz9 h9;exact ⟨_,_,fJ h9⟩
 ·have hget:∀ i,i < l'.length→(putCells encStr 0 (l' ++ tl).toArray c).getD i undef=encStr (l'.getD i []):=fun i hi=>by
   have hc2:i < c.size:=by omega
   have hi2:i < l'.length+tl.length:=by omega
   simp only [putCells,Array.getD_eq_getD_getElem?,Array.getElem?_mapIdx,Array.getElem?_eq_getElem hc2,Option.map_some,Option.getD_some,Nat.zero_le,true_and,Nat.zero_add,Nat.sub_zero,List.size_toArray,List.length_append,hi2,if_true]
   congr 1
   simp [List.getElem?_eq_getElem hi,hi,hi2,List.getElem_append_left hi]
  refine ⟨_,t,fz,fJ hh,?_,?_,?_,?_,?_⟩
  ·rw [fK,List.length_map,Nat.mul_one];omega
  ·rw [fK];exact hfz
  ·intro i hi
   rw [hav _ i (by simpa using hi)];rfl
  ·intro j hj
   have hj':j < l'.length:=by simpa using hj
   rw [hget j hj'];rfl
  ·intro i j hi hj
   have hi':i < l'.length:=by simpa using hi
   obtain rfl:j=0:=by omega
   rw [hav _ i hi',Nat.mul_one,Nat.add_zero,hget i hi']
   exact .str _ _ rfl
theorem Kr (l:List Str) (hl:¬ l=[]) (hls:l.length≤9223372036854775807) (id p:Oid) :
  af Tryz.prog 186 [.sl id 1 l.length,.fn (.func 188) [] []] (Oid.under p) ⟨[(id,.arr 1 (l.map .str))],.sl id 1 (l.filter fun t=>!t.isEmpty).length,[(id,some (.arr 1 ((l.filter fun t=>!t.isEmpty).map .str)))]⟩:=by
 have hfl:(l.filter fun t=>!t.isEmpty).length≤l.length:=List.length_filter_le _ _
 refine qK l (l.filter fun t=>!t.isEmpty) (List.replicate (l.length - (l.filter fun t=>!t.isEmpty).length) []) _ (by kernel_rfl) hl (by rw [List.length_replicate];omega) id p _
  (fun b cap=>.slice (some ⟨b,0,none⟩) (l.filter fun t=>!t.isEmpty).length cap) _ _ (fun g b cap h1 h2 h3=>.sl _ _ _ _ _ h1 (Nat.le_trans hfl h2) h3) ?_
 intro x g m av b cap w hm hx hn hmi hloc hcom hargs hv0 hH hb hcap
 have a1:=hargs.2 1 (by simp)
 simp only [List.getD_cons_succ,List.getD_cons_zero] at a1
 obtain ⟨fa,fb,hf,hfs,hbs,_,hfv⟩:=a1.iE
 have hfa:fa=#[]:=Array.eq_empty_of_size_eq_zero hfs
 have hfb:fb=#[]:=Array.eq_empty_of_size_eq_zero hbs
 have hav:av=#[.slice (some ⟨b,0,none⟩) l.length cap,.func (.func 188) #[] #[]]:=by
  have h2:av.size=2:=hargs.1
  apply Array.ext
  ·rw [h2];rfl
  ·intro j h3 h4
   have h3':j < 2:=by omega
   rw [Array.getD_eq_getD_getElem?,Array.getElem?_eq_getElem (by omega)] at hv0
   rw [Array.getD_eq_getD_getElem?,Array.getElem?_eq_getElem (by omega)] at hf
   match j,h3' with
   | 0,_=>simpa using hv0
   | 1,_=>rw [hfa,hfb] at hf;simpa using hf
 have eg:∀ args w,(callFunc 188 args).run Tryz.prog w = .ok (.enter 188 args) w:=enters_of Tryz.func188 (by kernel_rfl) rfl
 have con:=AnyE.slices_DeleteFunc Tryz.Del encStr (fun _=>rfl) (fun y:Str=>y.isEmpty) 188 #[] eg default Tryz.zeroValue9 b 0 cap l.toArray w
  (fun W y _=>tU y W) (fun n os dk y _=>tU y _) hH (by simpa using hls) (by simpa using hcap)
 change Calls Tryz.prog 186 _ _ _ at con
 rw [hav]
 have hsz:l.toArray.size=l.length:=by simp
 rw [hsz] at con
 refine con.mono ?_
 rintro e w' ⟨rfl,q,rfl⟩
 refine ⟨rfl,q,#[],?_⟩
 rw [jV]
 rfl
def cO (s:Str):List Str:=(aU 47 s).filter fun t=>!t.isEmpty
def iv (s:Str):Bool:=decide (0 < s.length) && decide (s.getD (s.length - 1) 0=47)
theorem oP (c:UInt8) (s:Str):(aU c s).length≤s.length+1:=by
 rw [gV];have:=List.count_le_length (a:=c) (l:=s);omega
theorem qL (s:Str) (hl:s.length < 4294967281) (p:Oid) :
  af Tryz.prog 108 [.str s] (Oid.under p) ⟨[],.sl (.sub 0 0 (.sub 1 1 p)) 1 (cO s).length,[(.sub 0 0 (.sub 1 1 p),some (.arr 1 ((cO s).map AV.str)))]⟩:=by
 have hn:=fY 47 s
 have hf:=oP 47 s
 have h1:=fun p=>oK s 47 hl p
 have h2:=fun id p=>Kr (aU 47 s) hn (by omega) id p
 unfold cO
 generalize (aU 47 s).filter (fun t=>!t.isEmpty)=R at h2
 generalize aU 47 s=L at h1 h2
 refine aJ (n:=6) (rs:=[.tmp 2]) Tryz.func108 rfl rfl (by decide) rfl rfl rfl ?_;rintro x rfl hrd hng
 refine qr0 ?_
 refine qr .o trivial (cq (h1 _) (cq (h2 _ _) trivial)) ?_
 refine aA (aZ rfl ?_ ?_)
 ·simp [Mem.ao]
 ·simp
theorem y5 {s:Str} (h:0 < s.length):s.drop (s.length - 1)=[s.getD (s.length - 1) 0]:=by
 rw [List.getD_eq_getElem?_getD,List.getElem?_eq_getElem (by omega),Option.getD_some,List.drop_eq_getElem_cons (by omega),show s.length - 1+1=s.length from by omega,List.drop_length]
theorem iO (s:Str) (hs:s.length≤140737488355328) (p:Oid):af Tryz.prog 42 [.str s,.str [47]] (Oid.under p) ⟨[],.bool (iv s),[]⟩:=by
 have key:∀ p,af Tryz.prog 110 [.str s,.str [47]] (Oid.under p) ⟨[],.bool (iv s),[]⟩:=fun p=>by
  refine aJ (n:=21) (rs:=[.tmp 4]) Tryz.func110 rfl rfl (by decide) rfl rfl rfl ?_;rintro x rfl hrd hng
  refine qr0 ?_
  refine aj nmd [(5,10)] hng (by kernel_rfl) fun hf C S K hC1 hC hS hK=>?_;simp (disch:=first|omega|assumption) only [go_sem]
  (repeat' (first|(refine aD (fun hv=>?_) (fun hv=>?_)<;>(try simp only [zb1,zb2,zb3,zb4,zb5] at hv)<;>simp (disch:=first|omega|assumption) only [go_sem,hv])|(refine hK ?_;clear hK hS hC hC1 K S C hf)))
  ·have h0:0 < s.length:=by omega
   have hd:=y5 h0
   refine qw0 ?_
   refine aA (bd (congrArg AV.bool ?_))
   rw [show ((s.length:Int) - ((1:Nat):Int)).toNat=s.length - 1 from by omega,hd]
   unfold iv
   rw [decide_eq_true h0,Bool.true_and]
   simp
  ·refine qw0 ?_
   refine aA (bd (congrArg AV.bool ?_))
   unfold iv
   rw [decide_eq_false (by omega:¬ 0 < s.length),Bool.false_and]
 refine aJ (n:=8) (rs:=[.tmp 4]) Tryz.func42 rfl rfl (by decide) rfl rfl rfl ?_;rintro x rfl hrd hng
 (repeat (first|(refine aq rfl rfl ?_)|(refine ar rfl rfl ?_)|(refine aj nmd [] hng (by kernel_rfl) fun hf C S K hC1 hC hS hK=>?_;simp (disch:=first|omega|assumption) only [go_sem];(repeat ((first|refine hC1 _ (key _) (by simp (disch:=first|omega|assumption) only [go_sem]) ?_);simp (disch:=first|omega|assumption) only [go_sem]));refine hK ?_;clear hK hS hC hC1 K S C hf)|((first|refine zn ?_|refine ze ?_|refine zk ?_);with_reducible (constructor;repeat constructor);try refine zl ?_)))
 exact aA (bd rfl)
theorem pW (s:Str) (h0:¬ s=[]) (hs:s.length≤140737488355328) (p:Oid):af Tryz.prog 137 [.str s,.str [47]] (Oid.under p) ⟨[],.bool (decide (s.getD 0 0=47)),[]⟩:=by
 have key:gr s [47]=decide (s.getD 0 0=47):=by
  cases s with
  | nil=>exact absurd rfl h0
  | cons b s=>simp [gr]
 rw [← key]
 refine aJ (n:=8) (rs:=[.tmp 4]) Tryz.func137 rfl rfl (by decide) rfl rfl rfl ?_;rintro x rfl hrd hng
 (repeat (first|(refine aq rfl rfl ?_)|(refine ar rfl rfl ?_)|(refine aj nmd [] hng (by kernel_rfl) fun hf C S K hC1 hC hS hK=>?_;simp (disch:=first|omega|assumption) only [go_sem];(repeat ((first|refine hC1 _ (lv s [47] hs (by decide) _) (by simp (disch:=first|omega|assumption) only [go_sem]) ?_);simp (disch:=first|omega|assumption) only [go_sem]));refine hK ?_;clear hK hS hC hC1 K S C hf)|((first|refine zn ?_|refine ze ?_|refine zk ?_);with_reducible (constructor;repeat constructor);try refine zl ?_)))
 exact aA (bd rfl)
end Go.Proofs.YtfbnaalhioogoaaGreatDoor
namespace Go.Ab
abbrev Bk:=List Oid × (Oid→aw)
def bk (B:Bk):List (Oid × aw):=B.1.map fun i=>(i,B.2 i)
def sb (N:List Oid) (f:Oid→aw):List (Oid × Option aw):=N.map fun i=>(i,some (f i))
def Mem.blk (A:List (Oid × aw)) (Bs:List Bk):Mem:=Mem.of (A++(Bs.map bk).flatten)
def Mem.cons (a:Oid × aw) (m:Mem):Mem:=m.set a.1 (some a.2)
def bE (p:Oid) (N:List Oid):Prop:=∀ i ∈ N,¬ Oid.under p i
def DJ (N M:List Oid):Prop:=∀ i ∈ N,i ∉ M
theorem bE.sub {p:Oid} {N:List Oid} (h:bE p N) (c i:Nat):bE (.sub c i p) N:=fun j hj hu=>h j hj (Oid.ae hu)
theorem bE.mem {p:Oid} {N:List Oid} (h:bE p N) {c i:Nat}:Oid.sub c i p ∉ N:=fun hm=>h _ hm (Oid.ae (Oid.az _))
def oQ (p:Oid) (c:Nat) (N:List Oid):Prop:=∀ i ∈ N,¬ eo p c i
theorem oQ.sub {p:Oid} {c0:Nat} {N:List Oid} (h:oQ p c0 N) {c:Nat} (hc:c0≤c) (i:Nat):bE (.sub c i p) N:=fun j hj hu=>h j hj ⟨c,i,hc,hu⟩
theorem oQ.mono {p:Oid} {c0 c:Nat} {N:List Oid} (h:oQ p c0 N) (hc:c0≤c):oQ p c N:=fun j hj hu=>h j hj (hu.mono hc)
theorem oQ.mem {p:Oid} {c0:Nat} {N:List Oid} (h:oQ p c0 N) {c i:Nat} (hc:c0≤c):Oid.sub c i p ∉ N:=fun hm=>h _ hm ⟨c,i,hc,Oid.az _⟩
theorem bE.C {p:Oid} {N:List Oid} (h:bE p N) (c:Nat):oQ p c N:=fun j hj hu=>h j hj hu.under
theorem Mem.gW (q:Oid × aw) (A:List (Oid × aw)) (Bs:List Bk) (i:Oid):Mem.blk (q::A) Bs i=if i=q.1 then some q.2 else Mem.blk A Bs i:=rfl
theorem Mem.Cg (q:Oid × aw) (A:List (Oid × aw)) (Bs:List Bk):Mem.cons q (Mem.blk A Bs)=Mem.blk (q::A) Bs:=rfl
theorem tV (A:List (Oid × aw)) (Bs:List Bk):(Mem.blk A Bs).aI []=Mem.blk A Bs:=rfl
theorem jw (i:Oid) (o:aw) (F:List (Oid × aw)):∀ A,(Mem.of (A++F)).set i (some o)=Mem.of (bP i (some o) A++F)
 | []=>rfl
 | q::A=>by
  have ih:=jw i o F A
  simp only [bP]
  by_cases h:i=q.1
  ·rw [if_pos h];funext k;simp only [List.cons_append,Mem.of,Mem.set];subst h;split<;>rfl
  ·rw [if_neg h];funext k;simp only [List.cons_append,Mem.of];rw [← ih];simp only [Mem.set]
   by_cases h1:k=i
   ·rw [if_pos h1,if_pos h1,if_neg (fun h2=>h (h1.symm.trans h2))]
   ·rw [if_neg h1,if_neg h1]
theorem sc (A:List (Oid × aw)) (Bs:List Bk) (i:Oid) (o:aw) (u:List (Oid × Option aw)):(Mem.blk A Bs).aI ((i,some o)::u)=(Mem.blk (bP i (some o) A) Bs).aI u:=by
 show ((Mem.of _).set i (some o)).aI u=_
 rw [jw];rfl
theorem sd (A:List (Oid × aw)) (Bs:List Bk) (i:Oid) (o:aw):(Mem.blk A Bs).set i (some o)=Mem.blk (bP i (some o) A) Bs:=jw i o _ A
def del (i:Oid) (B:Bk):Bk:=(B.1.filter fun j=>decide (¬ j=i),B.2)
def nh (i:Oid):List Bk→List Bk
 | []=>[]
 | B::Bs=>del i B::nh i Bs
theorem Ch (Bs:List Bk) (i:Oid):((Bs.map bk).flatten.filter fun q=>decide (¬ q.1=i))=((nh i Bs).map bk).flatten:=by
 induction Bs with
 | nil=>rfl
 | cons B Bs ih =>
  simp only [List.map_cons,List.flatten_cons,List.filter_append,ih,nh]
  congr 1
  simp only [bk,del,List.filter_map]
  rfl
theorem xg (i:Oid):∀ L:List (Oid × aw),(Mem.of L).set i none=Mem.of (L.filter fun q=>decide (¬ q.1=i))
 | []=>by funext k;simp [Mem.of,Mem.set,Mem.emp]
 | q::L=>by
  have ih:=xg i L
  by_cases h:q.1=i
  ·rw [List.filter_cons_of_neg (by simpa using h),← ih];funext k;simp only [Mem.of,Mem.set];subst h;split<;>rfl
  ·rw [List.filter_cons_of_pos (by simpa using h)]
   show _=(Mem.of _).set q.1 (some q.2)
   rw [← ih];funext k;simp only [Mem.of,Mem.set]
   by_cases h1:k=i
   ·rw [if_pos h1,if_neg (fun h2=>h (h2.symm.trans h1)),if_pos h1]
   ·rw [if_neg h1,if_neg h1]
theorem mS (i:Oid):∀ A:List (Oid × aw),bP i none A=A.filter fun q=>decide (¬ q.1=i)
 | []=>rfl
 | q::A=>by
  have ih:=mS i A
  simp only [bP]
  by_cases h:i=q.1
  ·rw [if_pos h,List.filter_cons_of_neg (by simpa using h.symm),ih]
  ·rw [if_neg h,List.filter_cons_of_pos (by simpa using fun e=>h e.symm),ih]
theorem lz (A:List (Oid × aw)) (Bs:List Bk) (i:Oid):(Mem.blk A Bs).set i none=Mem.blk (bP i none A) (nh i Bs):=by
 show (Mem.of _).set i none=Mem.of _
 rw [xg,List.filter_append,mS,Ch]
theorem se (A:List (Oid × aw)) (Bs:List Bk) (i:Oid) (u:List (Oid × Option aw)):(Mem.blk A Bs).aI ((i,none)::u)=(Mem.blk (bP i none A) (nh i Bs)).aI u:=by
 show ((Mem.blk A Bs).set i none).aI u=_
 rw [lz]
theorem Ci (i:Oid):nh i []=[]:=rfl
theorem y6 (i:Oid) (B:Bk) (Bs:List Bk):nh i (B::Bs)=del i B::nh i Bs:=rfl
theorem xh {i:Oid} {N:List Oid} {f:Oid→aw} (h:i ∉ N):del i (N,f)=(N,f):=by
 simp only [del,Prod.mk.injEq,and_true]
 exact List.filter_eq_self.2 fun j hj=>by rw [decide_eq_true_eq];rintro rfl;exact h hj
theorem rX {c k:Nat} {p:Oid} {N:List Oid} {f:Oid→aw} (h:bE p N):del (.sub c k p) (N,f)=(N,f):=xh h.mem
theorem dV (N:List Oid) (f:Oid→aw) (i:Oid):∀ m:Mem,(m.aI (sb N f)) i=if i ∈ N then some (f i) else m i:=by
 induction N with
 | nil=>intro m;simp [sb,Mem.aI]
 | cons j N ih =>
  intro m
  show ((m.set j (some (f j))).aI (sb N f)) i=_
  rw [ih]
  by_cases h1:i ∈ N
  ·rw [if_pos h1,if_pos (List.mem_cons_of_mem _ h1)]
  ·rw [if_neg h1]
   by_cases h2:i=j
   ·subst h2;rw [if_pos List.mem_cons_self];simp [Mem.set]
   ·rw [if_neg (by simp [h1,h2])];simp [Mem.set,h2]
theorem Cj (N:List Oid) (f:Oid→aw) (F:List (Oid × aw)) (i:Oid):Mem.of (bk (N,f)++F) i=if i ∈ N then some (f i) else Mem.of F i:=by
 induction N with
 | nil=>simp [bk]
 | cons j N ih =>
  show (Mem.of (bk (N,f)++F)).set j (some (f j)) i=_
  simp only [Mem.set]
  by_cases h2:i=j
  ·subst h2;rw [if_pos rfl,if_pos List.mem_cons_self]
  ·rw [if_neg h2,ih]
   by_cases h1:i ∈ N
   ·rw [if_pos h1,if_pos (List.mem_cons_of_mem _ h1)]
   ·rw [if_neg h1,if_neg (by simp [h1,h2])]
theorem bG (N:List Oid) (f:Oid→aw) (Bs:List Bk) (i:Oid):Mem.blk [] ((N,f)::Bs) i=if i ∈ N then some (f i) else Mem.blk [] Bs i:=Cj N f _ i
theorem GF (N:List Oid) (f g:Oid→aw) (Bs:List Bk):(Mem.blk [] ((N,f)::Bs)).aI (sb N g)=Mem.blk [] ((N,g)::Bs):=by
 funext i
 rw [dV,bG,bG]
 split<;>rfl
theorem GG {M N:List Oid} (h:DJ M N) (e f g:Oid→aw) (Bs:List Bk):(Mem.blk [] ((M,e)::(N,f)::Bs)).aI (sb N g)=Mem.blk [] ((M,e)::(N,g)::Bs):=by
 funext i
 rw [dV,bG,bG,bG,bG]
 by_cases h1:i ∈ N
 ·rw [if_pos h1,if_neg (fun h2=>h i h2 h1),if_pos h1]
 ·simp only [if_neg h1]
theorem xi {q:Oid × aw} {A:List (Oid × aw)} {Bs:List Bk} {N:List Oid} {g:Oid→aw} (h:q.1 ∉ N):(Mem.blk (q::A) Bs).aI (sb N g)=Mem.cons q ((Mem.blk A Bs).aI (sb N g)):=by
 funext i
 rw [dV]
 simp only [Mem.cons,Mem.set,Mem.gW]
 rw [dV]
 by_cases h1:i=q.1
 ·subst h1;rw [if_neg h,if_pos rfl,if_pos rfl]
 ·rw [if_neg h1,if_neg h1]
theorem GH {i:Oid} {o:aw} {A:List (Oid × aw)} {Bs:List Bk} {N:List Oid} {g:Oid→aw} (h:i ∉ N):(Mem.blk ((i,o)::A) Bs).aI (sb N g)=Mem.cons (i,o) ((Mem.blk A Bs).aI (sb N g)):=xi h
theorem GI {c k:Nat} {p:Oid} {o:aw} {A:List (Oid × aw)} {Bs:List Bk} {N:List Oid} {g:Oid→aw} (h:bE p N):(Mem.blk ((.sub c k p,o)::A) Bs).aI (sb N g)=Mem.cons (.sub c k p,o) ((Mem.blk A Bs).aI (sb N g)):=xi h.mem
theorem cA {B:Bk} {q:Oid × aw}:q ∈ bk B↔q.1 ∈ B.1∧q.2=B.2 q.1:=by
 simp only [bk,List.mem_map]
 constructor
 ·rintro ⟨i,h1,rfl⟩;exact ⟨h1,rfl⟩
 ·rintro ⟨h1,h2⟩;exact ⟨q.1,h1,by rw [← h2]⟩
theorem vK (N:List Oid) (f:Oid→aw) (Bs:List Bk):(∀ q,q ∈ bk (N,f)→Mem.blk [] ((N,f)::Bs) q.1=some q.2)=True:=eq_true fun q hq=>by
 obtain ⟨h1,h2⟩:=cA.1 hq
 rw [bG,if_pos h1,h2]
theorem Ck {a:Oid × aw} {A:List (Oid × aw)} {Bs:List Bk} {N:List Oid} {f:Oid→aw} (h:a.1 ∉ N):(∀ q,q ∈ bk (N,f)→Mem.blk (a::A) Bs q.1=some q.2)=(∀ q,q ∈ bk (N,f)→Mem.blk A Bs q.1=some q.2):=by
 refine propext ⟨fun k q hq=>?_,fun k q hq=>?_⟩
 ·have:=k q hq
  rwa [Mem.gW,if_neg (fun e:q.1=a.1=>h (e ▸ (cA.1 hq).1))] at this
 ·rw [Mem.gW,if_neg (fun e:q.1=a.1=>h (e ▸ (cA.1 hq).1))];exact k q hq
theorem oR {i:Oid} {o:aw} {A:List (Oid × aw)} {Bs:List Bk} {N:List Oid} {f:Oid→aw} (h:i ∉ N):(∀ q,q ∈ bk (N,f)→Mem.blk ((i,o)::A) Bs q.1=some q.2)=(∀ q,q ∈ bk (N,f)→Mem.blk A Bs q.1=some q.2):=Ck h
theorem Cl {c k:Nat} {p:Oid} {o:aw} {A:List (Oid × aw)} {Bs:List Bk} {N:List Oid} {f:Oid→aw} (h:bE p N):(∀ q,q ∈ bk (N,f)→Mem.blk ((.sub c k p,o)::A) Bs q.1=some q.2)=(∀ q,q ∈ bk (N,f)→Mem.blk A Bs q.1=some q.2):=Ck h.mem
theorem Ks (B:Bk):Mem.of (bk B)=Mem.blk [] [B]:=by simp [Mem.blk]
theorem fk (a:Oid × aw) (B:Bk):Mem.of (a::bk B)=Mem.blk [a] [B]:=by simp [Mem.blk]
theorem fm (a b:Oid × aw) (B:Bk):Mem.of (a::b::bk B)=Mem.blk [a,b] [B]:=by simp [Mem.blk]
theorem GJ (B C:Bk):Mem.of (bk B++bk C)=Mem.blk [] [B,C]:=by simp [Mem.blk]
theorem fL {A0:List (Oid × aw)} {U:List (Oid × Option aw)} {N:List Oid} {f g:Oid→aw} {m:Mem} (h2:∀ q,q ∈ U→∀ o,q.2=some o→m q.1=some o) (h3:∀ q,q ∈ A0→(∀ r,r ∈ U→¬ r.1=q.1)→m q.1=some q.2)
  (h4:∀ q,q ∈ bk (N,g)→m q.1=some q.2) (i:Oid) (o:aw) (h:((Mem.of (A0++bk (N,f))).aI (U++sb N g)) i=some o):m i=some o:=by
 rw [cW,dV] at h
 by_cases h1:i ∈ N
 ·rw [if_pos h1] at h
  rw [← h];exact h4 (i,g i) (cA.2 ⟨h1,rfl⟩)
 ·rw [if_neg h1] at h
  by_cases hk:∃ q ∈ U,q.1=i
  ·obtain ⟨q',k1,k2,k3⟩:=jq (m:=Mem.of (A0++bk (N,f))) hk
   rw [k3] at h
   rw [← k2];exact h2 q' k1 o h
  ·rw [bc fun q hq e=>hk ⟨q,hq,e⟩] at h
   obtain ⟨q,k1,rfl,rfl⟩:=Mem.dM h
   rcases List.mem_append.1 k1 with k1|k1
   ·exact h3 q k1 fun r hr e=>hk ⟨r,hr,e⟩
   ·exact absurd (cA.1 k1).1 h1
section
variable {P:Program} {rs:List ResultVar} {fr:List (Nat × AV)} {m:Mem} {c:Nat} {val:AV} {N:List Oid} {f g:Oid→aw} {Rp:AV→List (Oid × Option aw)→Prop}
theorem xj {a:Oid × aw} (h1:gR P m fr rs=some val) (h3:m a.1=some a.2) (h4:∀ q,q ∈ bk (N,g)→m q.1=some q.2):ez P rs (a::bk (N,f)) (fun v u=>v=val∧u=sb N g) Rp .ret ⟨fr,m,c,[]⟩ :=
 bO val _ h1 ⟨rfl,rfl⟩ (fL (A0:=[a]) (U:=[]) (fun _ h=>by cases h) (fun q h _=>by rw [List.mem_singleton.1 h];exact h3) h4)
end
abbrev Cm (P:Program) [Laid P] (f:FuncId) (xs:List AV) (sp:Oid→Prop) (need:List (Oid × aw)) (pv:AV) (upd:List (Oid × Option aw)):Prop:=bV P f xs sp need (fun _ _=>False) (fun v u=>v=pv∧u=upd)
theorem af.Cn {P:Program} [Laid P] {f:FuncId} {xs:List AV} {sp:Oid→Prop} {L0:List (Oid × aw)} {v:AV} {U:List (Oid × Option aw)} {N:List Oid} {F G:Oid→aw}
  (h:af P f xs sp ⟨L0,v,U⟩) (hL:∀ q,q ∈ L0→q ∈ bk (N,F)) (hU:∀ q,q ∈ U→q.1 ∈ N) (hf:∀ i,i ∈ N→((Mem.of (bk (N,F))).aI U) i=some (G i)):af P f xs sp ⟨bk (N,F),v,sb N G⟩ :=
 ⟨h.enters,fun x g args w m hm hn ha hs hx=>by
  refine (h.calls x g args w m hm (fun q hq=>hn q (hL q hq)) ha hs hx).mono fun en w' ⟨g',v',h1,h2,h3,h4,h5⟩=>⟨g',v',h1,h2,h3,h4,?_⟩
  have:m.aI U=m.aI (sb N G):=by
   funext i
   rw [dV]
   by_cases hi:i ∈ N
   ·rw [if_pos hi,← hf i hi]
    refine nJ ?_
    rw [hn (i,F i) (cA.2 ⟨hi,rfl⟩)]
    have:=Cj N F [] i
    rw [List.append_nil,if_pos hi] at this
    exact this.symm
   ·rw [if_neg hi,bc fun q hq (e:q.1=i)=>hi (e ▸ hU q hq)]
  simp only at h5 ⊢
  rw [← this];exact h5⟩
def eK (F:Oid→aw) (i:Oid) (o:aw):Oid→aw:=fun j=>if j=i then o else F j
theorem bz (F:Oid→aw) (i:Oid) (o:aw) (j:Oid):eK F i o j=if j=i then o else F j:=rfl
theorem jx {N:List Oid} {F:Oid→aw} {i:Oid} (h:i ∈ N):Mem.of (bk (N,F)) i=some (F i):=by
 have:=Cj N F [] i
 rwa [List.append_nil,if_pos h] at this
theorem bk2 (F:Oid→aw) (a b:Oid):bk ([a,b],F)=[(a,F a),(b,F b)]:=rfl
theorem bk6 (F:Oid→aw) (a b c d e f:Oid):bk ([a,b,c,d,e,f],F)=[(a,F a),(b,F b),(c,F c),(d,F d),(e,F e),(f,F f)]:=rfl
theorem bk1 (F:Oid→aw) (a:Oid):bk ([a],F)=[(a,F a)]:=rfl
theorem af.one {P:Program} [Laid P] {f:FuncId} {xs:List AV} {sp:Oid→Prop} {r:Oid} {o o':aw} {v:AV} {F:Oid→aw} (h:af P f xs sp ⟨[(r,o)],v,[(r,some o')]⟩) (hF:F r=o):af P f xs sp ⟨bk ([r],F),v,sb [r] (eK F r o')⟩:=by
 refine h.Cn ?_ (fun q hq=>by rw [List.mem_singleton.1 hq];simp) fun i hi=>?_
 ·rw [bk1,hF];exact fun q hq=>hq
 ·rw [List.mem_singleton.1 hi]
  show ((Mem.of _).set r (some o')) r=_
  simp [Mem.set,eK]
def sbx (N:List Oid) (f:Oid→aw):List (Oid × Option aw):=sb N f
theorem af.Kt {P:Program} [Laid P] {f:FuncId} {xs:List AV} {sp:Oid→Prop} {L0:List (Oid × aw)} {v:AV} {U:List (Oid × Option aw)} {N N':List Oid} {F G:Oid→aw}
  (h:af P f xs sp ⟨L0,v,U⟩) (hL:∀ q,q ∈ L0→q ∈ bk (N,F)) (hU:∀ q,q ∈ U→q.1 ∈ N') (hN:∀ i,i ∈ N'→i ∈ N∨∃ q ∈ U,q.1=i) (hf:∀ i,i ∈ N'→((Mem.of (bk (N,F))).aI U) i=some (G i)):af P f xs sp ⟨bk (N,F),v,sbx N' G⟩ :=
 ⟨h.enters,fun x g args w m hm hn ha hs hx=>by
  refine (h.calls x g args w m hm (fun q hq=>hn q (hL q hq)) ha hs hx).mono fun en w' ⟨g',v',h1,h2,h3,h4,h5⟩=>⟨g',v',h1,h2,h3,h4,?_⟩
  have:m.aI U=m.aI (sbx N' G):=by
   funext i
   unfold sbx
   rw [dV]
   by_cases hi:i ∈ N'
   ·rw [if_pos hi,← hf i hi]
    by_cases hk:∃ q ∈ U,q.1=i
    ·exact gb hk
    ·refine nJ ?_
     have hiN:=(hN i hi).resolve_right hk
     rw [hn (i,F i) (cA.2 ⟨hiN,rfl⟩),jx hiN]
   ·rw [if_neg hi,bc fun q hq (e:q.1=i)=>hi (e ▸ hU q hq)]
  simp only at h5 ⊢
  rw [← this];exact h5⟩
theorem Co {A:List (Oid × aw)} {N N':List Oid} {F G:Oid→aw} {Bs:List Bk} (hA:∀ a ∈ A,a.1 ∉ N') (hB:∀ B ∈ Bs,DJ N B.1):∀ i o,Mem.blk A ((N',G)::Bs) i=some o→((Mem.blk A ((N,F)::Bs)).aI (sbx N' G)) i=some o:=by
 intro i o h
 unfold sbx
 rw [dV]
 have hBs:∀ Cs:List Bk,(∀ B ∈ Cs,DJ N B.1)→∀ o,Mem.blk [] Cs i=some o→i ∉ N:=by
  intro Cs
  induction Cs with
  | nil=>intro _ o h;cases h
  | cons C Cs ih =>
   obtain ⟨M,E⟩:=C
   intro hC o h
   rw [bG] at h
   split at h
   ·rename_i hm;exact fun hi=>hC (M,E) List.mem_cons_self i hi hm
   ·exact ih (fun B hB=>hC B (List.mem_cons_of_mem _ hB)) o h
 induction A with
 | nil =>
  rw [bG] at h ⊢
  split at h
  ·rename_i hi;rw [if_pos hi];exact h
  ·rename_i hi;rw [if_neg hi,if_neg (hBs Bs hB o h)];exact h
 | cons a A ih =>
  rw [Mem.gW] at h ⊢
  split at h
  ·rename_i e
   rw [if_neg (by rw [e];exact hA a List.mem_cons_self),if_pos e];exact h
  ·rename_i e
   have:=ih (fun a ha=>hA a (List.mem_cons_of_mem _ ha)) h
   rw [if_neg e];exact this
theorem Ku {P:Program} [Laid P] {x:Ctx} {n:Nat} {a:Code} {Q:AX→AS→Prop} {fr:List (Nat × AV)} {c:Nat} {ds:List AD} {A:List (Oid × aw)} {N N':List Oid} {F G:Oid→aw} {Bs:List Bk} (hA:∀ a ∈ A,a.1 ∉ N') (hB:∀ B ∈ Bs,DJ N B.1)
  (h:T P x n a ⟨fr,Mem.blk A ((N',G)::Bs),c,ds⟩ Q):T P x n a ⟨fr,(Mem.blk A ((N,F)::Bs)).aI (sbx N' G),c,ds⟩ Q:=l4 _ (Co hA hB) h
attribute [go_sem] Mem.gW tV sc se sd lz Ci y6 xh rX GF GG GH GI Mem.Cg vK oR Cl
end Go.Ab
namespace Go.Ab
theorem ks {p e:Prop} (e1:e) (h:e→p:=by intro e;simp (disch:=first|omega|assumption) only [go_sem,eq_self,decide_true,decide_false,ne_eq,not_true_eq_false,not_false_eq_true,uu hpp,hpN,hO,e];first|done|fail):p:=h e1
theorem ks0 {p:Prop} (h:p:=by simp (disch:=first|omega|assumption) only [go_sem,eq_self,decide_true,decide_false,ne_eq,not_true_eq_false,not_false_eq_true,uu hpp,hpN,hO];first|done|fail):p:=h
theorem kt {p q e:Prop} (e1:e) (k:q) (h:e→iL q→p:=by intro e k;refine qt (ai (uu hpp) (ai hpN (ai hO e))) ?_;exact k.out):p:=h e1 ⟨k⟩
theorem kw {p q e:Prop} (e1:e) (k:q) (h:e→iL q→p:=by intro e k;refine qw (ai (uu hpp) (ai hpN (ai hO e))) ?_;exact k.out):p:=h e1 ⟨k⟩
theorem kw0 {p q:Prop} (k:q) (h:iL q→p:=by intro k;refine qw (ai (uu hpp) (ai hpN (ai hO trivial))) ?_;exact k.out):p:=h ⟨k⟩
theorem kn {p e:Prop} (e1:e) (h:e→p:=by intro e;first|(intro _ h;cases h;done)|exact nbu _|(refine nbA ?_ _;simp [hpN,hO.mem];done)|(refine nbA ?_ _;simp [hwN,hpN,hO.mem];done)|exact ks e|(simp only [List.mem_cons,forall_eq_or_imp];refine ⟨ks e,?_⟩;first|exact nbu _|(refine nbA ?_ _;simp [hpN,hO.mem];done)|(refine nbA ?_ _;simp [hwN,hpN,hO.mem];done))|(simp only [List.mem_cons,forall_eq_or_imp];refine ⟨ks e,ks e,?_⟩;first|exact nbu _|(refine nbA ?_ _;simp [hpN,hO.mem];done)|(refine nbA ?_ _;simp [hwN,hpN,hO.mem];done))):p:=h e1
theorem km {p c:Prop} (c1:c) (h:c→p:=by intro c;first|exact c|exact c (ax rfl hp)|exact c _ (ax rfl hp) (fun h=>hpp (Oid.ae h)) (hO.sub _ _)|exact c _ (ax rfl hp) (hO.sub _ _)|exact dL.ok (c _ (ax rfl hp) (fun h=>hpp (Oid.ae h)) (hO.sub _ _)) rfl):p:=h c1
theorem kr {p q e c:Prop} {U gl:List (Nat × Nat)} {ts:List Nat} (g:HD U gl ts) (e1:e) (c1:c) (k:q) (h:HD U gl ts→e→c→iL q→p:=by
  intro g e c k;(try refine qv ?_)
  refine BC g hng (by kernel_rfl) fun hf C S K hC1 hC hS hK=>?_;refine kt e ?_
  repeat (obtain ⟨c1,c⟩:CC _ _:=c;refine hC1 _ (km c1) (kn e) ?_;refine kt e ?_)
  refine hK ?_;clear hK hS hC hC1 K S C hf;(try refine qv ?_)
  exact k.out):p:=h g e1 c1 ⟨k⟩
theorem kd {p q e c:Prop} {U gl:List (Nat × Nat)} {ts:List Nat} (g:HD U gl ts) (e1:e) (c1:c) (k:q) (h:HD U gl ts→e→c→iL q→p:=by
  intro g e c k;(try refine qv ?_)
  refine vB g mixed hng (by kernel_rfl) fun hf C S K hC hS hK=>?_;refine kt e ?_
  repeat (obtain ⟨c1,c⟩:CC _ _:=c;refine hC _ (km c1) (kn e) ?_;refine kt e ?_)
  (first|refine hK (aV rfl) ?_|refine hK (by simp (disch:=first|omega|assumption) only [go_sem,List.reverse_cons,List.reverse_nil,ne_eq,not_false_eq_true,implies_true]) ?_);clear hK hS hC K S C hf;(try refine qv ?_)
  exact k.out):p:=h g e1 c1 ⟨k⟩
theorem kr0 {p q:Prop} (k:q) (h:iL q→p:=by intro k;refine kr .o trivial trivial ?_;exact k.out):p:=h ⟨k⟩
theorem kr1 {p q c:Prop} (c1:c) (k:q) (h:c→iL q→p:=by intro c k;refine kr .o trivial (cq c trivial) ?_;exact k.out):p:=h c1 ⟨k⟩
theorem ms {p e:Prop} (e1:e) (h:e→p:=by intro e;simp (disch:=first|omega|assumption) only [go_sem,eq_self,decide_true,decide_false,ne_eq,not_true_eq_false,not_false_eq_true,Q,hdj,hON,hOM,e];first|done|fail):p:=h e1
theorem mt {p q e:Prop} (e1:e) (k:q) (h:e→iL q→p:=by intro e k;refine qt (ai Q (ai hdj (ai hON (ai hOM e)))) ?_;exact k.out):p:=h e1 ⟨k⟩
theorem mn {p e:Prop} (e1:e) (h:e→p:=by intro e;first|(intro _ h;cases h;done)|exact nq _|(refine p5 ?_ _;simp [hyN,hpN,hqN,hON.mem];done)|(refine Hy ?_ hdj _;simp [hyM,hpM,hqM,hOM.mem];done)|exact ms e|(simp only [List.mem_cons,forall_eq_or_imp];refine ⟨ms e,?_⟩;first|exact nq _|(refine p5 ?_ _;simp [hyN,hpN,hqN,hON.mem];done)|(refine Hy ?_ hdj _;simp [hyM,hpM,hqM,hOM.mem];done))):p:=h e1
theorem mm {p c:Prop} (c1:c) (h:c→p:=by intro c;first|exact c|exact c (ax rfl hp)|exact c _ (ax rfl hp) (fun h=>hpp (Oid.ae h)) (hON.sub _ _)|exact c _ (ax rfl hp) (fun h=>hqq (Oid.ae h)) (hOM.sub _ _)):p:=h c1
theorem mr {p q e c:Prop} {U gl:List (Nat × Nat)} {ts:List Nat} (g:HD U gl ts) (e1:e) (c1:c) (k:q) (h:HD U gl ts→e→c→iL q→p:=by
  intro g e c k;(try refine qv ?_)
  refine BC g hng (by kernel_rfl) fun hf C S K hC1 hC hS hK=>?_;refine mt e ?_
  repeat (obtain ⟨c1,c⟩:CC _ _:=c;refine hC1 _ (mm c1) (mn e) ?_;refine mt e ?_)
  refine hK ?_;clear hK hS hC hC1 K S C hf;(try refine qv ?_)
  exact k.out):p:=h g e1 c1 ⟨k⟩
theorem md {p q e c:Prop} {U gl:List (Nat × Nat)} {ts:List Nat} (g:HD U gl ts) (e1:e) (c1:c) (k:q) (h:HD U gl ts→e→c→iL q→p:=by
  intro g e c k;(try refine qv ?_)
  refine vB g mixed hng (by kernel_rfl) fun hf C S K hC hS hK=>?_;refine mt e ?_
  repeat (obtain ⟨c1,c⟩:CC _ _:=c;refine hC _ (mm c1) (mn e) ?_;refine mt e ?_)
  (first|refine hK (aV rfl) ?_|refine hK (by simp (disch:=first|omega|assumption) only [go_sem,List.reverse_cons,List.reverse_nil,ne_eq,not_false_eq_true,implies_true]) ?_);clear hK hS hC K S C hf;(try refine qv ?_)
  exact k.out):p:=h g e1 c1 ⟨k⟩
theorem kx0 {p:Prop} (h:p:=by exact mq (z:=0) (e:=_) (eW (by omega)).2.1 (by show _=some _;exact ks0) (by simp (disch:=first|omega|assumption) only [go_sem,eq_self,decide_true,decide_false,ne_eq,not_true_eq_false,not_false_eq_true,uu hpp,hpN,hO,dI,dK,dP,rdV,lsV,fnV,rdS,rdB,rdL,cdN,Bits.no]) (by show _=some _;exact ks0) (by first|exact nbu _|(refine nbA ?_ _;simp [hpN,hO.mem];done)|(refine nbA ?_ _;simp [hwN,hpN,hO.mem];done)) ks0 hO.mem):p:=h
theorem kx1 {p:Prop} (h:p:=by exact mq (z:=0) (e:=_) (eW (by omega)).1 (by show _=some _;exact ks0) (by simp (disch:=first|omega|assumption) only [go_sem,eq_self,decide_true,decide_false,ne_eq,not_true_eq_false,not_false_eq_true,uu hpp,hpN,hO,dI,dK,dP,rdV,lsV,fnV,rdS,rdB,rdL,cdN,Bits.no]) (by show _=some _;exact ks0) (by first|exact nbu _|(refine nbA ?_ _;simp [hpN,hO.mem];done)|(refine nbA ?_ _;simp [hwN,hpN,hO.mem];done)) ks0 hO.mem):p:=h
theorem kx2 {p:Prop} (h:p:=by exact mq (z:=0) (e:=_) (eW (by omega)).2.2 (by show _=some _;exact ks0) (by simp (disch:=first|omega|assumption) only [go_sem,eq_self,decide_true,decide_false,ne_eq,not_true_eq_false,not_false_eq_true,uu hpp,hpN,hO,dI,dK,dP,rdV,lsV,fnV,rdS,rdB,rdL,cdN,Bits.no]) (by show _=some _;exact ks0) (by first|exact nbu _|(refine nbA ?_ _;simp [hpN,hO.mem];done)|(refine nbA ?_ _;simp [hwN,hpN,hO.mem];done)) ks0 hO.mem):p:=h
theorem kz0 {p:Prop} (h:p:=by exact aA (pa (z:=0) (eW (by omega)).2.1 (by show _=some _;exact ks0) (by simp (disch:=first|omega|assumption) only [go_sem,eq_self,decide_true,decide_false,ne_eq,not_true_eq_false,not_false_eq_true,uu hpp,hpN,hO,dI,dK,dP,rdV,lsV,fnV,rdS,rdB,rdL,cdN,Bits.no]) (by show _=some _;exact ks0) (by first|exact nbu _|(refine nbA ?_ _;simp [hpN,hO.mem];done)|(refine nbA ?_ _;simp [hwN,hpN,hO.mem];done)))):p:=h
theorem kz1 {p:Prop} (h:p:=by exact aA (pa (z:=0) (eW (by omega)).1 (by show _=some _;exact ks0) (by simp (disch:=first|omega|assumption) only [go_sem,eq_self,decide_true,decide_false,ne_eq,not_true_eq_false,not_false_eq_true,uu hpp,hpN,hO,dI,dK,dP,rdV,lsV,fnV,rdS,rdB,rdL,cdN,Bits.no]) (by show _=some _;exact ks0) (by first|exact nbu _|(refine nbA ?_ _;simp [hpN,hO.mem];done)|(refine nbA ?_ _;simp [hwN,hpN,hO.mem];done)))):p:=h
theorem kz2 {p:Prop} (h:p:=by exact aA (pa (z:=0) (eW (by omega)).2.2 (by show _=some _;exact ks0) (by simp (disch:=first|omega|assumption) only [go_sem,eq_self,decide_true,decide_false,ne_eq,not_true_eq_false,not_false_eq_true,uu hpp,hpN,hO,dI,dK,dP,rdV,lsV,fnV,rdS,rdB,rdL,cdN,Bits.no]) (by show _=some _;exact ks0) (by first|exact nbu _|(refine nbA ?_ _;simp [hpN,hO.mem];done)|(refine nbA ?_ _;simp [hwN,hpN,hO.mem];done)))):p:=h
theorem kp0 {p e c d:Prop} (e1:e) (c1:c) (d1:d) (h:e→c→d→p:=by
  intro e c d;(try refine qv ?_)
  refine aj nmd [] hng (by kernel_rfl) fun hf C S K hC1 hC hS hK=>?_;refine kt e ?_
  repeat (obtain ⟨c1,c⟩:CC _ _:=c;refine hC1 _ (km c1) (kn e) ?_;refine kt e ?_)
  apply hC;(first|exact d|exact dL.pn (d _ (ax rfl hp) (fun h=>hpp (Oid.ae h)) (hO.sub _ _)) rfl);exact kn e;exact (fun _ _ h=>h.elim)
  rintro _ _ ⟨rfl,rfl⟩
  exact kx0):p:=h e1 c1 d1
theorem kp1 {p e c d:Prop} (e1:e) (c1:c) (d1:d) (h:e→c→d→p:=by
  intro e c d;(try refine qv ?_)
  refine aj nmd [] hng (by kernel_rfl) fun hf C S K hC1 hC hS hK=>?_;refine kt e ?_
  repeat (obtain ⟨c1,c⟩:CC _ _:=c;refine hC1 _ (km c1) (kn e) ?_;refine kt e ?_)
  apply hC;(first|exact d|exact dL.pn (d _ (ax rfl hp) (fun h=>hpp (Oid.ae h)) (hO.sub _ _)) rfl);exact kn e;exact (fun _ _ h=>h.elim)
  rintro _ _ ⟨rfl,rfl⟩
  exact kx1):p:=h e1 c1 d1
end Go.Ab
namespace Go.Proofs.YtfbnaalhioogoaaGreatDoor
open Go Go.Ab
set_option maxRecDepth 20000
set_option maxHeartbeats 4000000
def cZ (e:ME):Str:=match e.key with
 | .str s=>s
 | _=>[]
def cF (n k:Str):Option Str:=if gr k (n++[47])=true∧¬ 0≤Lib.indexByte (k.drop (n.length+1)) 47 then some (k.drop (n.length+1)) else none
theorem vL {l l':List (Oid × aw)} {i:Oid} (h:∀ q ∈ l,¬ i=q.1):Mem.of (l++l') i=Mem.of l' i:=by
 induction l with
 | nil=>rfl
 | cons q l ih=>rw [List.cons_append,Mem.ao,if_neg (h q List.mem_cons_self)];exact ih fun q' hq'=>h q' (List.mem_cons_of_mem _ hq')
theorem jW {m:Mem} {B L:List (Oid × aw)} (h1:∀ q,q ∈ B→m q.1=some q.2) (h2:∀ q,q ∈ L→m q.1=some q.2):∀ q,q ∈ B++L→m q.1=some q.2 :=
 fun q hq=>(List.mem_append.1 hq).elim (h1 q) (h2 q)
theorem jy {k:AV} (h:aW [.ss] false k=true):∃ s,k = .str s:=by
 cases k<;>simp [aW,AV.isAgg,AV.cells,fits,fw] at h ⊢
theorem nz {es U:List ME} (hp:es.Pairwise fun e e'=>e.born < e'.born) (hs:∀ e ∈ U,e ∈ es) (hn:(U.map (·.born)).Nodup):U.length≤es.length:=by
 have h1:U.Nodup:=List.Pairwise.imp (fun h e=>h (by rw [e])) (List.pairwise_map.1 hn)
 exact h1.length_le_of_subset fun e he=>hs e he
theorem find_born {es:List ME} (hp:es.Pairwise fun e e'=>e.born < e'.born) {e:ME} (he:e ∈ es):es.find? (fun q=>q.born == e.born)=some e:=by
 induction es with
 | nil=>cases he
 | cons a es ih =>
  have h2:=List.pairwise_cons.1 hp
  rcases List.mem_cons.1 he with rfl|he
  ·simp
  ·have:=h2.1 e he
   rw [List.find?_cons_of_neg (by simp;omega)]
   exact ih h2.2 he
theorem y7 (b1 b2 o:Oid) (n:Str) (hln:n.length≤140737488355000) (es:List ME) (clock:Nat) (hkl:∀ e ∈ es,(cZ e).length≤140737488355328) (p:Oid) (hne1:¬ o=b1) (hne2:¬ o=b2) (hne3:¬ b2=b1) (hb1:¬ Oid.under p b1) (hb2:¬ Oid.under p b2) (ho:¬ Oid.under p o) :
  og Tryz.prog 294 [.ptr b1 0,.ptr b2 0] p [(b1,.cells [.map o]),(b2,.cells [.str n]),(o,.map [.ss] false es clock)] 1 (fun pre xs=>pre.length < es.length∧∃ s:Str,xs=[.str s]) (fun b pre=>b=true→∃ U:List ME,U.Perm es∧pre=(U.filterMap fun e=>cF n (cZ e)).map fun s=>[.str s]):=by
 intro l J L0 hJ hdis hnp hY
 refine eA (by kernel_rfl) fun hcon=>?_
 refine gT (n:=32) (rs:=[]) Tryz.func294 rfl rfl (by decide) rfl rfl rfl ?_;rintro x rfl hrd hng
 have hcL:∀ q ∈ L0,Mem.of L0 q.1=some q.2:=fun q hq=>by
  have:=hcon q (List.mem_append_right _ hq)
  rwa [vL fun q' hq'=>hdis q hq q' hq'] at this
 generalize hQ:ez Tryz.prog [] ([(b1,.cells [.map o]),(b2,.cells [.str n]),(o,.map [.ss] false es clock)]++L0) _ _=Q
 refine Ee fun hwf=>?_
 obtain ⟨hw1,hw2⟩:=hwf o [.ss] false es clock (by simp only [aS,a7,Mem.ao,Mem.aG,Mem.aN,Mem.aP,bu,bP,List.cons_append,List.nil_append,List.append_nil,↓reduceIte,eq_self,and_true,true_and,and_self,and_false,false_and,reduceCtorEq,Oid.sub.injEq,Nat.reduceEqDiff,hne1,hne2,hne3,Oid.aa hb1,Oid.aa hb2,Oid.aa ho,Oid.ab hb1,Oid.ab hb2,Oid.ab ho])
 have hstr:∀ e ∈ es,e.key = .str (cZ e):=fun e he=>by
  obtain ⟨s,hs⟩:=jy (hw1 e he).1
  simp only [cZ,hs]
 (try ((first|refine zn ?_|refine ze ?_|refine zk ?_);with_reducible (constructor;repeat constructor));try refine zl ?_)
 refine aj nmd [] hng (by kernel_rfl) fun hf C S K hC1 hC hS hK=>?_;simp (disch:=first|omega|assumption) only [go_sem,hne1,hne2,hne3,Oid.aa hb1,Oid.aa hb2,Oid.aa ho,Oid.ab hb1,Oid.ab hb2,Oid.ab ho,aK]
 refine hK ?_;clear hK hS hC hC1 K S C hf
 (try ((first|refine zn ?_|refine ze ?_|refine zk ?_);with_reducible (constructor;repeat constructor));try refine zl ?_)
 have hn0:∀ q ∈ L0,¬ q.1=b1∧¬ q.1=b2∧¬ q.1=o∧¬ q.1 = .sub 0 1 x.p:=fun q hq=>⟨hdis q hq _ List.mem_cons_self,hdis q hq _ (List.mem_cons_of_mem _ List.mem_cons_self),hdis q hq _ (List.mem_cons_of_mem _ (List.mem_cons_of_mem _ List.mem_cons_self)),fun e=>hnp q hq (e ▸ Oid.ae (Oid.az _))⟩
 refine kh ([(b1,.cells [.map o]),(b2,.cells [.str n]),(o,.map [.ss] false es clock),(.sub 0 1 x.p,.iter (some o) clock [] clock)]++L0) (jW ?_ ?_) ?_
 ·simp only [aS,a7,Mem.ao,Mem.aG,Mem.aN,Mem.aP,bu,bP,List.cons_append,List.nil_append,List.append_nil,↓reduceIte,eq_self,and_true,true_and,and_self,and_false,false_and,reduceCtorEq,Oid.sub.injEq,Nat.reduceEqDiff,hne1,hne2,hne3,Oid.aa hb1,Oid.aa hb2,Oid.aa ho,Oid.ab hb1,Oid.ab hb2,Oid.ab ho,aK]
 ·intro q hq
  obtain ⟨a1,a2,a3,a4⟩:=hn0 q hq
  simp only [aS,a7,Mem.ao,Mem.aG,Mem.aN,Mem.aP,bu,bP,List.cons_append,List.nil_append,List.append_nil,↓reduceIte,eq_self,and_true,true_and,and_self,and_false,false_and,reduceCtorEq,Oid.sub.injEq,Nat.reduceEqDiff,aK,a1,a2,a3,a4]
  exact hcL q hq
 refine bm [0,1,2,8] (fun q s'=>∃ (c:Nat) (U:List ME) (L:List (Oid × aw)),s' = ⟨[(0,.fn (.yield l) [] []),(1,.ptr b1 0),(2,.ptr b2 0),(8,.iter (.sub 0 1 x.p))],Mem.of ([(b1,.cells [.map o]),(b2,.cells [.str n]),(o,.map [.ss] false es clock),(.sub 0 1 x.p,.iter (some o) clock (U.map ME.born) clock)]++L),c,[]⟩∧0 < c∧q=es.length - U.length∧(U.map ME.born).Nodup∧(∀ e ∈ U,e ∈ es)∧J true ((U.filterMap fun e=>cF n (cZ e)).map fun s=>[.str s]) L ∧
  (∀ q ∈ L,Mem.of L q.1=some q.2)∧∀ q ∈ L,((∃ q' ∈ L0,q'.1=q.1)∨Oid.under x.p q.1)∧¬ q.1=b1∧¬ q.1=b2∧¬ q.1=o∧¬ q.1 = .sub 0 1 x.p∧∀ d j,c≤d→¬ Oid.under (.sub d j x.p) q.1) es.length ⟨_,[],L0,rfl,by omega,rfl,List.nodup_nil,fun i h=>(by cases h),hJ,hcL,fun q hq=>⟨.inl ⟨q,hq,rfl⟩,(hn0 q hq).1,(hn0 q hq).2.1,(hn0 q hq).2.2.1,(hn0 q hq).2.2.2,fun d j _ h=>hnp q hq (Oid.ae h)⟩⟩ ?_
 rintro q s' ⟨c,U,L,rfl,hc,rfl,hnd,hlt,hj,hcc,hnm⟩
 have hst:U.map ME.born=[]∨es=[]∨∃ e ∈ es,e.born < clock:=by
  cases U with
  | nil=>exact .inl rfl
  | cons e _=>exact .inr (.inr ⟨e,hlt e List.mem_cons_self,(hw1 e (hlt e List.mem_cons_self)).2⟩)
 (try ((first|refine zn ?_|refine ze ?_|refine zk ?_);with_reducible (constructor;repeat constructor));try refine zl ?_)
 refine aj nmd [] hng (by kernel_rfl) fun hf C S K hC1 hC hS hK=>?_;simp (disch:=first|omega|assumption) only [go_sem]
 refine hS _ _ _ (fun o' hd ho'=>nw (it:=.sub 0 1 x.p) (id:=o) (since:=clock) (ks:=[.ss]) (ag:=false) (clock:=clock) ho' rfl hst) ?_ ?_ (fun _ _ h=>h.elim)
 ·simp only [aS,a7,Mem.ao,Mem.aG,Mem.aN,Mem.aP,bu,bP,List.cons_append,List.nil_append,List.append_nil,↓reduceIte,eq_self,and_true,true_and,and_self,and_false,false_and,reduceCtorEq,Oid.sub.injEq,Nat.reduceEqDiff,hne1,hne2,hne3,Oid.aa hb1,Oid.aa hb2,Oid.aa ho,Oid.ab hb1,Oid.ab hb2,Oid.ab ho]
 rintro val upd (⟨e,he,hns,rfl,rfl⟩|⟨hall,rfl,rfl⟩)
 ·have hfi:=find_born hw2 he
  have hk:=hstr e he
  have hkl1:=hkl e he
  have hnd':((U++[e]).map ME.born).Nodup:=by
   rw [List.map_append]
   exact List.nodup_append.2 ⟨hnd,by simp,fun a ha b hb' e'=>by simp at hb';subst hb';subst e';exact hns ha⟩
  have hlt':∀ j ∈ U++[e],j ∈ es:=fun j hj=>by
   rcases List.mem_append.1 hj with hj|hj
   ·exact hlt j hj
   ·simp at hj;subst hj;exact he
  have hle:=nz hw2 hlt' hnd'
  have hfm:(U.filterMap fun e=>cF n (cZ e)).length≤U.length:=List.length_filterMap_le ..
  have hrest:((U++[e]).filterMap fun e=>cF n (cZ e))=(U.filterMap fun e=>cF n (cZ e))++(cF n (cZ e)).toList:=by
   rw [List.filterMap_append];congr 1
  generalize cZ e=s at *
  simp (disch:=first|omega|assumption) only [go_sem,hne1,hne2,hne3,Oid.aa hb1,Oid.aa hb2,Oid.aa ho,Oid.ab hb1,Oid.ab hb2,Oid.ab ho,aK,hk]
  refine hK ?_;clear hK hS hC hC1 K S C hf
  (repeat (first|(refine aq rfl rfl ?_)|(refine ar rfl rfl ?_)|(refine aj nmd [] hng (by kernel_rfl) fun hf C S K hC1 hC hS hK=>?_;simp (disch:=first|omega|assumption) only [go_sem];refine hK ?_;clear hK hS hC hC1 K S C hf)|((first|refine zv ?_|refine zw ?_|refine zu ?_);with_reducible (constructor;repeat constructor);try refine zl ?_)))
  refine gI ?_
  (repeat (first|(refine aq rfl rfl ?_)|(refine ar rfl rfl ?_)|(refine aj nmd [] hng (by kernel_rfl) fun hf C S K hC1 hC hS hK=>?_;simp (disch:=first|omega|assumption) only [go_sem];refine hK ?_;clear hK hS hC hC1 K S C hf)|((first|refine zv ?_|refine zw ?_|refine zu ?_);with_reducible (constructor;repeat constructor);try refine zl ?_)))
  refine aj nmd [] hng (by kernel_rfl) fun hf C S K hC1 hC hS hK=>?_;simp (disch:=first|omega|assumption) only [go_sem,hne1,hne2,hne3,Oid.aa hb1,Oid.aa hb2,Oid.aa ho,Oid.ab hb1,Oid.ab hb2,Oid.ab ho,aK,hfi,hk,List.getLast?_concat]
  refine hK ?_;clear hK hS hC hC1 K S C hf
  (repeat (first|(refine aq rfl rfl ?_)|(refine ar rfl rfl ?_)|(refine aj nmd [] hng (by kernel_rfl) fun hf C S K hC1 hC hS hK=>?_;simp (disch:=first|omega|assumption) only [go_sem];refine hK ?_;clear hK hS hC hC1 K S C hf)|((first|refine zv ?_|refine zw ?_|refine zu ?_);with_reducible (constructor;repeat constructor);try refine zl ?_)))
  refine aj nmd [] hng (by kernel_rfl) fun hf C S K hC1 hC hS hK=>?_;simp (disch:=first|omega|assumption) only [go_sem,hne1,hne2,hne3,Oid.aa hb1,Oid.aa hb2,Oid.aa ho,Oid.ab hb1,Oid.ab hb2,Oid.ab ho,aK]
  refine hC1 _ (lx s (n++[47]) (by omega) (by simp only [List.length_append,List.length_cons,List.length_nil];omega) _) qs0 ?_
  simp (disch:=first|omega|assumption) only [go_sem]
  refine hK ?_;clear hK hS hC hC1 K S C hf
  have hnm2:∀ q ∈ L,((∃ q' ∈ L0,q'.1=q.1)∨Oid.under x.p q.1)∧¬ q.1=b1∧¬ q.1=b2∧¬ q.1=o∧¬ q.1 = .sub 0 1 x.p∧∀ d j,c+4≤d→¬ Oid.under (.sub d j x.p) q.1:=fun q hq=>by
   obtain ⟨a0,a1,a2,a3,a4,a5⟩:=hnm q hq
   exact ⟨a0,a1,a2,a3,a4,fun d j hd=>a5 d j (by omega)⟩
  have hnL:∀ q ∈ L,∀ q' ∈ ([(b1,.cells [.map o]),(b2,.cells [.str n]),(o,.map [.ss] false es clock),(.sub 0 1 x.p,.iter (some o) clock (U.map ME.born++[e.born]) clock)]:List (Oid × aw)),¬ q.1=q'.1:=fun q hq=>by
   obtain ⟨_,a1,a2,a3,a4,a5⟩:=hnm q hq
   simp only [aS,a7,Mem.ao,Mem.aG,Mem.aN,Mem.aP,bu,bP,List.cons_append,List.nil_append,List.append_nil,↓reduceIte,eq_self,and_true,true_and,and_self,and_false,false_and,reduceCtorEq,Oid.sub.injEq,Nat.reduceEqDiff,a1,a2,a3,a4,not_false_eq_true]
  have hBm:∀ q ∈ ([(b1,.cells [.map o]),(b2,.cells [.str n]),(o,.map [.ss] false es clock),(.sub 0 1 x.p,.iter (some o) clock (U.map ME.born++[e.born]) clock)]:List (Oid × aw)),Mem.of ([(b1,.cells [.map o]),(b2,.cells [.str n]),(o,.map [.ss] false es clock),(.sub 0 1 x.p,.iter (some o) clock (U.map ME.born++[e.born]) clock)]++L) q.1=some q.2:=by
   simp only [aS,a7,Mem.ao,Mem.aG,Mem.aN,Mem.aP,bu,bP,List.cons_append,List.nil_append,List.append_nil,↓reduceIte,eq_self,and_true,true_and,and_self,and_false,false_and,reduceCtorEq,Oid.sub.injEq,Nat.reduceEqDiff,hne1,hne2,hne3,Oid.aa hb1,Oid.aa hb2,Oid.aa ho,Oid.ab hb1,Oid.ab hb2,Oid.ab ho]
  have hall:=eH hBm hnL hcc
  have hmm:(U++[e]).map ME.born=U.map ME.born++[e.born]:=by simp
  have hlen2:(U++[e]).length=U.length+1:=by simp
  by_cases hp:gr s (n++[47])=true
  ·by_cases hq:0≤Lib.indexByte (s.drop (n.length+1)) 47
   ·have hro:cF n s=none:=if_neg fun h=>h.2 hq
    (repeat (first|(refine aq rfl rfl ?_)|(refine ar rfl rfl ?_)|(refine aj nmd [] hng (by kernel_rfl) fun hf C S K hC1 hC hS hK=>?_;simp (disch:=first|omega|assumption) only [go_sem];refine hK ?_;clear hK hS hC hC1 K S C hf)|((first|refine zv ?_|refine zw ?_|refine zu ?_);with_reducible (constructor;repeat constructor);try refine zl ?_)))
    refine aj nmd [(1,21),(6,26)] hng (by kernel_rfl) fun hf C S K hC1 hC hS hK=>?_;simp (disch:=first|omega|assumption) only [go_sem,hp]
    refine hC1 _ (mQ (s.drop (n.length+1)) 47 _) qs0 ?_
    simp (disch:=first|omega|assumption) only [go_sem,hq]
    refine hK ?_;clear hK hS hC hC1 K S C hf
    refine qw0 ?_
    refine ⟨_,Mem.of ([(b1,.cells [.map o]),(b2,.cells [.str n]),(o,.map [.ss] false es clock),(.sub 0 1 x.p,.iter (some o) clock (U.map ME.born++[e.born]) clock)]++L),?_,iK hall,c+1+1+1+1,U++[e],L,by rw [hmm];rfl,by omega,rfl,hnd',hlt',?_,hcc,hnm2⟩
    ·rw [hlen2] at hle ⊢;omega
    ·rw [hrest,hro];simpa using hj
   ·have hro:cF n s=some (s.drop (n.length+1)):=if_pos ⟨hp,hq⟩
    (repeat (first|(refine aq rfl rfl ?_)|(refine ar rfl rfl ?_)|(refine aj nmd [] hng (by kernel_rfl) fun hf C S K hC1 hC hS hK=>?_;simp (disch:=first|omega|assumption) only [go_sem];refine hK ?_;clear hK hS hC hC1 K S C hf)|((first|refine zv ?_|refine zw ?_|refine zu ?_);with_reducible (constructor;repeat constructor);try refine zl ?_)))
    refine aj nmd [(1,21),(6,26)] hng (by kernel_rfl) fun hf C S K hC1 hC hS hK=>?_;simp (disch:=first|omega|assumption) only [go_sem,hp]
    refine hC1 _ (mQ (s.drop (n.length+1)) 47 _) qs0 ?_
    simp (disch:=first|omega|assumption) only [go_sem,hq]
    generalize hr:s.drop (n.length+1)=r at *
    refine hS _ _ _ (fun o' hd ho'=>lZ ho' rfl (hY _ [.str r] L (.sub (c+1+1+1) 9 x.p) hj rfl ⟨by rw [List.length_map];rw [hlen2] at hle;omega,r,rfl⟩)) (fun q hq=>hall q (List.mem_append_right _ hq)) ?_ (fun _ _ h=>h.elim)
    rintro val upd ⟨b,L',rfl,hj',hU⟩
    have hym:=l5 hU (fun q hq=>hall q (List.mem_append_right _ hq)) hBm ?_
    rotate_left
    ·intro q hq
     refine ⟨fun q' hq'=>hnL q' hq' q hq,fun hu=>?_⟩
     simp only [List.mem_cons,List.not_mem_nil,or_false] at hq
     rcases hq with rfl|rfl|rfl|rfl
     ·exact hb1 (Oid.ae hu)
     ·exact hb2 (Oid.ae hu)
     ·exact ho (Oid.ae hu)
     ·have:=(Oid.apart hu (Oid.az _)).1;omega
    have hcl:∀ q ∈ L',Mem.of L' q.1=some q.2:=fun q hq=>by
     obtain ⟨o',ho'⟩:=Mem.lh hq
     obtain ⟨q',h1,h2,h3⟩:=Mem.dM ho'
     have h4:=hym q (List.mem_append_right _ hq)
     have h5:=hym q' (List.mem_append_right _ h1)
     rw [h2,h4,h3] at h5
     rw [ho'];exact h5.symm
    simp (disch:=first|omega|assumption) only [go_sem]
    refine hK ?_;clear hK hS hC hC1 K S C hf
    (repeat (first|(refine aq rfl rfl ?_)|(refine ar rfl rfl ?_)|(refine aj nmd [] hng (by kernel_rfl) fun hf C S K hC1 hC hS hK=>?_;simp (disch:=first|omega|assumption) only [go_sem];refine hK ?_;clear hK hS hC hC1 K S C hf)|((first|refine zv ?_|refine zw ?_|refine zu ?_);with_reducible (constructor;repeat constructor);try refine zl ?_)))
    refine kh ([(b1,.cells [.map o]),(b2,.cells [.str n]),(o,.map [.ss] false es clock),(.sub 0 1 x.p,.iter (some o) clock (U.map ME.born++[e.born]) clock)]++L') (by rw [← Mem.aN];exact hym) ?_
    have hnm':∀ q ∈ L',((∃ q' ∈ L0,q'.1=q.1)∨Oid.under x.p q.1)∧¬ q.1=b1∧¬ q.1=b2∧¬ q.1=o∧¬ q.1 = .sub 0 1 x.p∧∀ d j,c+1+1+1+1≤d→¬ Oid.under (.sub d j x.p) q.1:=fun q hq=>by
     rcases hU.nam q hq with ⟨q',h1,h2⟩|h1
     ·obtain ⟨a0,a1,a2,a3,a4,a5⟩:=hnm q' h1
      rw [h2] at a0 a1 a2 a3 a4 a5
      exact ⟨a0,a1,a2,a3,a4,fun d j hd=>a5 d j (by omega)⟩
     ·have hu:=Oid.ae h1
      refine ⟨.inr hu,fun e=>hb1 (e ▸ hu),fun e=>hb2 (e ▸ hu),fun e=>ho (e ▸ hu),fun e=>?_,fun d j hd h2=>?_⟩
      ·rw [e] at h1;have:=(Oid.apart h1 (Oid.az _)).1;omega
      ·have:=(Oid.apart h1 h2).1;omega
    have hmap:((U++[e]).filterMap fun e=>cF n (cZ e)).map (fun s=>[AV.str s])=((U.filterMap fun e=>cF n (cZ e)).map fun s=>[AV.str s])++[[.str r]]:=by rw [hrest,hro];simp
    have hnL':∀ q ∈ L',∀ q' ∈ ([(b1,.cells [.map o]),(b2,.cells [.str n]),(o,.map [.ss] false es clock),(.sub 0 1 x.p,.iter (some o) clock (U.map ME.born++[e.born]) clock)]:List (Oid × aw)),¬ q.1=q'.1:=fun q hq=>by
     obtain ⟨_,a1,a2,a3,a4,a5⟩:=hnm' q hq
     simp only [aS,a7,Mem.ao,Mem.aG,Mem.aN,Mem.aP,bu,bP,List.cons_append,List.nil_append,List.append_nil,↓reduceIte,eq_self,and_true,true_and,and_self,and_false,false_and,reduceCtorEq,Oid.sub.injEq,Nat.reduceEqDiff,a1,a2,a3,a4,not_false_eq_true]
    have hall':=eH (L:=L') (B:=[(b1,.cells [.map o]),(b2,.cells [.str n]),(o,.map [.ss] false es clock),(.sub 0 1 x.p,.iter (some o) clock (U.map ME.born++[e.born]) clock)]) (fun q hq=>by
     have:=hym q (List.mem_append_left _ hq)
     revert q
     simp only [aS,a7,Mem.ao,Mem.aG,Mem.aN,Mem.aP,bu,bP,List.cons_append,List.nil_append,List.append_nil,↓reduceIte,eq_self,and_true,true_and,and_self,and_false,false_and,reduceCtorEq,Oid.sub.injEq,Nat.reduceEqDiff,hne1,hne2,hne3,Oid.aa hb1,Oid.aa hb2,Oid.aa ho,Oid.ab hb1,Oid.ab hb2,Oid.ab ho,implies_true]) hnL' hcl
    cases b with
    | true =>
     refine qw0 ?_
     rw [← hmap] at hj'
     refine ⟨_,Mem.of ([(b1,.cells [.map o]),(b2,.cells [.str n]),(o,.map [.ss] false es clock),(.sub 0 1 x.p,.iter (some o) clock (U.map ME.born++[e.born]) clock)]++L'),?_,iK hall',c+1+1+1+1,U++[e],L',by rw [hmm];rfl,by omega,rfl,hnd',hlt',hj',hcl,hnm'⟩
     rw [hlen2] at hle ⊢;omega
    | false =>
     refine aq rfl rfl (aA ?_)
     subst hQ
     have hsw:=iJ (L:=[(b1,.cells [.map o]),(b2,.cells [.str n]),(o,.map [.ss] false es clock)]++L0) (L':=[(b1,.cells [.map o]),(b2,.cells [.str n]),(o,.map [.ss] false es clock)]++L') (m:=Mem.of ([(b1,.cells [.map o]),(b2,.cells [.str n]),(o,.map [.ss] false es clock),(.sub 0 1 x.p,.iter (some o) clock (U.map ME.born++[e.born]) clock)]++L')) (sp:=Oid.under x.p) (fun q hq=>hall' q (by
       rcases List.mem_append.1 hq with hq|hq
       ·exact List.mem_append_left _ (by simp only [List.mem_cons,List.not_mem_nil,or_false] at hq ⊢;rcases hq with h|h|h<;>simp [h])
       ·exact List.mem_append_right _ hq)) (fun q hq=>by
       rcases List.mem_append.1 hq with hq|hq
       ·exact .inl ⟨q,List.mem_append_left _ hq,rfl⟩
       ·rcases (hnm' q hq).1 with ⟨q',h1,h2⟩|h
        ·exact .inl ⟨q',List.mem_append_right _ h1,h2⟩
        ·exact .inr h)
     exact bO _ _ rfl ⟨false,_,L',fun h=>(by cases h),hj',hsw.1⟩ hsw.2
  ·have hro:cF n s=none:=if_neg fun h=>hp h.1
   rw [Bool.not_eq_true] at hp
   (repeat (first|(refine aq rfl rfl ?_)|(refine ar rfl rfl ?_)|(refine aj nmd [] hng (by kernel_rfl) fun hf C S K hC1 hC hS hK=>?_;simp (disch:=first|omega|assumption) only [go_sem];refine hK ?_;clear hK hS hC hC1 K S C hf)|((first|refine zv ?_|refine zw ?_|refine zu ?_);with_reducible (constructor;repeat constructor);try refine zl ?_)))
   refine aj nmd [(1,21),(6,26)] hng (by kernel_rfl) fun hf C S K hC1 hC hS hK=>?_;simp (disch:=first|omega|assumption) only [go_sem,hp]
   refine hK ?_;clear hK hS hC hC1 K S C hf
   refine qw0 ?_
   refine ⟨_,Mem.of ([(b1,.cells [.map o]),(b2,.cells [.str n]),(o,.map [.ss] false es clock),(.sub 0 1 x.p,.iter (some o) clock (U.map ME.born++[e.born]) clock)]++L),?_,iK hall,c+1+1+1+1,U++[e],L,by rw [hmm];rfl,by omega,rfl,hnd',hlt',?_,hcc,hnm2⟩
   ·rw [hlen2] at hle ⊢;omega
   ·rw [hrest,hro];simpa using hj
 ·simp (disch:=first|omega|assumption) only [go_sem]
  refine hK ?_;clear hK hS hC hC1 K S C hf
  (try ((first|refine zn ?_|refine ze ?_|refine zk ?_);with_reducible (constructor;repeat constructor));try refine zl ?_)
  subst hQ
  have hfull:=jT hw2 hlt hnd fun e he=>hall e he (hw1 e he).2
  have hnL:∀ q ∈ L,∀ q' ∈ ([(b1,.cells [.map o]),(b2,.cells [.str n]),(o,.map [.ss] false es clock),(.sub 0 1 x.p,.iter (some o) clock (U.map ME.born) clock)]:List (Oid × aw)),¬ q.1=q'.1:=fun q hq=>by
   obtain ⟨_,a1,a2,a3,a4,a5⟩:=hnm q hq
   simp only [aS,a7,Mem.ao,Mem.aG,Mem.aN,Mem.aP,bu,bP,List.cons_append,List.nil_append,List.append_nil,↓reduceIte,eq_self,and_true,true_and,and_self,and_false,false_and,reduceCtorEq,Oid.sub.injEq,Nat.reduceEqDiff,a1,a2,a3,a4,not_false_eq_true]
  have hall':=eH (L:=L) (B:=[(b1,.cells [.map o]),(b2,.cells [.str n]),(o,.map [.ss] false es clock),(.sub 0 1 x.p,.iter (some o) clock (U.map ME.born) clock)]) (by
   simp only [aS,a7,Mem.ao,Mem.aG,Mem.aN,Mem.aP,bu,bP,List.cons_append,List.nil_append,List.append_nil,↓reduceIte,eq_self,and_true,true_and,and_self,and_false,false_and,reduceCtorEq,Oid.sub.injEq,Nat.reduceEqDiff,hne1,hne2,hne3,Oid.aa hb1,Oid.aa hb2,Oid.aa ho,Oid.ab hb1,Oid.ab hb2,Oid.ab ho]) hnL hcc
  have hsw:=iJ (L:=[(b1,.cells [.map o]),(b2,.cells [.str n]),(o,.map [.ss] false es clock)]++L0) (L':=[(b1,.cells [.map o]),(b2,.cells [.str n]),(o,.map [.ss] false es clock)]++L) (m:=Mem.of ([(b1,.cells [.map o]),(b2,.cells [.str n]),(o,.map [.ss] false es clock),(.sub 0 1 x.p,.iter (some o) clock (U.map ME.born) clock)]++L)) (sp:=Oid.under x.p) (fun q hq=>hall' q (by
     rcases List.mem_append.1 hq with hq|hq
     ·exact List.mem_append_left _ (by simp only [List.mem_cons,List.not_mem_nil,or_false] at hq ⊢;rcases hq with h|h|h<;>simp [h])
     ·exact List.mem_append_right _ hq)) (fun q hq=>by
     rcases List.mem_append.1 hq with hq|hq
     ·exact .inl ⟨q,List.mem_append_left _ hq,rfl⟩
     ·rcases (hnm q hq).1 with ⟨q',h1,h2⟩|h
      ·exact .inl ⟨q',List.mem_append_right _ h1,h2⟩
      ·exact .inr h)
  refine ar rfl rfl ?_
  (try ((first|refine zn ?_|refine ze ?_|refine zk ?_);with_reducible (constructor;repeat constructor));try refine zl ?_)
  refine bZ ?_
  exact b8 _ _ rfl ⟨true,_,L,fun _=>⟨U,hfull,rfl⟩,hj,hsw.1⟩ hsw.2
end Go.Proofs.YtfbnaalhioogoaaGreatDoor
namespace Go.Proofs.YtfbnaalhioogoaaGreatDoor
open Go Go.Ab
set_option maxRecDepth 20000
set_option maxHeartbeats 4000000
theorem y8 (t:Nat) (a:AV) (fr:List (Nat × AV)):qj [t] [a] fr=(t,a)::fr:=rfl
theorem xk {P:Program} [Laid P] {x:Ctx} {n:Nat} {a:Code} {Q:AX→AS→Prop} {fr:List (Nat × AV)} {m:Mem} {c:Nat} {ds:List AD} (h:(∀ i,eo x.p c i→m i=none)→T P x n a ⟨fr,m,c,ds⟩ Q):T P x n a ⟨fr,m,c,ds⟩ Q :=
 fun g a w hr=>h hr.fresh g a w hr
theorem HO {P:Program} [Laid P] {x:Ctx} {n:Nat} {a:Code} {Q:AX→AS→Prop} {s:AS} (h:T P x n a s (after P x n Q [])):T P x n a s Q:=ku h fun _ _ h=>h
def vM (l:List Str) (v:AV) (L:List (Oid × aw)) (sp:Oid→Prop):Prop :=
 (l=[]∧v = .nilSl∧L=[])∨(¬ l=[]∧∃ id,v = .sl id 1 l.length∧L=[(id,.arr 1 (l.map .str))]∧sp id)
theorem vM.mono {l:List Str} {v:AV} {L:List (Oid × aw)} {sp sp':Oid→Prop} (h:vM l v L sp) (hs:∀ i,sp i→sp' i):vM l v L sp':=h.imp id fun ⟨a,i,b,c,d⟩=>⟨a,i,b,c,hs i d⟩
theorem sf (gf:FuncId) (cap:List AV) (need:List (Oid × aw)) (N:Nat) (S:Bool→List (List AV)→Prop) (hN:N≤2000000000000) (p:Oid) (hnp:∀ q ∈ need,¬ Oid.under p q.1) (hna:∀ q ∈ need,∀ sz xs,¬ q.2 = .arr sz xs)
  (hseq:∀ p',Oid.under p p'→og Tryz.prog gf cap p' need 1 (fun pre xs=>pre.length < N∧∃ h:Str,xs=[.str h]) S) :
  bV Tryz.prog 247 [.nilSl,.fn (.func gf) [] cap] (Oid.under p) need (fun v u=>∃ l L',S true (l.map fun h=>[.str h])∧vM l v L' (Oid.under p)∧u=ll L') (fun _ _=>False):=by
 refine eA (by kernel_rfl) fun hcon=>?_
 refine gT (n:=13) (rs:=[.tmp 4]) Tryz.func247 rfl rfl (by decide) rfl rfl rfl ?_;rintro x rfl hrd hng
 have hnb:∀ q ∈ need,¬ q.1 = .sub 0 0 x.p:=fun q hq e=>hnp q hq (e ▸ Oid.ae (Oid.az _))
 generalize hQ:ez Tryz.prog _ need _ _=Q
 (try ((first|refine zn ?_|refine ze ?_|refine zk ?_);with_reducible (constructor;repeat constructor));try refine zl ?_)
 refine aj nmd [] hng (by kernel_rfl) fun hf C S K hC1 hC hS hK=>?_;simp (disch:=first|omega|assumption) only [go_sem,aK]
 refine hK ?_;clear hK hS hC hC1 K S C hf
 refine qw0 ?_
 refine tn (S:=S) hrd hng (by decide) rfl rfl (hseq _ (Oid.ae (Oid.az _))) ?_
  (fun jump pre L=>jump=none∧∃ (l:List Str) (v:AV) (L1:List (Oid × aw)),pre=l.map (fun h=>[.str h])∧vM l v L1 (fun id=>¬ id = .sub 0 0 x.p)∧L=(.sub 0 0 x.p,.cells [v])::L1)
  [(.sub 0 0 x.p,.cells [.nilSl])] ⟨rfl,[],.nilSl,[],rfl,.inl ⟨rfl,rfl,rfl⟩,rfl⟩ ?_ ?_
  (fun _ xs L1 p' s=>∃ h:Str,xs=[.str h]∧F s.fr 5 = .str h∧F s.fr 2 = .ptr (.sub 0 0 x.p) 0∧(∀ q,q ∈ L1→s.mem q.1=some q.2)∧s.ds=[]∧0 < s.c∧¬ p' = x.p) ?_ ?_ ?_ ?_
 ·intro q hq
  rw [aK,if_neg (hnb q hq)];exact hcon q hq
 ·intro q hq
  simp only [List.mem_singleton] at hq
  subst hq
  rw [aK,if_pos rfl]
 ·intro q hq q' hq' e
  simp only [List.mem_singleton] at hq
  subst hq
  exact hnb q' hq' e.symm
 ·rintro y l0 pre xs L1 ⟨_,l,v,L2,rfl,hr,rfl⟩ _ ⟨hlen,h,rfl⟩ hyr hyg
  refine HO (xk fun hf=>?_)
  replace hng:=hyg
  have hfy:=hf (.sub 0 0 y.p) ⟨0,0,Nat.le_refl _,Oid.az _⟩
  have hb:¬ Oid.sub 0 0 y.p = .sub 0 0 x.p:=fun e=>by rw [e] at hfy;simp [Mem.ao] at hfy
  have hb2:¬ y.p=x.p:=fun e=>hb (by rw [e])
  generalize hrest:L2=rest at hfy ⊢
  rw [Mem.ao,if_neg hb] at hfy
  have hdis:∀ q ∈ L2,¬ q.1 = .sub 0 0 x.p∧Mem.of L2 q.1=some q.2:=by
   rcases hr with ⟨_,_,rfl⟩|⟨_,id,_,rfl,hid⟩
   ·intro q hq;cases hq
   ·intro q hq
    simp only [List.mem_singleton] at hq
    subst hq
    exact ⟨hid,by simp [Mem.ao]⟩
  refine aj nmd [] hng (by kernel_rfl) fun hf C S K hC1 hC hS hK=>?_;simp (disch:=first|omega|assumption) only [go_sem,aK,hb2,y8]
  refine hK ?_;clear hK hS hC hC1 K S C hf
  refine bZ ⟨rfl,h,rfl,rfl,rfl,?_,rfl,by simp,hb2⟩
  refine jW (B:=[(.sub 0 0 x.p,.cells [v])]) ?_ ?_
  ·simp only [aS,a7,Mem.ao,Mem.aG,Mem.aN,Mem.aP,bu,bP,List.cons_append,List.nil_append,List.append_nil,↓reduceIte,eq_self,and_true,true_and,and_self,and_false,false_and,reduceCtorEq,Oid.sub.injEq,Nat.reduceEqDiff,aK,hb2,AV.cells]
  ·intro q hq
   subst hrest
   obtain ⟨a2,a3⟩:=hdis q hq
   simp only [aS,a7,Mem.ao,Mem.aG,Mem.aN,Mem.aP,bu,bP,List.cons_append,List.nil_append,List.append_nil,↓reduceIte,eq_self,and_true,true_and,and_self,and_false,false_and,reduceCtorEq,Oid.sub.injEq,Nat.reduceEqDiff,aK,hb2,a2]
   exact a3
 ·rintro y l0 pre xs L1 ⟨fr,m,c,ds⟩ ⟨_,l,v,L2,rfl,hr,rfl⟩ _ ⟨hlen,_,_⟩ hyr hyg ⟨h,rfl,h5,h2,hm,rfl,hc,hb2⟩
  simp only at h5 h2 hm hc
  refine HO (MI [(5,.str h),(2,.ptr (.sub 0 0 x.p) 0)] rfl (by simp [h5,h2]) (kh _ hm (xk fun hf=>?_)))
  replace hng:=hyg
  have hfy:∀ j,Mem.of ((Oid.sub 0 0 x.p,aw.cells [v])::L2) (.sub c j y.p)=none:=fun j=>hf _ ⟨c,j,Nat.le_refl _,Oid.az _⟩
  clear hf
  have hb3:¬ x.p=y.p:=fun e=>hb2 e.symm
  rcases hr with ⟨rfl,rfl,rfl⟩|⟨hl,id,rfl,rfl,hid⟩
  ·(repeat (first|(refine aq rfl rfl ?_)|(refine ar rfl rfl ?_)|(refine aj nmd [] hng (by kernel_rfl) fun hf C S K hC1 hC hS hK=>?_;simp (disch:=first|omega|assumption) only [go_sem];refine hK ?_;clear hK hS hC hC1 K S C hf)|((first|refine zv ?_|refine zw ?_|refine zu ?_);with_reducible (constructor;repeat constructor);try refine zl ?_)))
   refine gI ?_
   (repeat (first|(refine aq rfl rfl ?_)|(refine ar rfl rfl ?_)|(refine aj nmd [] hng (by kernel_rfl) fun hf C S K hC1 hC hS hK=>?_;simp (disch:=first|omega|assumption) only [go_sem];refine hK ?_;clear hK hS hC hC1 K S C hf)|((first|refine zv ?_|refine zw ?_|refine zu ?_);with_reducible (constructor;repeat constructor);try refine zl ?_)))
   refine aj nmd [] hng (by kernel_rfl) fun hf C S K hC1 hC hS hK=>?_;simp (disch:=first|omega|assumption) only [go_sem,aK,hb2,hb3,lp]
   refine hK ?_;clear hK hS hC hC1 K S C hf
   (try ((first|refine zn ?_|refine ze ?_|refine zk ?_);with_reducible (constructor;repeat constructor));try refine zl ?_)
   refine bZ ⟨[(.sub 0 0 x.p,.cells [.sl (.sub c 3 y.p) 1 1]),(.sub c 3 y.p,.arr 1 [.str h])],⟨rfl,[h],_,_,rfl,.inr ⟨by simp,.sub c 3 y.p,rfl,rfl,fun e=>by simp at e⟩,rfl⟩,?_,?_⟩
   ·simp only [aS,a7,Mem.ao,Mem.aG,Mem.aN,Mem.aP,bu,bP,List.cons_append,List.nil_append,List.append_nil,↓reduceIte,eq_self,and_true,true_and,and_self,and_false,false_and,reduceCtorEq,Oid.sub.injEq,Nat.reduceEqDiff,hb2,hb3]
   ·intro q hq
    simp only [List.mem_cons,List.not_mem_nil,or_false] at hq
    rcases hq with rfl|rfl
    ·exact .inl ⟨_,List.mem_cons_self,rfl⟩
    ·exact .inr (Oid.ae (Oid.az _))
  ·simp only [List.length_map] at hlen
   have hi1:¬ Oid.sub c 3 y.p=id:=fun e=>by have:=hfy 3;rw [e] at this;simp only [Mem.ao,if_neg hid] at this;simp at this
   have hi2:¬ id=Oid.sub c 3 y.p:=fun e=>hi1 e.symm
   (repeat (first|(refine aq rfl rfl ?_)|(refine ar rfl rfl ?_)|(refine aj nmd [] hng (by kernel_rfl) fun hf C S K hC1 hC hS hK=>?_;simp (disch:=first|omega|assumption) only [go_sem];refine hK ?_;clear hK hS hC hC1 K S C hf)|((first|refine zv ?_|refine zw ?_|refine zu ?_);with_reducible (constructor;repeat constructor);try refine zl ?_)))
   refine gI ?_
   (repeat (first|(refine aq rfl rfl ?_)|(refine ar rfl rfl ?_)|(refine aj nmd [] hng (by kernel_rfl) fun hf C S K hC1 hC hS hK=>?_;simp (disch:=first|omega|assumption) only [go_sem];refine hK ?_;clear hK hS hC hC1 K S C hf)|((first|refine zv ?_|refine zw ?_|refine zu ?_);with_reducible (constructor;repeat constructor);try refine zl ?_)))
   refine aj nmd [] hng (by kernel_rfl) fun hf C S K hC1 hC hS hK=>?_;simp (disch:=first|omega|assumption) only [go_sem,aK,hb2,hb3,hid,hi1,hi2]
   refine hK ?_;clear hK hS hC hC1 K S C hf
   (try ((first|refine zn ?_|refine ze ?_|refine zk ?_);with_reducible (constructor;repeat constructor));try refine zl ?_)
   refine bZ ⟨[(.sub 0 0 x.p,.cells [.sl (.sub c 3 y.p) 1 (l++[h]).length]),(.sub c 3 y.p,.arr 1 ((l++[h]).map .str))],⟨rfl,l++[h],_,_,by simp,.inr ⟨by simp,.sub c 3 y.p,rfl,rfl,fun e=>by simp at e⟩,rfl⟩,?_,?_⟩
   ·simp only [aS,a7,Mem.ao,Mem.aG,Mem.aN,Mem.aP,bu,bP,List.cons_append,List.nil_append,List.append_nil,↓reduceIte,eq_self,and_true,true_and,and_self,and_false,false_and,reduceCtorEq,Oid.sub.injEq,Nat.reduceEqDiff,hb2,hb3,List.length_append,List.map_append,List.length_cons,List.length_nil,List.map_cons,List.map_nil]
   ·intro q hq
    simp only [List.mem_cons,List.not_mem_nil,or_false] at hq
    rcases hq with rfl|rfl
    ·exact .inl ⟨_,List.mem_cons_self,rfl⟩
    ·exact .inr (Oid.ae (Oid.az _))
 ·rintro pre L' m' hS ⟨_,l,v,L2,rfl,hr,rfl⟩ hL' hd hold hnm
  have hmx:=hL' _ List.mem_cons_self
  have hne:∀ q ∈ need,m' q.1=some q.2:=fun q hq=>hold q.1 q.2 (by rw [aK,if_neg (hnb q hq)];exact hcon q hq) (by simp only [List.mem_singleton];rintro q' rfl e;exact hnb q hq e.symm)
  refine kh ([(.sub 0 0 x.p,.cells [v]),(.sub (0+1+1) 0 x.p,.dfr)]++(L2++need)) (jW (B:=[(.sub 0 0 x.p,.cells [v]),(.sub (0+1+1) 0 x.p,.dfr)]) ?_ (jW (fun q hq=>hL' q (List.mem_cons_of_mem _ hq)) hne)) ?_
  ·intro q hq
   simp only [List.mem_cons,List.not_mem_nil,or_false] at hq
   rcases hq with rfl|rfl
   ·exact hmx
   ·exact hd
  have hnid:∀ id xs,L2=[(id,.arr 1 xs)]→(∀ q ∈ need,¬ q.1=id)∧¬ id = .sub 2 0 x.p:=fun id xs e=>by
   have h1:=hL' (id,.arr 1 xs) (by rw [e];exact List.mem_cons_of_mem _ List.mem_cons_self)
   simp only at h1
   refine ⟨fun q hq e1=>?_,fun e1=>?_⟩
   ·have h2:=hne q hq
    rw [e1,h1,Option.some.injEq] at h2
    exact hna q hq _ _ h2.symm
   ·rw [e1,hd] at h1;cases h1
  have hrow2:vM l v L2 (Oid.under x.p):=by
   rcases hr with hr|⟨hl,id,rfl,rfl,hid⟩
   ·exact .inl hr
   ·refine .inr ⟨hl,id,rfl,rfl,?_⟩
    rcases hnm _ (List.mem_cons_of_mem _ List.mem_cons_self) with ⟨q',h1,h2⟩|⟨q',h1,h2⟩|h
    ·exact absurd h2 ((hnid id _ rfl).1 q' h1)
    ·simp only [List.mem_singleton] at h1
     subst h1
     exact absurd h2.symm hid
    ·exact Oid.ae h
  have hin:∀ q ∈ L2++need,¬ q.1 = .sub 0 0 x.p∧¬ q.1 = .sub 2 0 x.p∧Mem.of (L2++need) q.1=some q.2:=by
   have hn2:∀ q ∈ need,¬ q.1 = .sub 2 0 x.p:=fun q hq e=>hnp q hq (e ▸ Oid.ae (Oid.az _))
   rcases hr with ⟨_,_,rfl⟩|⟨_,id,_,rfl,hid⟩
   ·exact fun q hq=>⟨hnb q hq,hn2 q hq,hcon q hq⟩
   ·intro q hq
    rcases List.mem_append.1 hq with hq|hq
    ·simp only [List.mem_singleton] at hq
     subst hq
     exact ⟨hid,(hnid id _ rfl).2,by rw [List.cons_append,Mem.ao,if_pos rfl]⟩
    ·exact ⟨hnb q hq,hn2 q hq,by rw [List.cons_append,Mem.ao,if_neg ((hnid id _ rfl).1 q hq)];exact hcon q hq⟩
  generalize hrest:L2++need=rest
  (repeat (first|(refine aq rfl rfl ?_)|(refine ar rfl rfl ?_)|(refine aj nmd [] hng (by kernel_rfl) fun hf C S K hC1 hC hS hK=>?_;simp (disch:=first|omega|assumption) only [go_sem];refine hK ?_;clear hK hS hC hC1 K S C hf)|((first|refine zv ?_|refine zw ?_|refine zu ?_);with_reducible (constructor;repeat constructor);try refine zl ?_)))
  refine aA ?_
  subst hQ
  refine ⟨?_,_,ll L2,rfl,⟨l,L2,hS,?_,rfl⟩,?_⟩
  ·simp only [aS,a7,Mem.ao,Mem.aG,Mem.aN,Mem.aP,bu,bP,List.cons_append,List.nil_append,List.append_nil,↓reduceIte,eq_self,and_true,true_and,and_self,and_false,false_and,reduceCtorEq,Oid.sub.injEq,Nat.reduceEqDiff,aK]
  ·exact hrow2
  ·intro i o h
   have:∃ q ∈ L2++need,q.1=i∧q.2=o:=by
    by_cases hk:∃ q ∈ ll L2,q.1=i
    ·obtain ⟨q',k1,k2,k3⟩:=jq (m:=Mem.of need) hk
     rw [k3] at h
     obtain ⟨q,h1,rfl⟩:=List.mem_map.1 k1
     exact ⟨q,List.mem_append_left _ h1,k2,Option.some.inj h⟩
    ·rw [bc fun q hq e=>hk ⟨q,hq,e⟩] at h
     obtain ⟨q,h1,h2,h3⟩:=Mem.dM h
     exact ⟨q,List.mem_append_right _ h1,h2,h3⟩
   obtain ⟨q,hq,rfl,rfl⟩:=this
   obtain ⟨a1,a2,a3⟩:=hin q hq
   show ((Mem.of ((Oid.sub 0 0 x.p,aw.cells [v])::(Oid.sub 2 0 x.p,aw.dfr)::rest)).set (.sub 2 0 x.p) none) q.1=some q.2
   subst hrest
   simp only [Mem.set,if_neg a2,Mem.ao,if_neg a1]
   exact a3
 ·rintro pre L' m' cd _ ⟨h,_⟩
  cases h
theorem vN (gf:FuncId) (cap:List AV) (need:List (Oid × aw)) (N:Nat) (Sq:Bool→List (List AV)→Prop) (hN:N≤2000000000000) (p:Oid) (hnp:∀ q ∈ need,¬ Oid.under p q.1) (hna:∀ q ∈ need,∀ sz xs,¬ q.2 = .arr sz xs)
  (hseq:∀ p',Oid.under p p'→og Tryz.prog gf cap p' need 1 (fun pre xs=>pre.length < N∧∃ h:Str,xs=[.str h]) Sq) :
  bV Tryz.prog 160 [.fn (.func gf) [] cap] (Oid.under p) need (fun v u=>∃ l L',Sq true (l.map fun h=>[.str h])∧vM l v L' (Oid.under p)∧u=ll L') (fun _ _=>False):=by
 refine eA (by kernel_rfl) fun hcon=>?_
 refine gT (n:=5) (rs:=[.tmp 2]) Tryz.func160 rfl rfl (by decide) rfl rfl rfl ?_;rintro x rfl hrd hng
 refine qw0 ?_
 refine aj nmd [] hng (by kernel_rfl) fun hf C S K hC1 hC hS hK=>?_;simp (disch:=first|omega|assumption) only [go_sem]
 refine hC _ _ _ (sf gf cap need N Sq hN _ (fun q hq h=>hnp q hq (Oid.ae h)) hna fun p' h=>hseq p' (Oid.ae h)) hcon ?_ (fun _ _ h=>h.elim)
 rintro val upd ⟨l,L',hSq,hr,rfl⟩
 simp (disch:=first|omega|assumption) only [go_sem]
 refine hK ?_;clear hK hS hC hC1 K S C hf
 (try ((first|refine zn ?_|refine ze ?_|refine zk ?_);with_reducible (constructor;repeat constructor));try refine zl ?_)
 refine aA (bO _ _ rfl ⟨l,L',hSq,hr.mono fun _ h=>Oid.ae h,rfl⟩ ?_)
 intro i o h
 rw [Mem.aN] at h;exact h
theorem str_inj {a b:List Str} (e:a.map (fun h=>[AV.str h])=b.map fun h=>[AV.str h]):a=b:=(List.map_inj_right (fun x y h=>by simpa using h)).1 e
theorem mg (gf:FuncId) (cap:List AV) (need:List (Oid × aw)) (N:Nat) (l0:List Str) (Sq:Bool→List (List AV)→Prop) (hN:N≤2000000000000) (hl0:l0.length≤N) (p:Oid) (hnp:∀ q ∈ need,¬ Oid.under p q.1) (hna:∀ q ∈ need,∀ sz xs,¬ q.2 = .arr sz xs)
  (hseq:∀ p',Oid.under p p'→og Tryz.prog gf cap p' need 1 (fun pre xs=>pre.length < N∧∃ h:Str,xs=[.str h]) Sq)
  (hall:∀ l:List Str,Sq true (l.map fun h=>[.str h])→l.Perm l0) :
  af Tryz.prog 72 [.fn (.func gf) [] cap] (Oid.under p) ⟨need,.list 1 ((bg l0).map .str),[]⟩:=by
 refine (eA (by kernel_rfl) fun hcon=>?_:bV Tryz.prog _ _ _ need (fun v u=>v=_∧u=[]) (fun _ _=>False)).ok
 refine gT (n:=9) (rs:=[.tmp 2]) Tryz.func72 rfl rfl (by decide) rfl rfl rfl ?_;rintro x rfl hrd hng
 refine qw0 ?_
 refine aj nmd [] hng (by kernel_rfl) fun hf C S K hC1 hC hS hK=>?_;simp (disch:=first|omega|assumption) only [go_sem]
 refine hC _ _ _ (vN gf cap need N Sq hN _ (fun q hq h=>hnp q hq (Oid.ae h)) hna fun p' h=>hseq p' (Oid.ae h)) hcon ?_ (fun _ _ h=>h.elim)
 rintro val upd ⟨l,L',hSq,hr,rfl⟩
 have hp:=hall l hSq
 have hse:bg l=bg l0:=pV hp
 rcases hr with ⟨rfl,rfl,rfl⟩|⟨hl,id,rfl,rfl,hid⟩
 ·simp (disch:=first|omega|assumption) only [go_sem,ll,List.map_nil]
  refine hK ?_;clear hK hS hC hC1 K S C hf
  (repeat (first|(refine aq rfl rfl ?_)|(refine ar rfl rfl ?_)|(refine aj nmd [] hng (by kernel_rfl) fun hf C S K hC1 hC hS hK=>?_;simp (disch:=first|omega|assumption) only [go_sem];refine hK ?_;clear hK hS hC hC1 K S C hf)|((first|refine zv ?_|refine zw ?_|refine zu ?_);with_reducible (constructor;repeat constructor);try refine zl ?_)))
  refine qr1 (tT _) ?_
  refine ot ?_
  refine l3 3 1 rfl ?_
  refine qw0 ?_
  exact aA (bO (.list 1 ((bg l0).map .str)) [] (by rw [← hse,show bg []=[] by simp [bg]];rfl) ⟨rfl,rfl⟩ fun _ _ h=>h)
 ·have hid2:=Oid.ae hid
  have hnid:∀ q ∈ need,¬ q.1=id:=fun q hq e=>hnp q hq (e ▸ hid2)
  simp (disch:=first|omega|assumption) only [go_sem,ll,List.map_cons,List.map_nil]
  refine hK ?_;clear hK hS hC hC1 K S C hf
  (repeat (first|(refine aq rfl rfl ?_)|(refine ar rfl rfl ?_)|(refine aj nmd [] hng (by kernel_rfl) fun hf C S K hC1 hC hS hK=>?_;simp (disch:=first|omega|assumption) only [go_sem];refine hK ?_;clear hK hS hC hC1 K S C hf)|((first|refine zv ?_|refine zw ?_|refine zu ?_);with_reducible (constructor;repeat constructor);try refine zl ?_)))
  have hlen:l.length≤2000000000000:=by rw [hp.length_eq];omega
  refine aj nmd [] hng (by kernel_rfl) fun hf C S K hC1 hC hS hK=>?_;simp (disch:=first|omega|assumption) only [go_sem]
  refine hC1 _ (gx l hl (by omega) id _) (by simp (disch:=first|omega|assumption) only [go_sem,aK]) ?_
  simp (disch:=first|omega|assumption) only [go_sem]
  refine hK ?_;clear hK hS hC hC1 K S C hf
  refine ot ?_
  refine cI id 1 ((bg l).map .str) (by simp (disch:=first|omega|assumption) only [go_sem,aK]) ?_
  simp (disch:=first|omega|assumption) only [go_sem,eJ]
  refine qw0 ?_
  refine aA (bO (.list 1 ((bg l0).map .str)) [] (by rw [← hse];rfl) ⟨rfl,rfl⟩ fun i o h=>?_)
  have h':Mem.of need i=some o:=h
  have hi:¬ i=id:=fun e=>by obtain ⟨q,h1,h2,h3⟩:=Mem.dM h';exact hnid q h1 (h2.trans e)
  rw [aK,if_neg hi,aK,if_neg hi,aK,if_neg hi];exact h'
def mh (n:Str) (es:List ME):List Str:=es.filterMap fun e=>cF n (cZ e)
theorem Cp (o:Oid) (n:Str) (p:Oid) (ho:¬ Oid.under p o):af Tryz.prog 249 [.map o,.str n] (Oid.under p) ⟨[],.fn (.func 294) [] [.ptr (.sub 0 0 p) 0,.ptr (.sub 0 1 p) 0],[(.sub 0 0 p,some (.cells [.map o])),(.sub 0 1 p,some (.cells [.str n]))]⟩:=by
 refine aJ (n:=6) (rs:=[.tmp 4]) Tryz.func249 rfl rfl (by decide) rfl rfl rfl ?_;rintro x rfl hrd hng
 refine qw0 ?_
 refine aA (bO _ _ rfl ⟨rfl,rfl⟩ ?_)
 intro i o' h
 rw [Mem.aN] at h
 exact h
theorem oS (o:Oid) (n:Str) (hln:n.length≤140737488355000) (es:List ME) (clock:Nat) (hkl:∀ e ∈ es,(cZ e).length≤140737488355328) (hel:es.length≤2000000000000) (p:Oid) (ho:¬ Oid.under p o) :
  af Tryz.prog 164 [.map o,.str n] (Oid.under p) ⟨[(o,.map [.ss] false es clock)],.list 1 ((bg (mh n es)).map .str),[]⟩:=by
 refine aJ (n:=9) (rs:=[.tmp 4]) Tryz.func164 rfl rfl (by decide) rfl rfl rfl ?_;rintro x rfl hrd hng
 have hu12:∀ j,Oid.under (.sub 1 2 x.p) (.sub 0 j (.sub 1 2 x.p)):=fun j=>Oid.ae (Oid.az _)
 have hapt:∀ j p',Oid.under (.sub 1 3 x.p) p'→¬ Oid.under p' (.sub 0 j (.sub 1 2 x.p)):=fun j p' h h2=>by
  have:=(Oid.apart (Oid.dr h h2) (hu12 j)).2
  omega
 refine qw0 ?_
 refine aj nmd [] hng (by kernel_rfl) fun hf C S K hC1 hC hS hK=>?_;simp (disch:=first|omega|assumption) only [go_sem]
 refine hC1 _ (Cp o n _ (fun h=>ho (Oid.ae h))) qs0 ?_
 simp (disch:=first|omega|assumption) only [go_sem]
 refine hC1 _ (mg 294 [.ptr (.sub 0 0 (.sub 1 2 x.p)) 0,.ptr (.sub 0 1 (.sub 1 2 x.p)) 0] [(.sub 0 0 (.sub 1 2 x.p),.cells [.map o]),(.sub 0 1 (.sub 1 2 x.p),.cells [.str n]),(o,.map [.ss] false es clock)] es.length (mh n es) _ hel (List.length_filterMap_le _ _) _ ?_ ?_
  (fun p' hp=>y7 (.sub 0 0 (.sub 1 2 x.p)) (.sub 0 1 (.sub 1 2 x.p)) o n hln es clock hkl p' ?_ ?_ ?_ ?_ ?_ ?_) ?_) ?_ ?_
 ·intro q hq
  simp only [List.mem_cons,List.not_mem_nil,or_false] at hq
  rcases hq with rfl|rfl|rfl
  ·exact hapt 0 _ (Oid.az _)
  ·exact hapt 1 _ (Oid.az _)
  ·exact fun h=>ho (Oid.ae h)
 ·intro q hq
  simp only [List.mem_cons,List.not_mem_nil,or_false] at hq
  rcases hq with rfl|rfl|rfl<;>(intro sz xs e;cases e)
 ·exact fun e=>ho (e ▸ Oid.ae (hu12 0))
 ·exact fun e=>ho (e ▸ Oid.ae (hu12 1))
 ·simp
 ·exact hapt 0 _ hp
 ·exact hapt 1 _ hp
 ·exact fun h=>ho (Oid.ae (Oid.dr hp h))
 ·intro l hl
  obtain ⟨U,h1,h2⟩:=hl rfl
  rw [str_inj h2]
  exact h1.filterMap _
 ·have h0:=fun j=>Oid.ab (fun h=>ho (Oid.ae h):¬ Oid.under (.sub 1 2 x.p) o) 0 j
  have h1:=fun j=>Oid.aa (fun h=>ho (Oid.ae h):¬ Oid.under (.sub 1 2 x.p) o) 0 j
  simp only [aS,a7,Mem.ao,Mem.aG,Mem.aN,Mem.aP,bu,bP,List.cons_append,List.nil_append,List.append_nil,↓reduceIte,eq_self,and_true,true_and,and_self,and_false,false_and,reduceCtorEq,Oid.sub.injEq,Nat.reduceEqDiff,aK,h0,h1]
 ·simp (disch:=first|omega|assumption) only [go_sem]
  refine hK ?_;clear hK hS hC hC1 K S C hf
  refine qw0 ?_
  refine aA (bO _ _ rfl ⟨rfl,rfl⟩ fun i o' h=>?_)
  have h':Mem.of [(o,aw.map [.ss] false es clock)] i=some o':=h
  rw [Mem.ao] at h'
  split at h'
  ·rename_i e
   subst e
   have h0:=fun j=>Oid.ab (fun h=>ho (Oid.ae h):¬ Oid.under (.sub 1 2 x.p) i) 0 j
   have h1:=fun j=>Oid.aa (fun h=>ho (Oid.ae h):¬ Oid.under (.sub 1 2 x.p) i) 0 j
   simp only [aS,a7,Mem.ao,Mem.aG,Mem.aN,Mem.aP,bu,bP,List.cons_append,List.nil_append,List.append_nil,↓reduceIte,eq_self,and_true,true_and,and_self,and_false,false_and,reduceCtorEq,Oid.sub.injEq,Nat.reduceEqDiff,aK,h0,h1]
   exact h'
  ·cases h'
end Go.Proofs.YtfbnaalhioogoaaGreatDoor
namespace Go.Proofs.YtfbnaalhioogoaaGreatDoor
open Go Go.Ab
theorem eT:∀ (k n:Nat),n < 10 ^ (k+1)→(Lib.decDigits n).length≤k+1
 | 0,n,h=>by rw [bw (by simpa using h)];simp
 | k+1,n,h=>by
  by_cases hs:n < 10
  ·rw [bw hs];simp
  ·rw [dz hs,List.length_append]
   have:=eT k (n / 10) (by rw [Nat.pow_succ] at h;omega)
   simp only [List.length_cons,List.length_nil];omega
theorem y9 (n:Nat):∀ b,b ∈ Lib.decDigits n→¬ b=58:=by
 have one:∀ d,d < 10→¬ UInt8.ofNat (48+d)=58:=fun d hd e=>by
  have h1:=congrArg UInt8.toNat e
  rw [UInt8.toNat_ofNat'] at h1
  have:(58:UInt8).toNat=58:=rfl
  omega
 induction n using Nat.strongRecOn with
 | ind n ih =>
  intro b hb
  by_cases h:n < 10
  ·rw [bw h,List.mem_singleton] at hb;subst hb;exact one n h
  ·rw [dz h] at hb
   rcases List.mem_append.1 hb with hb|hb
   ·exact ih _ (by omega) b hb
   ·rw [List.mem_singleton] at hb;subst hb;exact one _ (by omega)
theorem Cq (u:Str):∀ t:Str,(∀ b,b ∈ t→¬ b=58)→Lib.indexByte (t++58::u) 58=t.length
 | [],_=>by simp [Lib.indexByte]
 | b::t,h=>by
  have hb:(b == 58)=false:=by simpa using h b (by simp)
  have ih:=Cq u t fun b hb=>h b (by simp [hb])
  simp only [List.cons_append,Lib.indexByte,hb,Bool.false_eq_true,if_false,ih,beq_iff_eq]
  rw [if_neg (by omega),List.length_cons];omega
theorem jz {n:Nat} (h:n < 1000000000):dN (Lib.decDigits n)=n:=by
 have hl:=eT 8 n h
 rw [dN,if_neg,oE]
 rintro (h|h|⟨h,h'⟩)
 ·exact l9 n h
 ·omega
 ·have:=mM n h
  subst this
  rw [bw (by decide)] at h'
  simp at h'
theorem vO (s t:Str) (hs:s.length < 1000000000):tO (chunk s++t)=(tO t).map (s::·):=by
 have he:chunk s++t=Lib.decDigits s.length++58::(s++44::t):=by
  rw [chunk,Lib.itoa_nonneg];simp only [List.append_assoc,List.singleton_append,List.cons_append,List.nil_append]
 have hi:=Cq (s++44::t) _ (y9 s.length)
 have hne:¬ chunk s++t=[]:=fun e=>by rw [he] at e;simp at e
 have hcol:colon (chunk s++t)=(Lib.decDigits s.length).length:=by rw [colon,he,hi];rfl
 have hhead:mO (chunk s++t)=Lib.decDigits s.length:=by rw [mO,hcol,he,List.take_left'];rfl
 have hrest:kj (chunk s++t)=s++44::t:=by
  rw [kj,hcol,he,← List.drop_drop,List.drop_left'];· rfl
  ·rfl
 obtain ⟨n1,n2⟩:=dG (mO (chunk s++t))
 rw [hhead,jz hs] at n1 n2
 have hg:eM (mO (chunk s++t))=true:=by rw [hhead,n1];simp
 have ha:bI (mO (chunk s++t))=s.length:=by rw [hhead];exact n2 (by rw [← hhead];exact hg)
 have hsz:mP (chunk s++t)=s.length:=by rw [mP,ha];rfl
 have hok:okS (chunk s++t):=by
  refine ⟨by rw [he,hi];omega,hg,by rw [ha,hrest];simp;omega,?_⟩
  rw [hsz,hrest];simp
 rw [y1 hne hok,hsz,hrest]
 have h1:(s++44::t).take s.length=s:=by rw [List.take_left'];rfl
 have h2:(s++44::t).drop (s.length+1)=t:=by
  rw [← List.drop_drop,List.drop_left'];· rfl
  ·rfl
 rw [h1,h2]
theorem tW:∀ l:List Str,(∀ s,s ∈ l→s.length < 1000000000)→tO (cE l)=some l
 | [],_=>rfl
 | s::l,h=>by
  rw [cE,vO s _ (h s (by simp)),tW l fun s hs=>h s (by simp [hs])];rfl
theorem sg (b:Bits) (h1:1≤b.k∧b.k≤3) (h2:0≤b.m∧b.m≤7) (h3:¬ (b.k=2∧¬ b.l=[])) (h4:b.l.length < 1000000000):mb (cU b)=(b,0):=by
 obtain ⟨k,m,l⟩:=b
 simp only at h1 h2 h3 h4
 obtain ⟨k,rfl⟩:=Int.eq_ofNat_of_zero_le (by omega:0≤k)
 obtain ⟨m,rfl⟩:=Int.eq_ofNat_of_zero_le h2.1
 have hv:cU ⟨k,m,l⟩=cE [Lib.decDigits k,Lib.decDigits m,l]:=by
  rw [cU,if_neg (by simp only;omega),Lib.itoa_nonneg,Lib.itoa_nonneg]
 have hne:¬ cU ⟨k,m,l⟩=[]:=fun e=>by
  rw [hv] at e
  have:=congrArg List.length e
  have hc:=eS (Lib.decDigits k)
  simp only [cE,List.length_append,List.length_nil] at this
  omega
 have hd:tO (cU ⟨k,m,l⟩)=some [Lib.decDigits k,Lib.decDigits m,l]:=by
  rw [hv]
  refine tW _ fun s hs=>?_
  have d1:=eT 0 k (by omega)
  have d2:=eT 0 m (by omega)
  simp only [List.mem_cons,List.not_mem_nil,or_false] at hs
  rcases hs with rfl|rfl|rfl<;>omega
 have hk:=jz (n:=k) (by omega)
 have hm:=jz (n:=m) (by omega)
 have hC:vI (cU ⟨k,m,l⟩) (Lib.decDigits k) (Lib.decDigits m) l=true:=Ca.2 ⟨by rw [hk];omega,by rw [hk];omega,by rw [hm];omega,by rw [hm];omega,by rw [hk];exact h3,by rw [hk,hm]⟩
 rw [mb,if_neg hne,hd]
 simp only
 rw [Gy,if_pos hC,hk,hm]
end Go.Proofs.YtfbnaalhioogoaaGreatDoor
namespace Go.Proofs.YtfbnaalhioogoaaGreatDoor
open Go Go.Ab
set_option maxRecDepth 20000
set_option maxHeartbeats 4000000
theorem pX (st t:Oid) (es:List ME) (clock:Nat) (hts:¬ t=st) (p:Oid) (hs:¬ Oid.under p st) (ht:¬ Oid.under p t) (n:Str) (hln:n.length≤140737488355000) (hkl:∀ e ∈ es,(cZ e).length≤140737488355328) (hel:es.length≤2000000000000) :
  af Tryz.prog 171 [.ptr st 0,.str n] (Oid.under p) ⟨[(st,.cells [.map t,.nilPtr]),(t,.map [.ss] false es clock)],.list 1 ((bg (mh n es)).map .str),[]⟩:=by
 have hs':∀ c i,¬ Oid.under (.sub c i p) st:=fun c i h=>hs (Oid.ae h)
 have ht':∀ c i,¬ Oid.under (.sub c i p) t:=fun c i h=>ht (Oid.ae h)
 refine aJ (n:=15) (rs:=[.tmp 4]) Tryz.func171 rfl rfl (by decide) rfl rfl rfl ?_;rintro x rfl hrd hng
 refine qw (ai (uu ht) (ai (uu hs) hts)) ?_
 refine qr .o (ai (uu ht) (ai (uu hs) hts)) (cq (xe st t _ (hs' _ _) n true) trivial) ?_
 refine qr .o (ai (uu ht) (ai (uu hs) hts)) (cq (oS t n hln es clock hkl hel _ (ht' _ _)) trivial) ?_
 refine qw (ai (uu ht) (ai (uu hs) hts)) ?_
 refine aA (aZ rfl ?_ ?_)
 all_goals simp only [List.mem_cons,List.not_mem_nil,or_false,forall_eq_or_imp,forall_eq,Option.some.injEq,forall_eq',Mem.ao,eq_self,if_true,↓reduceIte,reduceCtorEq,implies_true,not_true_eq_false,false_imp_iff,true_and,and_true,false_and,and_false,imp_self,Oid.ab ht,Oid.aa ht,Oid.ab hs,Oid.aa hs,hts]
end Go.Proofs.YtfbnaalhioogoaaGreatDoor
namespace Go.Ab
section
variable {P:Program} [Laid P] {x:Ctx} {n:Nat} {Q:AX→AS→Prop} {fr:List (Nat × AV)} {m:Mem} {c:Nat} {ds:List AD} {ks:List Pc}
theorem aB.cells {x:Ctx} {g:Gh} {m:Mem} {w:World} (h:aB x g m w) {i:Oid} {vs ws:List AV} (hi:m i=some (.cells vs)) (hw:dy vs ws):aB x g (m.set i (some (.cells ws))) w:=by
 obtain ⟨b,hb,_,_,cc,t,fz,h1,h2,h3,h4⟩:=h.obj i _ hi
 exact h.gD hi hb rfl rfl ⟨rfl,Nat.le_refl _⟩ (Nat.le_refl _) (fun _ _ _=>rfl) (fun r hr=>h.rows b r hr) (fun _ t' fz' h9=>⟨_,_,h9⟩)
  ⟨cc,t,fz,h1,h2.trans hw.length,h3,fun j hj=>hw.at j _ _ (h4 j (by rw [hw.length];exact hj))⟩
def Gho (x:Ctx) (n:Nat) (R:AS→Prop) (s:AS):Prop:=∀ g a w,Rel x n g s a w→∃ g' s',Rel x n g' s' a w∧R s'
theorem Gho.now {R:AS→Prop} {s:AS} (h:R s):Gho x n R s:=fun g _ _ hr=>⟨g,s,hr,h⟩
theorem Gho.step {R:AS→Prop} {s s':AS} (hg:∀ g a w,Rel x n g s a w→∃ g',Rel x n g' s' a w) (h:Gho x n R s'):Gho x n R s:=fun g a w hr=>let ⟨g',hr'⟩:=hg g a w hr;h g' a w hr'
theorem L4 {b:Code} {R:AS→Prop} {s:AS} (h:Gho x n R s) (h2:∀ s,R s→T P x n b s Q):T P x n b s Q:=fun g a w hr=>let ⟨g',_,hr',hR⟩:=h g a w hr;h2 _ hR g' a w hr'
theorem Rel.cells {g:Gh} {a:Act} {w:World} (hr:Rel x n g ⟨fr,m,c,ds⟩ a w) (i:Oid) (vs ws:List AV) (hi:m i=some (.cells vs)) (hw:dy vs ws):∃ g',Rel x n g' ⟨fr,m.set i (some (.cells ws)),c,ds⟩ a w :=
 ⟨g,hr.mr.cells hi hw,hr.tm,hr.df,hr.fr,hr.young⟩
theorem GK {R:AS→Prop} (i:Oid) (vs ws:List AV) (hi:m i=some (.cells vs)) (hw:dy vs ws) (h:Gho x n R ⟨fr,m.set i (some (.cells ws)),c,ds⟩):Gho x n R ⟨fr,m,c,ds⟩ :=
 Gho.step (s:=⟨fr,m,c,ds⟩) (s':=⟨fr,m.set i (some (.cells ws)),c,ds⟩) (fun _ _ _ hr=>hr.cells i vs ws hi hw) h
theorem Rel.freeze {g:Gh} {a:Act} {w:World} (hr:Rel x n g ⟨fr,m,c,ds⟩ a w) (i:Oid) (sz:Nat) (xs:List AV) (hi:m i=some (.arr sz xs)) :
  ∃ g',Rel x n g' ⟨frz i sz xs fr,m.set i none,c,ds⟩ a w∧g.le g'∧g'.loc=g.loc∧∀ v u,VR g v u→VR g' (pQ i sz xs v) u:=by
 obtain ⟨g',h1,h2,h3,h4⟩:=hr.mr.freeze hi
 have key:∀ v u,VR g v u→VR g' (pQ i sz xs v) u:=fun v u hv=>by
  unfold pQ
  split
  ·split
   ·rename_i e
    obtain ⟨rfl,rfl,rfl⟩:=e
    have:=h4 _ _ hv (Nat.le_refl _)
    rwa [List.take_length] at this
   ·exact hv.mono h1
  ·exact hv.mono h1
 exact ⟨g',⟨h3,hr.tm,hr.df.mono h1,fun t ht=>by rw [wY];exact key _ _ (hr.fr t ht),fun k hk=>by rw [h2];exact hr.young k hk⟩,h1,by funext k;exact h2 k,key⟩
inductive Frz (i:Oid) (sz:Nat) (xs:List AV):List AV→List AV→Prop
 | nil:Frz i sz xs [] []
 | keep {v:AV} {vs ws:List AV} (h:Frz i sz xs vs ws):Frz i sz xs (v::vs) (v::ws)
 | gD {n:Nat} {vs ws:List AV} (hn:n=xs.length) (h:Frz i sz xs vs ws):Frz i sz xs (.sl i sz n::vs) (.list sz xs::ws)
theorem Frz.at {i:Oid} {sz:Nat} {xs vs ws:List AV} (h:Frz i sz xs vs ws):vs.length=ws.length∧∀ j,ws.getD j .undef=vs.getD j .undef∨ws.getD j .undef=pQ i sz xs (vs.getD j .undef):=by
 induction h with
 | nil=>exact ⟨rfl,fun _=>.inl rfl⟩
 | keep _ ih =>
  refine ⟨by simp [ih.1],fun j=>?_⟩
  cases j with
  | zero=>exact .inl rfl
  | succ j=>simpa using ih.2 j
 | gD hn _ ih =>
  refine ⟨by simp [ih.1],fun j=>?_⟩
  cases j with
  | zero=>right;simp [pQ,hn]
  | succ j=>simpa using ih.2 j
theorem Rel.xl {g:Gh} {a:Act} {w:World} (hr:Rel x n g ⟨fr,m,c,ds⟩ a w) (i j:Oid) (sz:Nat) (xs vs ws:List AV) (hi:m i=some (.arr sz xs)) (hj:m j=some (.cells vs)) (hij:¬ j=i) (hw:Frz i sz xs vs ws) :
  ∃ g',Rel x n g' ⟨frz i sz xs fr,(m.set i none).set j (some (.cells ws)),c,ds⟩ a w:=by
 obtain ⟨g',hr',h1,h2,key⟩:=hr.freeze i sz xs hi
 refine ⟨g',?_,hr'.tm,hr'.df,hr'.fr,hr'.young⟩
 obtain ⟨b',hb,_,_,cc,t,fz,k1,k2,k3,k4⟩:=hr.mr.obj j _ hj
 have hj':(m.set i none) j=some (.cells vs):=by simp only [Mem.set,if_neg hij];exact hj
 have h3:=hr'.mr
 refine h3.gD hj' (by rw [h2];exact hb) rfl rfl ⟨rfl,Nat.le_refl _⟩ (Nat.le_refl _) (fun _ _ _=>rfl) (fun r hr'=>h3.rows b' r hr') (fun _ t' fz' h9=>⟨_,_,h9⟩)
  ⟨cc,t,fz,k1,k2.trans hw.at.1,k3,fun q hq=>?_⟩
 have k5:=k4 q (by rw [hw.at.1];exact hq)
 rcases hw.at.2 q with e|e<;>rw [e]
 ·exact k5.mono h1
 ·exact key _ _ k5
theorem za {a:Code} (i j:Oid) (sz:Nat) (xs vs ws:List AV) (hi:m i=some (.arr sz xs)) (hj:m j=some (.cells vs)) (hij:¬ j=i) (hw:Frz i sz xs vs ws) (h:T P x n a ⟨frz i sz xs fr,(m.set i none).set j (some (.cells ws)),c,ds⟩ Q):T P x n a ⟨fr,m,c,ds⟩ Q :=
 jJ (s:=⟨fr,m,c,ds⟩) ⟨frz i sz xs fr,(m.set i none).set j (some (.cells ws)),c,ds⟩ (fun _ _ _ hr=>hr.xl i j sz xs vs ws hi hj hij hw) h
theorem iw {R:AS→Prop} (i j:Oid) (sz:Nat) (xs vs ws:List AV) (hi:m i=some (.arr sz xs)) (hj:m j=some (.cells vs)) (hij:¬ j=i) (hw:Frz i sz xs vs ws) (h:Gho x n R ⟨frz i sz xs fr,(m.set i none).set j (some (.cells ws)),c,ds⟩):Gho x n R ⟨fr,m,c,ds⟩ :=
 Gho.step (s:=⟨fr,m,c,ds⟩) (s':=⟨frz i sz xs fr,(m.set i none).set j (some (.cells ws)),c,ds⟩) (fun _ _ _ hr=>hr.xl i j sz xs vs ws hi hj hij hw) h
theorem Cr {R:AS→Prop} (i:Oid) (sz:Nat) (xs:List AV) (hi:m i=some (.arr sz xs)) (h:Gho x n R ⟨frz i sz xs fr,m.set i none,c,ds⟩):Gho x n R ⟨fr,m,c,ds⟩ :=
 Gho.step (s:=⟨fr,m,c,ds⟩) (s':=⟨frz i sz xs fr,m.set i none,c,ds⟩) (fun _ _ _ hr=>let ⟨g',h',_⟩:=hr.freeze i sz xs hi;⟨g',h'⟩) h
def L5 (P:Program) (x:Ctx) (n:Nat) (Q:AX→AS→Prop) (ks:List Pc) (ts:List Nat) (R:AS→Prop):AX→AS→Prop
 | .normal,s=>Gho x n (fun s=>∃ m',(∀ i o,m' i=some o→s.mem i=some o)∧R ⟨cH ts s.fr,m',s.c,s.ds⟩) s
 | e,s=>after P x n Q ks e s
theorem Kv {a b:Code} {s:AS} (ts:List Nat) (R:AS→Prop) (h:T P x n a s (after P x n (L5 P x n Q ks ts R) [])) (h2:∀ s,R s→T P x n b s (after P x n Q ks)):T P x n a s (after P x n Q (.code b::ks)) :=
 ku h fun e s h=>by
  cases e with
  | normal =>
   refine L4 h fun s ⟨m',h1,h3⟩=>?_
   obtain ⟨fr',m1,c',ds'⟩:=s
   refine kU (s:=⟨fr',m1,c',ds'⟩) (cH ts fr') (fun t _=>nv ts fr' t) ?_
   exact rz (s:=⟨cH ts fr',m1,c',ds'⟩) m' h1 (h2 _ h3)
  | _=>exact h
theorem xm {ts:List Nat} {R:AS→Prop} (h:Gho x n (fun s=>∃ m',(∀ i o,m' i=some o→s.mem i=some o)∧R ⟨cH ts s.fr,m',s.c,s.ds⟩) ⟨fr,m,c,ds⟩):after P x n (L5 P x n Q ks ts R) [] .normal ⟨fr,m,c,ds⟩:=h
def MK (x:Ctx) (n:Nat) (Q:AX→AS→Prop):AX→AS→Prop
 | .panic v,s=>Q (.panic v) s
 | e,s=>Gho x n (Q e) s
theorem oT {a:Code} {s:AS} (h:T P x n a s (after P x n (MK x n Q) [])):T P x n a s (after P x n Q []):=fun g b w hr =>
 wpIn_mono (h g b w hr) fun e b' w' ⟨g',ex,s',h1,h2,h3⟩=>by
  cases ex with
  | panic v=>exact ⟨g',.panic v,s',h1,h2,h3⟩
  | normal=>obtain ⟨g2,s2,k1,k2⟩:=h3 g' b' w' h1;exact ⟨g2,.normal,s2,k1,(by cases e<;>exact h2),k2⟩
  | ret=>obtain ⟨g2,s2,k1,k2⟩:=h3 g' b' w' h1;exact ⟨g2,.ret,s2,k1,(by cases e<;>exact h2),k2⟩
  | exit i=>obtain ⟨g2,s2,k1,k2⟩:=h3 g' b' w' h1;exact ⟨g2,.exit i,s2,k1,(by cases e<;>exact h2),k2⟩
end
theorem ln.nA (sz:Nat):ln .nilSl (.list sz []):=fun _ _ h=>by rw [h.bJ];exact .listNil _
theorem dy.refl:∀ l:List AV,dy l l
 | []=>.nil
 | _::l=>.cons (.refl _) (dy.refl l)
end Go.Ab
namespace Go.Proofs.YtfbnaalhioogoaaGreatDoor
open Go Go.Ab
abbrev PL:=List (Str × Bits)
theorem ix (a b:UInt8) (x y:Str):ltS (a::x) (b::y)=true↔a.toNat < b.toNat∨(a.toNat=b.toNat∧ltS x y=true):=by
 simp only [ltS,Op.bytesLess,Bool.or_eq_true,Bool.and_eq_true,decide_eq_true_eq,beq_iff_eq,UInt8.lt_iff_toNat_lt,← UInt8.toNat_inj]
theorem qO:∀ a b c:Str,ltS a b=true→ltS b c=true→ltS a c=true
 | [],_,[],_,h=>by cases ‹Str› <;> simp [ltS,Op.bytesLess] at h
 | [],_,_::_,_,_=>rfl
 | _::_,[],_,h,_=>by simp [ltS,Op.bytesLess] at h
 | _::_,_::_,[],_,h=>by simp [ltS,Op.bytesLess] at h
 | a::x,b::y,c::z,h1,h2=>by
  rw [ix] at h1 h2 ⊢
  rcases h1 with h1|⟨h1,h3⟩<;>rcases h2 with h2|⟨h2,h4⟩
  ·exact .inl (by omega)
  ·exact .inl (by omega)
  ·exact .inl (by omega)
  ·exact .inr ⟨by omega,qO x y z h3 h4⟩
theorem sh:∀ a:Str,ltS a a=false
 | []=>rfl
 | a::x=>by
  have:=sh x
  rw [Bool.eq_false_iff] at this ⊢
  intro h
  rw [ix] at h
  rcases h with h|⟨_,h⟩
  ·omega
  ·exact this h
theorem xn:∀ a b:Str,ltS a b=false→ltS b a=false→a=b
 | [],[],_,_=>rfl
 | [],_::_,h,_=>by simp [ltS,Op.bytesLess] at h
 | _::_,[],_,h=>by simp [ltS,Op.bytesLess] at h
 | a::x,b::y,h1,h2=>by
  rw [Bool.eq_false_iff] at h1 h2
  have h3:=fun h=>h1 ((ix a b x y).2 h)
  have h4:=fun h=>h2 ((ix b a y x).2 h)
  have hab:a.toNat=b.toNat:=by
   rcases Nat.lt_trichotomy a.toNat b.toNat with h|h|h
   ·exact absurd (.inl h) h3
   ·exact h
   ·exact absurd (.inl h) h4
  have:=xn x y (by rw [Bool.eq_false_iff];exact fun h=>h3 (.inr ⟨hab,h⟩)) (by rw [Bool.eq_false_iff];exact fun h=>h4 (.inr ⟨hab.symm,h⟩))
  rw [this,UInt8.toNat_inj.1 hab]
theorem xo:∀ (p a b:Str),ltS (p++a) (p++b)=ltS a b
 | [],_,_=>rfl
 | c::p,a,b=>by
  have ih:=xo p a b
  rw [Bool.eq_iff_iff,List.cons_append,List.cons_append,ix,ih]
  constructor
  ·rintro (h|⟨_,h⟩)
   ·omega
   ·exact h
  ·exact fun h=>.inr ⟨rfl,h⟩
theorem sj:∀ {a b:Str},ltS a b=true→a < b
 | [],[],h=>by simp [ltS,Op.bytesLess] at h
 | [],_::_,_=>by simp
 | _::_,[],h=>by simp [ltS,Op.bytesLess] at h
 | a::x,b::y,h=>by
  rw [ix] at h
  rw [List.cons_lt_cons_iff,UInt8.lt_iff_toNat_lt,← UInt8.toNat_inj]
  exact h.imp id fun ⟨h1,h2⟩=>⟨h1,sj h2⟩
def ltB (a b:Str):Prop:=ltS a b=true
instance:DecidableRel ltB:=fun a b=>inferInstanceAs (Decidable (ltS a b=true))
theorem fM:Ord ltB where
 irr a h:=by rw [ltB,sh] at h;cases h
 tr:=qO
 tot a b h hn:=by
  cases h2:ltS b a with
  | true=>exact h2
  | false=>exact absurd (xn a b (Bool.eq_false_iff.2 h) h2) hn
def aO (L:PL) (n:Str):Bits:=if n=[] then ⟨2,7,[]⟩ else (aM n L).getD Bits.no
def eU (n:Str) (b:Bits) (L:PL):PL:=if n=[] then L else dH ltB n (if b.k=0 then none else some b) L
def bp (L:PL) (n:Str):List Str:=L.filterMap fun q=>cF n q.1
def gF (es:List ME) (L:PL):Prop:=jc AV.str Bits.av es L
theorem encS:kg AV.str:=y4
theorem Ct:gF [] []:=oG
theorem lA {es:List ME} {L:PL} (h:gF es L) (n:Str):fE (.str n) (.agg [.int .i64 0,.int .i64 0,.str []]) es=((aM n L).getD Bits.no).av:=by
 rw [tS encS h]
 cases aM n L<;>rfl
theorem tX {es:List ME} {L:PL} (h:gF es L) (hs:aY ltB L) (n:Str) (b:Bits) (c:Nat):gF (rY n b es c) (eU n b L):=by
 unfold rY eU
 split
 ·exact h
 ·split
  ·exact Ce encS h n ((cJ fM n none hs).trans (.refl _))
  ·exact oH encS h n b c ((cJ fM n (some b) hs).trans (.refl _))
theorem jX {L:PL} (hs:aY ltB L) (n:Str) (b:Bits):aY ltB (eU n b L):=by
 unfold eU
 split
 ·exact hs
 ·exact fX fM _ _ hs
theorem vP {k p:Str} (h:gr k p=true):k=p++k.drop p.length:=by
 simp only [gr,Bool.and_eq_true,decide_eq_true_eq] at h
 have:=List.take_append_drop p.length k
 rw [h.2] at this
 exact this.symm
theorem gK {n k r:Str} (h:cF n k=some r):k=(n++[47])++r:=by
 unfold cF at h
 split at h
 ·rename_i hc
  simp only [Option.some.injEq] at h
  have:=vP hc.1
  rw [← h]
  simpa using this
 ·cases h
theorem zb {L:PL} (hs:aY ltB L) (n:Str):(bp L n).Pairwise (· ≤ ·):=by
 unfold bp
 rw [List.pairwise_filterMap]
 refine hs.imp fun {a b} h r hr r' hr'=>?_
 rw [ltB,gK hr,gK hr',xo] at h
 exact List.le_of_lt (sj h)
theorem mi {es:List ME} {L:PL} (h:gF es L) (hs:aY ltB L) (n:Str):bg (mh n es)=bp L n:=by
 refine oO ?_ (zb hs n)
 obtain ⟨E,rfl,h2,_⟩:=h
 have h3:mh n (E.map (ef AV.str Bits.av))=(E.map prj).filterMap fun q=>cF n q.1:=by
  unfold mh
  rw [List.filterMap_map,List.filterMap_map]
  rfl
 rw [h3]
 exact h2.filterMap _
structure POk (L:PL):Prop where
 len:L.length≤1000000
 key:∀ q ∈ L,q.1.length≤1000000
 val:∀ q ∈ L,q.2.ok
theorem lB {es:List ME} {L:PL} (h:gF es L):es.length=L.length:=by
 obtain ⟨E,rfl,h2,_⟩:=h
 rw [List.length_map,← h2.length_eq,List.length_map]
theorem oU {es:List ME} {L:PL} (h:gF es L) (ho:POk L):∀ e ∈ es,(cZ e).length≤1000000:=by
 obtain ⟨E,rfl,h2,_⟩:=h
 intro e he
 obtain ⟨q,h3,rfl⟩:=List.mem_map.1 he
 exact ho.key (prj q) (h2.mem_iff.1 (List.mem_map_of_mem h3))
theorem vQ {L:PL} (ho:POk L) {n r:Str} (h:r ∈ bp L n):r.length≤1000000:=by
 obtain ⟨q,h1,h2⟩:=List.mem_filterMap.1 h
 have h3:=ho.key q h1
 rw [gK h2,List.length_append] at h3
 omega
theorem sk {l:List Str} {k:Nat} (hk:k≤4000000000) (h:∀ s ∈ l,s.length≤k):(cE l).length≤l.length * (k+100):=by
 induction l with
 | nil=>simp [cE]
 | cons a l ih =>
  have h1:=ih fun s hs=>h s (List.mem_cons_of_mem _ hs)
  have h2:=h a List.mem_cons_self
  have h3:=eS a
  have h4:=Lib.itoa_length_le a.length (by omega) (by omega)
  simp only [cE,List.length_append,List.length_cons,Nat.add_mul,Nat.one_mul]
  omega
theorem kN {L:PL} (ho:POk L) (n:Str):(cE (bp L n)).length≤100000000000000∧(bp L n).length≤1000000:=by
 have h1:=sk (k:=1000000) (by decide) fun s hs=>vQ ho (n:=n) hs
 have h2:(bp L n).length≤L.length:=List.length_filterMap_le _ _
 have h3:=ho.len
 refine ⟨Nat.le_trans h1 ?_,by omega⟩
 have:(bp L n).length * (1000000+100)≤1000000 * (1000000+100):=Nat.mul_le_mul_right _ (by omega)
 omega
end Go.Proofs.YtfbnaalhioogoaaGreatDoor
namespace Go.Proofs.YtfbnaalhioogoaaGreatDoor
open Go Go.Ab
set_option maxRecDepth 20000
set_option maxHeartbeats 4000000
instance:Inhabited Bits:=⟨Bits.no⟩
def aL (q:Str × Bits):AV:=.agg [.str q.1,.int .i64 q.2.k,.int .i64 q.2.m,.str q.2.l]
theorem Cu (L:PL) (hL:L.length≤140737488355328) (n:Str) (p:Oid):af Tryz.prog 128 [.list 4 (L.map aL),.str n] (Oid.under p) ⟨[],(aO L n).av,[]⟩:=by
 refine aJ (n:=28) (rs:=[.cell 4 56]) Tryz.func128 rfl rfl (by decide) rfl rfl rfl ?_;rintro x rfl hrd hng
 refine qw0 ?_
 refine aX rfl rfl (fun hb=>?_) (fun hb=>?_)
 ·refine qw0 ?_
  exact aA (ay (by rw [aO,if_pos hb];simp (disch:=first|omega|assumption) only [go_sem,Bits.av]))
 ·refine qw0 ?_
  refine bm [0,1,4,5] (fun k s'=>∃ i c:Nat,k=L.length - i∧i≤L.length∧0 < c∧aM n L=aM n (L.drop i)∧s' = ⟨[(0,.list 4 (L.map aL)),(1,.str n),(4,.ptr (.sub 0 0 x.p) 0),(5,.int .i64 i)],Mem.of [(.sub 0 0 x.p,.cells [.int .i64 0,.int .i64 0,.str []])],c,[]⟩) _ ⟨0,_,rfl,Nat.zero_le _,by omega,rfl,rfl⟩ ?_
  rintro k s' ⟨i,c,rfl,hi,hc,hlk,rfl⟩
  have hc0:¬ c=0:=by omega
  refine qw0 ?_
  refine aX rfl rfl (fun hb=>?_) (fun hb=>?_)
  ·have hlt:i < L.length:=by omega
   rw [drop_cons hlt,aM] at hlk
   generalize hq:L.getD i default=q at hlk
   obtain ⟨qn,qk,qm,ql⟩:=q
   simp only at hlk
   (repeat (first|(refine aq rfl rfl ?_)|(refine ar rfl rfl ?_)|(refine aj nmd [] hng (by kernel_rfl) fun hf C S K hC1 hC hS hK=>?_;simp (disch:=first|omega|assumption) only [go_sem,hq,aL,AV.cells];refine hK ?_;clear hK hS hC hC1 K S C hf)|((first|refine zn ?_|refine ze ?_|refine zk ?_);with_reducible (constructor;repeat constructor);try refine zl ?_)))
   refine aX rfl rfl (fun hb=>?_) (fun hb=>?_)
   ·rw [if_pos hb.symm] at hlk
    (repeat (first|(refine aq rfl rfl ?_)|(refine ar rfl rfl ?_)|(refine aj nmd [] hng (by kernel_rfl) fun hf C S K hC1 hC hS hK=>?_;simp (disch:=first|omega|assumption) only [go_sem,hq,aL,AV.cells];refine hK ?_;clear hK hS hC hC1 K S C hf)|((first|refine zn ?_|refine ze ?_|refine zk ?_);with_reducible (constructor;repeat constructor);try refine zl ?_)))
    exact aA (ay (by rw [aO,if_neg (by assumption),hlk];simp (disch:=first|omega|assumption) only [go_sem,Bits.av,Bits.no,Option.getD_some,Option.getD_none,aM]))
   ·rw [if_neg (fun e=>hb e.symm)] at hlk
    refine qw0 ?_
    exact ⟨_,_,by omega,fun _ _ h=>h,i+1,_,rfl,by omega,by omega,hlk,rfl⟩
  ·have:i=L.length:=by omega
   subst this
   rw [List.drop_length] at hlk
   refine qw0 ?_
   exact aA (ay (by rw [aO,if_neg (by assumption),hlk];simp (disch:=first|omega|assumption) only [go_sem,Bits.av,Bits.no,Option.getD_some,Option.getD_none,aM]))
theorem xp {k n:Str}:gr k (n++[47])=true↔n.length < k.length∧k.take n.length=n∧k.getD n.length 0=47:=by
 simp only [gr,Bool.and_eq_true,decide_eq_true_eq,List.length_append,List.length_cons,List.length_nil]
 constructor
 ·rintro ⟨h1,h2⟩
  have hlt:n.length < k.length:=by omega
  rw [Nat.zero_add,List.take_succ_eq_append_getElem hlt] at h2
  have h3:=List.append_inj h2 (by simp;omega)
  refine ⟨hlt,h3.1,?_⟩
  rw [cg hlt]
  simpa using h3.2
 ·rintro ⟨h1,h2,h3⟩
  refine ⟨by omega,?_⟩
  rw [cg h1] at h3
  rw [Nat.zero_add,List.take_succ_eq_append_getElem h1,h2,h3]
def noB (r:Str) (k:Nat):Bool:=(r.take k).all fun b=>decide (¬ b=47)
theorem Cv {r:Str} {k:Nat} (h:k < r.length):noB r (k+1)=(noB r k && decide (¬ r.getD k 0=47)):=by
 unfold noB
 rw [List.take_succ_eq_append_getElem h,List.all_append,cg h]
 simp
theorem tY (r:Str):noB r r.length=true↔¬ 0≤Lib.indexByte r 47:=by
 unfold noB
 rw [List.take_length,List.all_eq_true]
 rcases tR 47 r with ⟨h1,h2⟩|⟨i,h1,h2,h3,_⟩
 ·refine ⟨fun _=>by omega,fun _ b hb=>?_⟩
  obtain ⟨j,hj,rfl⟩:=List.mem_iff_getElem.1 hb
  have:=h2 j hj
  rw [cg hj] at this
  simpa using this
 ·refine ⟨fun h=>?_,fun h=>by omega⟩
  have:=h (r.getD i 0) (by rw [cg h2];exact List.getElem_mem h2)
  rw [h3] at this
  simp at this
theorem vR (n k:Str):cF n k=if n.length < k.length∧k.take n.length=n∧k.getD n.length 0=47 then (if noB (k.drop (n.length+1)) (k.drop (n.length+1)).length=true then some (k.drop (n.length+1)) else none) else none:=by
 unfold cF
 by_cases h1:gr k (n++[47])=true
 ·rw [if_pos (xp.1 h1)]
  by_cases h2:noB (k.drop (n.length+1)) (k.drop (n.length+1)).length=true
  ·rw [if_pos h2,if_pos ⟨h1,(tY _).1 h2⟩]
  ·rw [if_neg h2,if_neg fun h=>h2 ((tY _).2 h.2)]
 ·rw [if_neg fun h=>h1 h.1,if_neg fun h=>h1 (xp.2 h)]
end Go.Proofs.YtfbnaalhioogoaaGreatDoor
namespace Go.Proofs.YtfbnaalhioogoaaGreatDoor
open Go Go.Ab
set_option maxRecDepth 20000
set_option maxHeartbeats 4000000
theorem qP (L:PL) (hL:POk L) (n:Str) (hn:n.length≤140737488355000) (p:Oid):af Tryz.prog 208 [.list 4 (L.map aL),.str n] (Oid.under p) ⟨[],.list 1 ((bp L n).map AV.str),[]⟩:=by
 have hL1:=hL.len
 refine aJ (n:=66) (rs:=[.tmp 4]) Tryz.func208 rfl rfl (by decide) rfl rfl rfl ?_;rintro x rfl hrd hng
 refine qw0 ?_
 refine js 5 1 rfl ?_
 simp (disch:=first|omega|assumption) only [go_sem]
 refine bm [0,1,5,6] (fun k s'=>∃ (i d j c:Nat) (done:List Str),k=L.length - i∧i≤L.length∧d < c∧done.length≤i∧bp L n=done++bp (L.drop i) n ∧
   s' = ⟨[(0,.list 4 (L.map aL)),(1,.str n),(5,.sl (.sub d j x.p) 1 done.length),(6,.int .i64 i)],Mem.of [(.sub d j x.p,.arr 1 (done.map AV.str))],c,[]⟩) _ ⟨0,3,0,4,[],rfl,Nat.zero_le _,by omega,Nat.le_refl _,rfl,rfl⟩ ?_
 rintro k s' ⟨i,d,j,c,done,rfl,hi,hdc,hdl,hnm,rfl⟩
 refine qw0 ?_
 refine aX rfl rfl (fun hb=>?_) (fun hb=>?_)
 ·have hlt:i < L.length:=by omega
  have hkl:=hL.key (L.getD i default) (by rw [cg hlt];exact List.getElem_mem hlt)
  have hstep:bp (L.drop i) n=(cF n (L.getD i default).1).toList++bp (L.drop (i+1)) n:=by
   rw [drop_cons hlt,bp,List.filterMap_cons]
   cases cF n (L.getD i default).1<;>rfl
  rw [hstep,vR] at hnm
  generalize hq:L.getD i default=q at hnm hkl
  obtain ⟨s,qk,qm,ql⟩:=q
  simp only at hnm hkl
  (repeat (first|(refine aq rfl rfl ?_)|(refine ar rfl rfl ?_)|(refine aj nmd [] hng (by kernel_rfl) fun hf C S K hC1 hC hS hK=>?_;simp (disch:=first|omega|assumption) only [go_sem];refine hK ?_;clear hK hS hC hC1 K S C hf)|((first|refine zv ?_|refine zw ?_|refine zu ?_);with_reducible (constructor;repeat constructor);try refine zl ?_)))
  refine gI ?_
  (repeat (first|(refine aq rfl rfl ?_)|(refine ar rfl rfl ?_)|(refine aj nmd [] hng (by kernel_rfl) fun hf C S K hC1 hC hS hK=>?_;simp (disch:=first|omega|assumption) only [go_sem,hq,aL,AV.cells];refine hK ?_;clear hK hS hC hC1 K S C hf)|((first|refine zn ?_|refine ze ?_|refine zk ?_);with_reducible (constructor;repeat constructor);try refine zl ?_)))
  refine cQ [0,1,5,6,7,41] (fun s'=>∃ (b:Bool),s' = ⟨[(0,.list 4 (L.map aL)),(1,.str n),(5,.sl (.sub d j x.p) 1 done.length),(6,.int .i64 i),(7,.str s),(41,.bool b)],Mem.of [(.sub d j x.p,.arr 1 (done.map AV.str))],c+1+1+1,[]⟩∧(b=false↔(n.length < s.length∧s.take n.length=n∧s.getD n.length 0=47))) ?_ ?_
  ·refine aj nmd [(5,27),(13,35)] hng (by kernel_rfl) fun hf C S K hC1 hC hS hK=>?_;simp (disch:=first|omega|assumption) only [go_sem]
   (repeat' (first|(refine aD (fun hv=>?_) (fun hv=>?_)<;>(try simp only [zb1,zb2,zb3,zb4,zb5] at hv)<;>simp (disch:=first|omega|assumption) only [go_sem,hv,Int.reduceEq,Int.reduceNe,ne_eq,not_true_eq_false,not_false_eq_true,decide_true,decide_false])|(refine hK ?_;clear hK hS hC hC1 K S C hf)))
   ·rename_i h1
    refine aT ⟨_,rfl,?_⟩
    simp only [decide_eq_false_iff_not,Classical.not_not] at hv ⊢
    exact ⟨fun h=>⟨by omega,hv,UInt8.toNat_inj.1 (by have:(47:UInt8).toNat=47:=rfl;omega)⟩,fun h=>by rw [h.2.2];rfl⟩
   ·exact aT ⟨_,rfl,⟨fun h=>(by cases h),fun h=>absurd h.2.1 hv⟩⟩
   ·exact aT ⟨_,rfl,⟨fun h=>(by cases h),fun h=>(by omega)⟩⟩
  rintro s' ⟨b,rfl,hiff⟩
  refine jr rfl rfl (fun hb=>?_) (fun hb=>?_)
  ·have hC:¬ (n.length < s.length∧s.take n.length=n∧s.getD n.length 0=47):=fun h=>by rw [hiff.2 h] at hb;cases hb
   rw [if_neg hC] at hnm
   refine qw0 ?_
   exact ⟨_,_,by omega,fun _ _ h=>h,i+1,d,j,_,done,rfl,by omega,by omega,by omega,by simpa using hnm,rfl⟩
  ·have hC:=hiff.1 hb
   rw [if_pos hC] at hnm
   have hn1:((n.length:Int)+1).toNat=n.length+1:=by omega
   have hrl:(s.drop (n.length+1)).length≤1000000:=by rw [List.length_drop];omega
   generalize hr:s.drop (n.length+1)=r at hnm hrl
   have hsl:=hC.1
   refine qw (ai hn1 hr) ?_
   refine bm [0,1,5,6,8,9,10] (fun k s'=>∃ q c':Nat,k=r.length - q∧q≤r.length∧d < c'∧s' = ⟨[(0,.list 4 (L.map aL)),(1,.str n),(5,.sl (.sub d j x.p) 1 done.length),(6,.int .i64 i),(8,.str r),(9,.bool (noB r q)),(10,.int .i64 q)],Mem.of [(.sub d j x.p,.arr 1 (done.map AV.str))],c',[]⟩) _ ⟨0,_,rfl,Nat.zero_le _,by omega,rfl⟩ ?_
   rintro k s' ⟨q,c',rfl,hq2,hdc',rfl⟩
   refine qw0 ?_
   refine aX rfl rfl (fun hb=>?_) (fun hb=>?_)
   ·have hst:=Cv (r:=r) (k:=q) (by omega)
    cases hnb:noB r q with
    | true =>
     rw [hnb,Bool.true_and] at hst
     have h47:((r.getD q 0).toNat:Int)=47↔r.getD q 0=47:=II (n:=47) (by decide)
     refine qw0 ?_
     refine aj nmd [(1,54)] hng (by kernel_rfl) fun hf C S K hC1 hC hS hK=>?_;simp (disch:=first|omega|assumption) only [go_sem]
     refine hK ?_;clear hK hS hC hC1 K S C hf
     refine qw0 ?_
     exact ⟨_,_,by omega,fun _ _ h=>h,q+1,c' + 1+1+1,rfl,by omega,by omega,by rw [hst,← decide_eq_decide.2 (not_congr h47)];rfl⟩
    | false =>
     rw [hnb,Bool.false_and] at hst
     refine qw0 ?_
     refine aj nmd [(1,54)] hng (by kernel_rfl) fun hf C S K hC1 hC hS hK=>?_;simp (disch:=first|omega|assumption) only [go_sem]
     refine hK ?_;clear hK hS hC hC1 K S C hf
     refine qw0 ?_
     exact ⟨_,_,by omega,fun _ _ h=>h,q+1,c' + 1+1+1,rfl,by omega,by omega,by rw [hst];rfl⟩
   ·obtain rfl:q=r.length:=by omega
    cases hnb:noB r r.length with
    | true =>
     rw [hnb,if_pos rfl] at hnm
     refine qw0 ?_
     exact ⟨_,_,by omega,fun _ _ h=>h,i+1,c' + 1+1,3,c' + 1+1+1+1,done++[r],rfl,by omega,by omega,by simp only [List.length_append,List.length_cons,List.length_nil];omega,by simpa using hnm,by rw [List.length_append,List.map_append];rfl⟩
    | false =>
     rw [hnb,if_neg (by decide)] at hnm
     refine qw0 ?_
     exact ⟨_,_,by omega,fun _ _ h=>h,i+1,d,j,_,done,rfl,by omega,by omega,by omega,by simpa using hnm,rfl⟩
 ·obtain rfl:i=L.length:=by omega
  rw [List.drop_length] at hnm
  have hnm':bp L n=done:=by simpa [bp] using hnm
  refine qw0 ?_
  exact rM (xs:=done.map AV.str) rfl qs0 (by simp) (by rw [hnm'])
end Go.Proofs.YtfbnaalhioogoaaGreatDoor
namespace Go.Proofs.YtfbnaalhioogoaaGreatDoor
open Go Go.Ab
set_option maxRecDepth 20000
set_option maxHeartbeats 4000000
abbrev WL:=List (Str × Unit)
theorem tZ (r:Oid) (LL OO RR bb:AV) (W:WL) (hW:W.length≤140737488355328) (n:Str) (p:Oid) (hr:¬ Oid.under p r) :
  af Tryz.prog 115 [.ptr r 0,.str n] (Oid.under p) ⟨[(r,.cells [LL,OO,RR,.list 1 (W.map fun q=>.str q.1),bb])],.bool (aM n W).isSome,[]⟩:=by
 refine aJ (n:=24) (rs:=[.tmp 4]) Tryz.func115 rfl rfl (by decide) rfl rfl rfl ?_;rintro x rfl hrd hng
 refine qw (uu hr) ?_
 refine bm [0,1,5] (fun k s'=>∃ i c:Nat,k=W.length - i∧i≤W.length∧aM n W=aM n (W.drop i)∧s' = ⟨[(0,.ptr r 0),(1,.str n),(5,.int .i64 i)],Mem.of [(r,.cells [LL,OO,RR,.list 1 (W.map fun q=>.str q.1),bb])],c,[]⟩) _ ⟨0,_,rfl,Nat.zero_le _,rfl,rfl⟩ ?_
 rintro k s' ⟨i,c,rfl,hi,hlk,rfl⟩
 refine qw (uu hr) ?_
 refine aX rfl rfl (fun hb=>?_) (fun hb=>?_)
 ·have hlt:i < W.length:=by omega
  rw [drop_cons hlt,aM] at hlk
  generalize hq:W.getD i default=q at hlk
  obtain ⟨qn,qu⟩:=q
  simp only at hlk
  refine qw (ai (uu hr) hq) ?_
  refine aX rfl rfl (fun hb=>?_) (fun hb=>?_)
  ·rw [if_pos hb.symm] at hlk
   refine qw (uu hr) ?_
   refine aA (aZ (qs hlk) ?_ ?_)
   all_goals simp only [List.mem_cons,List.not_mem_nil,or_false,forall_eq_or_imp,forall_eq,Option.some.injEq,forall_eq',Mem.ao,eq_self,if_true,↓reduceIte,reduceCtorEq,implies_true,not_true_eq_false,false_imp_iff,true_and,and_true,false_and,and_false,imp_self]
  ·rw [if_neg (fun e=>hb e.symm)] at hlk
   refine qw (uu hr) ?_
   exact ⟨_,_,by omega,fun _ _ h=>h,i+1,_,rfl,by omega,hlk,rfl⟩
 ·have:i=W.length:=by omega
  subst this
  rw [List.drop_length] at hlk
  refine qw (uu hr) ?_
  refine aA (aZ (by simp (disch:=first|omega|assumption) only [go_sem,hlk,aM]) ?_ ?_)
  all_goals simp only [List.mem_cons,List.not_mem_nil,or_false,forall_eq_or_imp,forall_eq,Option.some.injEq,forall_eq',Mem.ao,eq_self,if_true,↓reduceIte,reduceCtorEq,implies_true,not_true_eq_false,false_imp_iff,true_and,and_true,false_and,and_false,imp_self]
theorem iP {κ ν:Type} [DecidableEq κ] {lt:κ→κ→Prop} [DecidableRel lt] (n:κ) (o:Option ν):∀ (L:List (κ × ν)) (i:Nat),i≤L.length→(∀ j q,j < i→L[j]? = some q→lt q.1 n)→(∀ q,L[i]? = some q→¬ lt q.1 n) →
  dH lt n o L=L.take i++eI n o++(match L[i]? with|some q=>if q.1=n then L.drop (i+1) else L.drop i|none=>[])
 | [],i,h,_,_=>by
  obtain rfl:i=0:=by simpa using h
  simp [dH]
 | q::L,0,_,_,h2=>by
  have h3:=h2 q (by simp)
  simp only [dH,if_neg h3,List.take_zero,List.nil_append,List.getElem?_cons_zero,List.drop_succ_cons,List.drop_zero]
 | q::L,i+1,h,h1,h2=>by
  have h3:=h1 0 q (by omega) (by simp)
  have ih:=iP (lt:=lt) n o L i (by simpa using h) (fun j q' hj hq=>h1 (j+1) q' (by omega) (by simpa using hq)) (fun q' hq=>h2 q' (by simpa using hq))
  simp only [dH,if_pos h3,ih,List.take_succ_cons,List.cons_append,List.getElem?_cons_succ,List.drop_succ_cons]
theorem zc {κ ν:Type} [DecidableEq κ] {lt:κ→κ→Prop} [DecidableRel lt] (ho:Ord lt) {n:κ} {b:ν} {L:List (κ × ν)} (hs:aY lt L) (h:aM n L=some b):dH lt n (some b) L=L:=by
 have h1:=fX ho n (some b) hs
 refine mc ho ((cJ ho n (some b) hs).trans ?_) h1 hs
 have hm:=(bK (hs.nodup ho)).1 h
 have hd:=hs.nodup ho
 clear h1 h hs
 induction L with
 | nil=>cases hm
 | cons q L ih =>
  simp only [List.map_cons,List.nodup_cons] at hd
  rcases List.mem_cons.1 hm with rfl|hm'
  ·rw [List.filter_cons_of_neg (by simp),iu hd.1]
   exact .refl _
  ·have hne:¬ q.1=n:=fun e=>hd.1 (e ▸ List.mem_map_of_mem (f:=(·.1)) hm')
   rw [List.filter_cons_of_pos (by simpa using hne)]
   exact (List.Perm.swap _ _ _).trans ((ih hm' hd.2).cons q)
end Go.Proofs.YtfbnaalhioogoaaGreatDoor
namespace Go.Proofs.YtfbnaalhioogoaaGreatDoor
open Go Go.Ab
set_option maxRecDepth 20000
set_option maxHeartbeats 4000000
def fe (tr:Bool) (n:Str) (W:WL):WL:=if n=[] then W else if tr then dH ltB n (some ()) W else W
theorem fZ {P:Program} {rs:List ResultVar} {need:List (Oid × aw)} {fr:List (Nat × AV)} {m:Mem} {c:Nat} {val:AV} {upd:List (Oid × Option aw)} (h1:gR P m fr rs=some val)
  (h2:∀ q,q ∈ upd→∀ o,q.2=some o→m q.1=some o) (h3:∀ q,q ∈ need→(∀ r,r ∈ upd→¬ r.1=q.1)→m q.1=some q.2):ez P rs need (fun v u=>v=val∧u=upd) (fun _ _=>False) .ret ⟨fr,m,c,[]⟩ :=
 bO val upd h1 ⟨rfl,rfl⟩ (rU h2 h3)
theorem xq (r:Oid) (OO RR:AV) (L:PL) (hL:L.length≤1000000) (W:WL) (hW:W.length≤1000000) (hWs:aY ltB W) (tr:Bool) (n:Str) (b:Bits) (p:Oid) (hr:¬ Oid.under p r) :
  af Tryz.prog 46 [.ptr r 0,.str n,b.av] (Oid.under p) ⟨[(r,.cells [.list 4 (L.map aL),OO,RR,.list 1 (W.map fun q=>.str q.1),.bool tr])],.tuple [],[(r,some (.cells [.list 4 ((eU n b L).map aL),OO,RR,.list 1 ((fe tr n W).map fun q=>.str q.1),.bool tr]))]⟩:=by
 have hr':∀ c i,¬ Oid.under (.sub c i p) r:=fun c i h=>hr (Oid.ae h)
 simp only [Bits.av]
 refine aJ (n:=141) (rs:=[]) Tryz.func46 rfl rfl (by decide) rfl rfl rfl ?_;rintro x rfl hrd hng
 refine oT ?_
 refine qw (uu hr) ?_
 refine aX rfl rfl (fun hb=>?_) (fun hb=>?_)
 ·have h1:eU n b L=L:=if_pos hb
  have h2:fe tr n W=W:=if_pos hb
  rw [h1,h2]
  refine qw (uu hr) ?_
  refine aA (.now (fZ rfl ?_ ?_))
  all_goals simp only [List.mem_cons,List.not_mem_nil,or_false,forall_eq_or_imp,forall_eq,Option.some.injEq,forall_eq',Mem.ao,eq_self,if_true,↓reduceIte,reduceCtorEq,implies_true,not_true_eq_false,false_imp_iff,true_and,and_true,false_and,and_false,imp_self]
 ·have hn:¬ n=[]:=hb
  refine qr .o (uu hr) trivial ?_
  refine ot ?_
  refine cQ [0,1,5] (fun s'=>∃ (B:Bits) (c:Nat),0 < c∧s' = ⟨[(0,.ptr r 0),(1,.str n),(5,.ptr (.sub 0 0 x.p) 0)],Mem.of [(r,.cells [.list 4 (L.map aL),OO,RR,.list 1 (W.map fun q=>.str q.1),.bool tr]),(.sub 0 0 x.p,.cells [.int .i64 B.k,.int .i64 B.m,.str B.l])],c,[]⟩∧(B.k=0↔b.k=0)∧(¬ b.k=0→B=b)) ?_ ?_
  ·refine aX rfl rfl (fun hb=>?_) (fun hb=>?_)
   ·refine qw (uu hr) ?_
    exact aT ⟨Bits.no,4,by decide,rfl,⟨fun _=>hb,fun _=>rfl⟩,fun h=>absurd hb h⟩
   ·refine qw (uu hr) ?_
    exact aT ⟨b,3,by decide,rfl,Iff.rfl,fun _=>rfl⟩
  rintro s' ⟨B,c,hc,rfl,hB0,hB1⟩
  refine ou ?_
  refine Kv [0,1,5] (fun s'=>∃ c2:Nat,0 < c2∧s' = ⟨[(0,.ptr r 0),(1,.str n),(5,.ptr (.sub 0 0 x.p) 0)],Mem.of [(r,.cells [.list 4 (L.map aL),OO,RR,.list 1 ((fe tr n W).map fun q=>.str q.1),.bool tr]),(.sub 0 0 x.p,.cells [.int .i64 B.k,.int .i64 B.m,.str B.l])],c2,[]⟩) ?_ ?_
  ·refine ou ?_
   refine cQ [0,1,5,25] (fun s'=>∃ q:Bool,s' = ⟨[(0,.ptr r 0),(1,.str n),(5,.ptr (.sub 0 0 x.p) 0),(25,.bool q)],Mem.of [(r,.cells [.list 4 (L.map aL),OO,RR,.list 1 (W.map fun q=>.str q.1),.bool tr]),(.sub 0 0 x.p,.cells [.int .i64 B.k,.int .i64 B.m,.str B.l])],c+1,[]⟩∧q=(tr && !(aM n W).isSome)) ?_ ?_
   ·cases tr with
    | false =>
     refine aj nmd [(4,20)] hng (by kernel_rfl) fun hf C S K hC1 hC hS hK=>?_;simp (disch:=first|omega|assumption) only [go_sem,Oid.ab hr,Oid.aa hr]
     refine hK ?_;clear hK hS hC hC1 K S C hf
     exact aT ⟨false,rfl,rfl⟩
    | true =>
     refine aj nmd [(4,20)] hng (by kernel_rfl) fun hf C S K hC1 hC hS hK=>?_;simp (disch:=first|omega|assumption) only [go_sem,Oid.ab hr,Oid.aa hr]
     refine hC1 _ (tZ r (.list 4 (L.map aL)) OO RR (.bool true) W (by omega) n _ (hr' _ _)) (qs (uu hr)) ?_
     simp (disch:=first|omega|assumption) only [go_sem,Oid.ab hr,Oid.aa hr]
     refine hK ?_;clear hK hS hC hC1 K S C hf
     exact aT ⟨_,rfl,by rw [Bool.true_and]⟩
   rintro s' ⟨q,rfl,hq⟩
   refine jr rfl rfl (fun hb=>?_) (fun hb=>?_)
   ·rw [hb] at hq
    have hq1:tr=true∧(aM n W).isSome=false:=by simpa using hq.symm
    obtain ⟨rfl,hls⟩:=hq1
    have hput:fe true n W=dH ltB n (some ()) W:=by unfold fe;rw [if_neg hn,if_pos rfl]
    refine qw0 ?_
    refine bm [0,1,5,6] (fun k s'=>∃ i c':Nat,k=W.length - i∧i≤W.length∧0 < c'∧(∀ j q,j < i→W[j]? = some q→ltB q.1 n)∧s' = ⟨[(0,.ptr r 0),(1,.str n),(5,.ptr (.sub 0 0 x.p) 0),(6,.int .i64 i)],Mem.of [(r,.cells [.list 4 (L.map aL),OO,RR,.list 1 (W.map fun q=>.str q.1),.bool true]),(.sub 0 0 x.p,.cells [.int .i64 B.k,.int .i64 B.m,.str B.l])],c',[]⟩) _ ⟨0,_,rfl,Nat.zero_le _,by omega,fun j q h=>by omega,rfl⟩ ?_
    rintro k s' ⟨i,c',rfl,hi,hc',hlt,rfl⟩
    have hc0:¬ c' = 0:=by omega
    (try ((first|refine zn ?_|refine ze ?_|refine zk ?_);with_reducible (constructor;repeat constructor));try refine zl ?_)
    refine cQ [0,1,5,6,43] (fun s'=>∃ q:Bool,s' = ⟨[(0,.ptr r 0),(1,.str n),(5,.ptr (.sub 0 0 x.p) 0),(6,.int .i64 i),(43,.bool q)],Mem.of [(r,.cells [.list 4 (L.map aL),OO,RR,.list 1 (W.map fun q=>.str q.1),.bool true]),(.sub 0 0 x.p,.cells [.int .i64 B.k,.int .i64 B.m,.str B.l])],c' + 1,[]⟩∧(q=true↔∃ e,W[i]? = some e∧ltB e.1 n)) ?_ ?_
    ·refine aj nmd [(7,33)] hng (by kernel_rfl) fun hf C S K hC1 hC hS hK=>?_;simp (disch:=first|omega|assumption) only [go_sem,Oid.ab hr,Oid.aa hr]
     (repeat' (first|(refine aD (fun hv=>?_) (fun hv=>?_)<;>(try simp only [zb1,zb2,zb3,zb4,zb5] at hv)<;>simp (disch:=first|omega|assumption) only [go_sem,hv,Oid.ab hr,Oid.aa hr])|(refine hK ?_;clear hK hS hC hC1 K S C hf)))
     ·have hl:i < W.length:=by omega
      exact aT ⟨_,rfl,⟨fun h=>⟨W.getD i default,by rw [cg hl,List.getElem?_eq_getElem hl],h⟩,fun ⟨e,he,h⟩=>by
       rw [List.getElem?_eq_getElem hl] at he
       simp only [Option.some.injEq] at he
       rw [cg hl,he];exact h⟩⟩
     ·exact aT ⟨_,rfl,⟨fun h=>(by cases h),fun ⟨e,he,h⟩=>by rw [List.getElem?_eq_none (by omega)] at he;cases he⟩⟩
    rintro s' ⟨q,rfl,hq⟩
    refine jr rfl rfl (fun hb=>?_) (fun hb=>?_)
    ·obtain ⟨e,he,hle⟩:=hq.1 hb
     have hl:i < W.length:=(List.getElem?_eq_some_iff.1 he).1
     refine qw0 ?_
     refine ⟨_,_,by omega,fun _ _ h=>h,i+1,_,rfl,by omega,by omega,fun j q' hj hq'=>?_,rfl⟩
     rcases Nat.lt_or_ge j i with h|h
     ·exact hlt j q' h hq'
     ·obtain rfl:j=i:=by omega
      rw [he] at hq';simp only [Option.some.injEq] at hq';rw [← hq'];exact hle
    ·have hnl:∀ q,W[i]? = some q→¬ ltB q.1 n:=fun q' h1 h2=>by rw [hq.2 ⟨q',h1,h2⟩] at hb;cases hb
     have hsp:=iP (lt:=ltB) n (some ()) W i hi hlt hnl
     have hno:∀ q,W[i]? = some q→¬ q.1=n:=fun q' h1 h2=>by
      have:=(bK (hWs.nodup fM) (n:=n) (b:=q'.2)).2 (by rw [← h2];exact List.mem_of_getElem? h1)
      rw [this] at hls;cases hls
     have hsp2:dH ltB n (some ()) W=W.take i++[(n,())]++W.drop i:=by
      rw [hsp]
      cases hwi:W[i]? with
      | none =>
       have hd:W.drop i=[]:=List.drop_eq_nil_of_le (List.getElem?_eq_none_iff.1 hwi)
       simp only [hd,eI,List.append_nil]
      | some q'=>simp only [if_neg (hno q' hwi)];rfl
     refine qw (uu hr) ?_
     refine xm ?_
     refine iw (.sub (c' + 1+1+1+1) 8 x.p) r 1 ((dH ltB n (some ()) W).map fun q=>.str q.1) [.list 4 (L.map aL),OO,RR,.sl (.sub (c' + 1+1+1+1) 8 x.p) 1 (min i W.length+1+(W.length - i)),.bool true] [.list 4 (L.map aL),OO,RR,.list 1 ((dH ltB n (some ()) W).map fun q=>.str q.1),.bool true] ?_ ?_ ?_ ?_ ?_
     ·simp (disch:=first|omega|assumption) only [go_sem,Oid.ab hr,Oid.aa hr]
      rw [hsp2];simp
     ·simp (disch:=first|omega|assumption) only [go_sem,Oid.ab hr,Oid.aa hr]
     ·exact fun e=>hr (e ▸ Oid.ae (Oid.az _))
     ·exact .keep (.keep (.keep (.gD (by rw [hsp2];simp only [List.length_map,List.length_append,List.length_take,List.length_drop,List.length_cons,List.length_nil]) (.keep .nil))))
     ·simp (disch:=first|omega|assumption) only [go_sem,Oid.ab hr,Oid.aa hr]
      rw [hput]
      exact .now ⟨_,fun _ _ h=>h,c' + 1+1+1+1+1,by omega,rfl⟩
   ·rw [hb] at hq
    have hpw:fe tr n W=W:=by
     unfold fe
     rw [if_neg hn]
     cases tr with
     | false=>rfl
     | true =>
      have hs:(aM n W).isSome=true:=by simpa using hq.symm
      obtain ⟨u,hu⟩:=Option.isSome_iff_exists.1 hs
      rw [if_pos rfl]
      exact zc fM hWs hu
    rw [hpw]
    refine qw0 ?_
    exact xm (.now ⟨_,fun _ _ h=>h,c+1,by omega,rfl⟩)
  rintro s' ⟨c2,hc2,rfl⟩
  generalize fe tr n W=V
  have hput:eU n b L=dH ltB n (if b.k=0 then none else some b) L:=if_neg hn
  rw [hput]
  generalize ho:(if b.k=0 then none else some b)=o
  refine qw0 ?_
  refine js 8 4 rfl ?_
  simp (disch:=first|omega|assumption) only [go_sem]
  refine bm [0,1,5,8,9] (fun k s'=>∃ (i d j c:Nat),k=L.length - i∧i≤L.length∧0 < d∧d < c∧(∀ j q,j < i→L[j]? = some q→ltB q.1 n)∧s' = ⟨[(0,.ptr r 0),(1,.str n),(5,.ptr (.sub 0 0 x.p) 0),(8,.sl (.sub d j x.p) 4 i),(9,.int .i64 i)],Mem.of [(r,.cells [.list 4 (L.map aL),OO,RR,.list 1 (V.map fun q=>.str q.1),.bool tr]),(.sub 0 0 x.p,.cells [.int .i64 B.k,.int .i64 B.m,.str B.l]),(.sub d j x.p,.arr 4 ((L.take i).map aL))],c,[]⟩) _ ⟨0,c2+1+1,0,_,rfl,Nat.zero_le _,by omega,Nat.lt_succ_self _,fun j q h=>by omega,?_⟩ ?_
  ·rfl
  rintro k s' ⟨i,d,j,c,rfl,hi,hd,hdc,hlt,rfl⟩
  have hd0:¬ d=0:=by omega
  have hc0:¬ c=0:=by omega
  (try ((first|refine zn ?_|refine ze ?_|refine zk ?_);with_reducible (constructor;repeat constructor));try refine zl ?_)
  refine cQ [0,1,5,8,9,87] (fun s'=>∃ q:Bool,s' = ⟨[(0,.ptr r 0),(1,.str n),(5,.ptr (.sub 0 0 x.p) 0),(8,.sl (.sub d j x.p) 4 i),(9,.int .i64 i),(87,.bool q)],Mem.of [(r,.cells [.list 4 (L.map aL),OO,RR,.list 1 (V.map fun q=>.str q.1),.bool tr]),(.sub 0 0 x.p,.cells [.int .i64 B.k,.int .i64 B.m,.str B.l]),(.sub d j x.p,.arr 4 ((L.take i).map aL))],c+1,[]⟩∧(q=true↔∃ e,L[i]? = some e∧ltB e.1 n)) ?_ ?_
  ·generalize hg:L.getD i default=q
   obtain ⟨qn,qk,qm,ql⟩:=q
   refine aj nmd [(7,76)] hng (by kernel_rfl) fun hf C S K hC1 hC hS hK=>?_;simp (disch:=first|omega|assumption) only [go_sem,Oid.ab hr,Oid.aa hr,hg,aL,AV.cells]
   (repeat' (first|(refine aD (fun hv=>?_) (fun hv=>?_)<;>(try simp only [zb1,zb2,zb3,zb4,zb5] at hv)<;>simp (disch:=first|omega|assumption) only [go_sem,hv,Oid.ab hr,Oid.aa hr,hg,aL,AV.cells])|(refine hK ?_;clear hK hS hC hC1 K S C hf)))
   ·have hl:i < L.length:=by omega
    rw [cg hl] at hg
    exact aT ⟨_,rfl,⟨fun h=>⟨(qn,⟨qk,qm,ql⟩),by rw [List.getElem?_eq_getElem hl,hg],h⟩,fun ⟨e,he,h⟩=>by
     rw [List.getElem?_eq_getElem hl,hg] at he
     simp only [Option.some.injEq] at he
     rw [← he] at h;exact h⟩⟩
   ·exact aT ⟨_,rfl,⟨fun h=>(by cases h),fun ⟨e,he,h⟩=>by rw [List.getElem?_eq_none (by omega)] at he;cases he⟩⟩
  rintro s' ⟨q,rfl,hq⟩
  refine jr rfl rfl (fun hb=>?_) (fun hb=>?_)
  ·obtain ⟨e,he,hle⟩:=hq.1 hb
   have hl:i < L.length:=(List.getElem?_eq_some_iff.1 he).1
   have hts:=gU aL hl
   generalize hg:L.getD i default=g at hts
   obtain ⟨qn,qk,qm,ql⟩:=g
   simp only [aL] at hts
   (repeat (first|(refine aq rfl rfl ?_)|(refine ar rfl rfl ?_)|(refine aj nmd [] hng (by kernel_rfl) fun hf C S K hC1 hC hS hK=>?_;simp (disch:=first|omega|assumption) only [go_sem,Oid.ab hr,Oid.aa hr,hg,aL,AV.cells];refine hK ?_;clear hK hS hC hC1 K S C hf)|((first|refine zn ?_|refine ze ?_|refine zk ?_);with_reducible (constructor;repeat constructor);try refine zl ?_)))
   refine ⟨_,_,by omega,fun _ _ h=>h,i+1,c+1,9,c+1+1+1,rfl,by omega,by omega,by omega,fun j q' hj hq'=>?_,?_⟩
   ·rcases Nat.lt_or_ge j i with h|h
    ·exact hlt j q' h hq'
    ·obtain rfl:j=i:=by omega
     rw [he] at hq';simp only [Option.some.injEq] at hq';rw [← hq'];exact hle
   ·rw [hts];rfl
  ·have hnl:∀ q,L[i]? = some q→¬ ltB q.1 n:=fun q' h1 h2=>by rw [hq.2 ⟨q',h1,h2⟩] at hb;cases hb
   have hsp:=iP (lt:=ltB) n o L i hi hlt hnl
   refine qr .o (uu hr) trivial ?_
   refine ot ?_
   refine cQ [0,1,5,8,9] (fun s'=>∃ (d j c:Nat),0 < d∧d < c∧s' = ⟨[(0,.ptr r 0),(1,.str n),(5,.ptr (.sub 0 0 x.p) 0),(8,.sl (.sub d j x.p) 4 (i+(eI n o).length)),(9,.int .i64 i)],Mem.of [(r,.cells [.list 4 (L.map aL),OO,RR,.list 1 (V.map fun q=>.str q.1),.bool tr]),(.sub 0 0 x.p,.cells [.int .i64 B.k,.int .i64 B.m,.str B.l]),(.sub d j x.p,.arr 4 ((L.take i++eI n o).map aL))],c,[]⟩) ?_ ?_
   ·refine aX rfl rfl (fun hb=>?_) (fun hb=>?_)
    ·have hk:¬ b.k=0:=fun h=>hb (hB0.2 h)
     obtain rfl:=hB1 hk
     rw [if_neg hk] at ho
     subst ho
     refine qw (uu hr) ?_
     exact aT ⟨c+1+1,5,c+1+1+1,by omega,by omega,by rw [List.map_append];rfl⟩
    ·have hk:b.k=0:=hB0.1 (by simpa using hb)
     rw [if_pos hk] at ho
     subst ho
     refine qw (uu hr) ?_
     exact aT ⟨d,j,c+1+1,hd,by omega,by simp only [eI,List.append_nil];rfl⟩
   rintro s' ⟨d,j,c,hd,hdc,rfl⟩
   have hd0:¬ d=0:=by omega
   have hc0:¬ c=0:=by omega
   refine ou ?_
   refine cQ [0,1,5,8,9] (fun s'=>∃ (i' c2:Nat),i'≤L.length∧d < c2∧s' = ⟨[(0,.ptr r 0),(1,.str n),(5,.ptr (.sub 0 0 x.p) 0),(8,.sl (.sub d j x.p) 4 (i+(eI n o).length)),(9,.int .i64 i')],Mem.of [(r,.cells [.list 4 (L.map aL),OO,RR,.list 1 (V.map fun q=>.str q.1),.bool tr]),(.sub 0 0 x.p,.cells [.int .i64 B.k,.int .i64 B.m,.str B.l]),(.sub d j x.p,.arr 4 ((L.take i++eI n o).map aL))],c2,[]⟩∧dH ltB n o L=L.take i++eI n o++L.drop i') ?_ ?_
   ·generalize hg:L.getD i default=g
    obtain ⟨qn,qk,qm,ql⟩:=g
    generalize htl:(eI n o).length=tl
    generalize hrow:(L.take i++eI n o).map aL=row
    refine ou ?_
    refine aj nmd [(7,116)] hng (by kernel_rfl) fun hf C S K hC1 hC hS hK=>?_;simp (disch:=first|omega|assumption) only [go_sem,Oid.ab hr,Oid.aa hr,hg,aL,AV.cells]
    (repeat' (first|(refine aD (fun hv=>?_) (fun hv=>?_)<;>(try simp only [zb1,zb2,zb3,zb4,zb5] at hv)<;>simp (disch:=first|omega|assumption) only [go_sem,hv,Oid.ab hr,Oid.aa hr,hg,aL,AV.cells])|(refine hK ?_;clear hK hS hC hC1 K S C hf)))
    ·have hl:i < L.length:=by omega
     rw [cg hl] at hg
     rw [List.getElem?_eq_getElem hl,hg] at hsp
     refine ot ?_
     refine aX rfl rfl (fun hb=>?_) (fun hb=>?_)
     ·refine qw0 ?_
      exact aT ⟨i+1,c+1+1,by omega,by omega,rfl,by rw [hsp];simp only [if_pos hb]⟩
     ·refine qw0 ?_
      exact aT ⟨i,c+1,by omega,by omega,rfl,by rw [hsp];simp only [if_neg hb]⟩
    ·rw [List.getElem?_eq_none (by omega)] at hsp
     refine qw0 ?_
     exact aT ⟨i,c+1,by omega,by omega,rfl,by rw [hsp];simp [List.drop_eq_nil_of_le (show L.length≤i by omega)]⟩
   rintro s' ⟨i',c2,hi',hdc2,rfl,hins⟩
   have hc20:¬ c2=0:=by omega
   have htl:(eI n o).length≤1:=by cases o<;>simp [eI]
   refine qr .o (uu hr) trivial ?_
   refine bZ (iw (.sub c2 8 x.p) r 4 ((dH ltB n o L).map aL) [.sl (.sub c2 8 x.p) 4 (i+(eI n o).length+(L.length - i')),OO,RR,.list 1 (V.map fun q=>.str q.1),.bool tr] [.list 4 ((dH ltB n o L).map aL),OO,RR,.list 1 (V.map fun q=>.str q.1),.bool tr] ?_ ?_ ?_ (.gD ?_ (.keep (.keep (.keep (.keep .nil))))) (.now (bQ rfl ?_ ?_)))
   ·simp (disch:=first|omega|assumption) only [go_sem,Oid.ab hr,Oid.aa hr]
    rw [hins];simp
   ·simp (disch:=first|omega|assumption) only [go_sem,Oid.ab hr,Oid.aa hr]
   ·exact fun e=>hr (e ▸ Oid.ae (Oid.az _))
   ·rw [hins];simp only [List.length_map,List.length_append,List.length_take,List.length_drop];omega
   ·simp (disch:=first|omega|assumption) only [go_sem,Oid.ab hr,Oid.aa hr]
    all_goals simp only [List.mem_cons,List.not_mem_nil,or_false,forall_eq_or_imp,forall_eq,Option.some.injEq,forall_eq',Mem.ao,eq_self,if_true,↓reduceIte,reduceCtorEq,implies_true,not_true_eq_false,false_imp_iff,true_and,and_true,false_and,and_false,imp_self]
   ·simp (disch:=first|omega|assumption) only [go_sem,Oid.ab hr,Oid.aa hr]
    all_goals simp only [List.mem_cons,List.not_mem_nil,or_false,forall_eq_or_imp,forall_eq,Option.some.injEq,forall_eq',Mem.ao,eq_self,if_true,↓reduceIte,reduceCtorEq,implies_true,not_true_eq_false,false_imp_iff,true_and,and_true,false_and,and_false,imp_self]
end Go.Proofs.YtfbnaalhioogoaaGreatDoor
namespace Go.Proofs.YtfbnaalhioogoaaGreatDoor
open Go Go.Ab
set_option maxRecDepth 20000
set_option maxHeartbeats 4000000
theorem GL (p:Oid):af Tryz.prog 51 [] (Oid.under p) ⟨[],.ptr (.sub 1 1 p) 0,[(.sub 1 1 p,some (.cells [.list 4 [],.list 4 [],.list 3 [],.list 1 [],.bool false]))]⟩:=by
 refine aJ (n:=3) (rs:=[.tmp 0]) Tryz.func51 rfl rfl (by decide) rfl rfl rfl ?_;rintro x rfl hrd hng
 refine oT ?_
 refine qw0 ?_
 refine aA (GK (.sub 1 1 x.p) [.nilSl,.nilSl,.nilSl,.nilSl,.bool false] [.list 4 [],.list 4 [],.list 3 [],.list 1 [],.bool false] ?_ (.cons (.nA 4) (.cons (.nA 4) (.cons (.nA 3) (.cons (.nA 1) (.cons (.refl _) .nil))))) (.now (fZ rfl ?_ ?_)))
 ·simp (disch:=first|omega|assumption) only [go_sem]
 ·simp (disch:=first|omega|assumption) only [go_sem]
  all_goals simp only [List.mem_cons,List.not_mem_nil,or_false,forall_eq_or_imp,forall_eq,Option.some.injEq,forall_eq',Mem.ao,eq_self,if_true,↓reduceIte,reduceCtorEq,implies_true,not_true_eq_false,false_imp_iff,true_and,and_true,false_and,and_false,imp_self]
 ·simp (disch:=first|omega|assumption) only [go_sem]
  all_goals simp only [List.mem_cons,List.not_mem_nil,or_false,forall_eq_or_imp,forall_eq,Option.some.injEq,forall_eq',Mem.ao,eq_self,if_true,↓reduceIte,reduceCtorEq,implies_true,not_true_eq_false,false_imp_iff,true_and,and_true,false_and,and_false,imp_self]
theorem zd (r:Oid) (L:PL) (OO RR WW:AV) (n:Str) (f:Bool) (p:Oid) (hr:¬ Oid.under p r) :
  af Tryz.prog 127 [.ptr r 0,.str n,.bool f] (Oid.under p) ⟨[(r,.cells [.list 4 (L.map aL),OO,RR,WW,.bool false])],.tuple [],[]⟩:=by
 refine aJ (n:=144) (rs:=[]) Tryz.func127 rfl rfl (by decide) rfl rfl rfl ?_;rintro x rfl hrd hng
 (try ((first|refine zn ?_|refine ze ?_|refine zk ?_);with_reducible (constructor;repeat constructor));try refine zl ?_)
 refine aj nmd [(5,14),(8,17)] hng (by kernel_rfl) fun hf C S K hC1 hC hS hK=>?_;simp (disch:=first|omega|assumption) only [go_sem,Oid.ab hr,Oid.aa hr]
 refine hK ?_;clear hK hS hC hC1 K S C hf
 refine qw0 ?_
 refine aA (aZ rfl ?_ ?_)
 all_goals simp only [List.mem_cons,List.not_mem_nil,or_false,forall_eq_or_imp,forall_eq,Option.some.injEq,forall_eq',Mem.ao,eq_self,if_true,↓reduceIte,reduceCtorEq,implies_true,not_true_eq_false,false_imp_iff,true_and,and_true,false_and,and_false,imp_self]
theorem zf (r:Oid) (L:PL) (hL:L.length≤1000000) (OO RR WW:AV) (tr:Bool) (p:Oid) (hr:¬ Oid.under p r) :
  af Tryz.prog 48 [.ptr r 0] (Oid.under p) ⟨[(r,.cells [.list 4 (L.map aL),OO,RR,WW,.bool tr])],.list 1 (L.map fun q=>.str q.1),[]⟩:=by
 refine aJ (n:=26) (rs:=[.tmp 2]) Tryz.func48 rfl rfl (by decide) rfl rfl rfl ?_;rintro x rfl hrd hng
 refine oT ?_
 refine qw (uu hr) ?_
 refine js 3 1 rfl ?_
 simp (disch:=first|omega|assumption) only [go_sem]
 refine bm [0,3,4] (fun k s'=>∃ (i d j c:Nat),k=L.length - i∧i≤L.length∧d < c∧s' = ⟨[(0,.ptr r 0),(3,.sl (.sub d j x.p) 1 i),(4,.int .i64 i)],Mem.of [(r,.cells [.list 4 (L.map aL),OO,RR,WW,.bool tr]),(.sub d j x.p,.arr 1 ((L.take i).map fun q=>.str q.1))],c,[]⟩) _ ⟨0,3,0,4,rfl,Nat.zero_le _,by omega,rfl⟩ ?_
 rintro k s' ⟨i,d,j,c,rfl,hi,hdc,rfl⟩
 refine qw (uu hr) ?_
 refine aX rfl rfl (fun hb=>?_) (fun hb=>?_)
 ·have hl:i < L.length:=by omega
  have hts:=gU (fun q:Str × Bits=>AV.str q.1) hl
  generalize hg:L.getD i default=g at hts
  obtain ⟨qn,qk,qm,ql⟩:=g
  simp only at hts
  (repeat (first|(refine aq rfl rfl ?_)|(refine ar rfl rfl ?_)|(refine aj nmd [] hng (by kernel_rfl) fun hf C S K hC1 hC hS hK=>?_;simp (disch:=first|omega|assumption) only [go_sem,Oid.ab hr,Oid.aa hr,hg,aL,AV.cells];refine hK ?_;clear hK hS hC hC1 K S C hf)|((first|refine zn ?_|refine ze ?_|refine zk ?_);with_reducible (constructor;repeat constructor);try refine zl ?_)))
  exact ⟨_,_,by omega,fun _ _ h=>h,i+1,c+1,10,c+1+1+1,rfl,by omega,by omega,by rw [hts];rfl⟩
 ·obtain rfl:i=L.length:=by omega
  refine qw (uu hr) ?_
  refine aA (Cr (.sub d j x.p) 1 (L.map fun q=>.str q.1) ?_ (.now (fZ ?_ ?_ ?_)))
  ·simp (disch:=first|omega|assumption) only [go_sem,Oid.ab hr,Oid.aa hr]
   rw [List.take_length]
  ·simp (disch:=first|omega|assumption) only [go_sem,Oid.ab hr,Oid.aa hr]
  ·simp (disch:=first|omega|assumption) only [go_sem,Oid.ab hr,Oid.aa hr]
   all_goals simp only [List.mem_cons,List.not_mem_nil,or_false,forall_eq_or_imp,forall_eq,Option.some.injEq,forall_eq',Mem.ao,eq_self,if_true,↓reduceIte,reduceCtorEq,implies_true,not_true_eq_false,false_imp_iff,true_and,and_true,false_and,and_false,imp_self]
  ·simp (disch:=first|omega|assumption) only [go_sem,Oid.ab hr,Oid.aa hr]
   all_goals simp only [List.mem_cons,List.not_mem_nil,or_false,forall_eq_or_imp,forall_eq,Option.some.injEq,forall_eq',Mem.ao,eq_self,if_true,↓reduceIte,reduceCtorEq,implies_true,not_true_eq_false,false_imp_iff,true_and,and_true,false_and,and_false,imp_self]
end Go.Proofs.YtfbnaalhioogoaaGreatDoor
namespace Go.Proofs.YtfbnaalhioogoaaGreatDoor
open Go Go.Ab
set_option maxRecDepth 20000
set_option maxHeartbeats 4000000
theorem zg (b1 o:Oid) (es:List ME) (clock:Nat) (p:Oid) (hne1:¬ o=b1) (hb1:¬ Oid.under p b1) (ho:¬ Oid.under p o) :
  og Tryz.prog 185 [.ptr b1 0] p [(b1,.cells [.map o]),(o,.map [.ss] false es clock)] 1 (fun pre xs=>pre.length < es.length∧∃ s:Str,xs=[.str s]) (fun b pre=>b=true→∃ U:List ME,U.Perm es∧pre=U.map fun e=>[.str (cZ e)]):=by
 intro l J L0 hJ hdis hnp hY
 refine eA (by kernel_rfl) fun hcon=>?_
 refine gT (n:=14) (rs:=[]) Tryz.func185 rfl rfl (by decide) rfl rfl rfl ?_;rintro x rfl hrd hng
 have hcL:∀ q ∈ L0,Mem.of L0 q.1=some q.2:=fun q hq=>by
  have:=hcon q (List.mem_append_right _ hq)
  rwa [vL fun q' hq'=>hdis q hq q' hq'] at this
 generalize hQ:ez Tryz.prog [] ([(b1,.cells [.map o]),(o,.map [.ss] false es clock)]++L0) _ _=Q
 refine Ee fun hwf=>?_
 obtain ⟨hw1,hw2⟩:=hwf o [.ss] false es clock (by simp only [aS,a7,Mem.ao,Mem.aG,Mem.aN,Mem.aP,bu,bP,List.cons_append,List.nil_append,List.append_nil,↓reduceIte,eq_self,and_true,true_and,and_self,and_false,false_and,reduceCtorEq,Oid.sub.injEq,Nat.reduceEqDiff,hne1,Oid.aa hb1,Oid.aa ho,Oid.ab hb1,Oid.ab ho])
 have hstr:∀ e ∈ es,e.key = .str (cZ e):=fun e he=>by
  obtain ⟨s,hs⟩:=jy (hw1 e he).1
  simp only [cZ,hs]
 (try ((first|refine zn ?_|refine ze ?_|refine zk ?_);with_reducible (constructor;repeat constructor));try refine zl ?_)
 refine aj nmd [] hng (by kernel_rfl) fun hf C S K hC1 hC hS hK=>?_;simp (disch:=first|omega|assumption) only [go_sem,hne1,Oid.aa hb1,Oid.aa ho,Oid.ab hb1,Oid.ab ho,aK]
 refine hK ?_;clear hK hS hC hC1 K S C hf
 (try ((first|refine zn ?_|refine ze ?_|refine zk ?_);with_reducible (constructor;repeat constructor));try refine zl ?_)
 have hn0:∀ q ∈ L0,¬ q.1=b1∧¬ q.1=o∧¬ q.1 = .sub 0 1 x.p:=fun q hq=>⟨hdis q hq _ List.mem_cons_self,hdis q hq _ (List.mem_cons_of_mem _ List.mem_cons_self),fun e=>hnp q hq (e ▸ Oid.ae (Oid.az _))⟩
 refine kh ([(b1,.cells [.map o]),(o,.map [.ss] false es clock),(.sub 0 1 x.p,.iter (some o) clock [] clock)]++L0) (jW ?_ ?_) ?_
 ·simp only [aS,a7,Mem.ao,Mem.aG,Mem.aN,Mem.aP,bu,bP,List.cons_append,List.nil_append,List.append_nil,↓reduceIte,eq_self,and_true,true_and,and_self,and_false,false_and,reduceCtorEq,Oid.sub.injEq,Nat.reduceEqDiff,hne1,Oid.aa hb1,Oid.aa ho,Oid.ab hb1,Oid.ab ho,aK]
 ·intro q hq
  obtain ⟨a1,a2,a3⟩:=hn0 q hq
  simp only [aS,a7,Mem.ao,Mem.aG,Mem.aN,Mem.aP,bu,bP,List.cons_append,List.nil_append,List.append_nil,↓reduceIte,eq_self,and_true,true_and,and_self,and_false,false_and,reduceCtorEq,Oid.sub.injEq,Nat.reduceEqDiff,aK,a1,a2,a3]
  exact hcL q hq
 refine bm [0,1,5] (fun q s'=>∃ (c:Nat) (U:List ME) (L:List (Oid × aw)),s' = ⟨[(0,.fn (.yield l) [] []),(1,.ptr b1 0),(5,.iter (.sub 0 1 x.p))],Mem.of ([(b1,.cells [.map o]),(o,.map [.ss] false es clock),(.sub 0 1 x.p,.iter (some o) clock (U.map ME.born) clock)]++L),c,[]⟩∧0 < c∧q=es.length - U.length∧(U.map ME.born).Nodup∧(∀ e ∈ U,e ∈ es)∧J true (U.map fun e=>[.str (cZ e)]) L ∧
  (∀ q ∈ L,Mem.of L q.1=some q.2)∧∀ q ∈ L,((∃ q' ∈ L0,q'.1=q.1)∨Oid.under x.p q.1)∧¬ q.1=b1∧¬ q.1=o∧¬ q.1 = .sub 0 1 x.p∧∀ d j,c≤d→¬ Oid.under (.sub d j x.p) q.1) es.length ⟨_,[],L0,rfl,by omega,rfl,List.nodup_nil,fun i h=>(by cases h),hJ,hcL,fun q hq=>⟨.inl ⟨q,hq,rfl⟩,(hn0 q hq).1,(hn0 q hq).2.1,(hn0 q hq).2.2,fun d j _ h=>hnp q hq (Oid.ae h)⟩⟩ ?_
 rintro q s' ⟨c,U,L,rfl,hc,rfl,hnd,hlt,hj,hcc,hnm⟩
 have hst:U.map ME.born=[]∨es=[]∨∃ e ∈ es,e.born < clock:=by
  cases U with
  | nil=>exact .inl rfl
  | cons e _=>exact .inr (.inr ⟨e,hlt e List.mem_cons_self,(hw1 e (hlt e List.mem_cons_self)).2⟩)
 (try ((first|refine zn ?_|refine ze ?_|refine zk ?_);with_reducible (constructor;repeat constructor));try refine zl ?_)
 refine aj nmd [] hng (by kernel_rfl) fun hf C S K hC1 hC hS hK=>?_;simp (disch:=first|omega|assumption) only [go_sem]
 refine hS _ _ _ (fun o' hd ho'=>nw (it:=.sub 0 1 x.p) (id:=o) (since:=clock) (ks:=[.ss]) (ag:=false) (clock:=clock) ho' rfl hst) ?_ ?_ (fun _ _ h=>h.elim)
 ·simp only [aS,a7,Mem.ao,Mem.aG,Mem.aN,Mem.aP,bu,bP,List.cons_append,List.nil_append,List.append_nil,↓reduceIte,eq_self,and_true,true_and,and_self,and_false,false_and,reduceCtorEq,Oid.sub.injEq,Nat.reduceEqDiff,hne1,Oid.aa hb1,Oid.aa ho,Oid.ab hb1,Oid.ab ho]
 rintro val upd (⟨e,he,hns,rfl,rfl⟩|⟨hall,rfl,rfl⟩)
 ·have hfi:=find_born hw2 he
  have hk:=hstr e he
  have hnd':((U++[e]).map ME.born).Nodup:=by
   rw [List.map_append]
   exact List.nodup_append.2 ⟨hnd,by simp,fun a ha b hb' e'=>by simp at hb';subst hb';subst e';exact hns ha⟩
  have hlt':∀ j ∈ U++[e],j ∈ es:=fun j hj=>by
   rcases List.mem_append.1 hj with hj|hj
   ·exact hlt j hj
   ·simp at hj;subst hj;exact he
  have hle:=nz hw2 hlt' hnd'
  generalize hks:cZ e=s at *
  simp (disch:=first|omega|assumption) only [go_sem,hne1,Oid.aa hb1,Oid.aa ho,Oid.ab hb1,Oid.ab ho,aK,hk]
  refine hK ?_;clear hK hS hC hC1 K S C hf
  (repeat (first|(refine aq rfl rfl ?_)|(refine ar rfl rfl ?_)|(refine aj nmd [] hng (by kernel_rfl) fun hf C S K hC1 hC hS hK=>?_;simp (disch:=first|omega|assumption) only [go_sem];refine hK ?_;clear hK hS hC hC1 K S C hf)|((first|refine zv ?_|refine zw ?_|refine zu ?_);with_reducible (constructor;repeat constructor);try refine zl ?_)))
  refine gI ?_
  (repeat (first|(refine aq rfl rfl ?_)|(refine ar rfl rfl ?_)|(refine aj nmd [] hng (by kernel_rfl) fun hf C S K hC1 hC hS hK=>?_;simp (disch:=first|omega|assumption) only [go_sem];refine hK ?_;clear hK hS hC hC1 K S C hf)|((first|refine zv ?_|refine zw ?_|refine zu ?_);with_reducible (constructor;repeat constructor);try refine zl ?_)))
  refine aj nmd [] hng (by kernel_rfl) fun hf C S K hC1 hC hS hK=>?_;simp (disch:=first|omega|assumption) only [go_sem,hne1,Oid.aa hb1,Oid.aa ho,Oid.ab hb1,Oid.ab ho,aK,hfi,hk,List.getLast?_concat]
  refine hK ?_;clear hK hS hC hC1 K S C hf
  (repeat (first|(refine aq rfl rfl ?_)|(refine ar rfl rfl ?_)|(refine aj nmd [] hng (by kernel_rfl) fun hf C S K hC1 hC hS hK=>?_;simp (disch:=first|omega|assumption) only [go_sem];refine hK ?_;clear hK hS hC hC1 K S C hf)|((first|refine zv ?_|refine zw ?_|refine zu ?_);with_reducible (constructor;repeat constructor);try refine zl ?_)))
  have hnL:∀ q ∈ L,∀ q' ∈ ([(b1,.cells [.map o]),(o,.map [.ss] false es clock),(.sub 0 1 x.p,.iter (some o) clock (U.map ME.born++[e.born]) clock)]:List (Oid × aw)),¬ q.1=q'.1:=fun q hq=>by
   obtain ⟨_,a1,a2,a3,a4⟩:=hnm q hq
   simp only [aS,a7,Mem.ao,Mem.aG,Mem.aN,Mem.aP,bu,bP,List.cons_append,List.nil_append,List.append_nil,↓reduceIte,eq_self,and_true,true_and,and_self,and_false,false_and,reduceCtorEq,Oid.sub.injEq,Nat.reduceEqDiff,a1,a2,a3,not_false_eq_true]
  have hBm:∀ q ∈ ([(b1,.cells [.map o]),(o,.map [.ss] false es clock),(.sub 0 1 x.p,.iter (some o) clock (U.map ME.born++[e.born]) clock)]:List (Oid × aw)),Mem.of ([(b1,.cells [.map o]),(o,.map [.ss] false es clock),(.sub 0 1 x.p,.iter (some o) clock (U.map ME.born++[e.born]) clock)]++L) q.1=some q.2:=by
   simp only [aS,a7,Mem.ao,Mem.aG,Mem.aN,Mem.aP,bu,bP,List.cons_append,List.nil_append,List.append_nil,↓reduceIte,eq_self,and_true,true_and,and_self,and_false,false_and,reduceCtorEq,Oid.sub.injEq,Nat.reduceEqDiff,hne1,Oid.aa hb1,Oid.aa ho,Oid.ab hb1,Oid.ab ho]
  have hall:=eH hBm hnL hcc
  have hmm:(U++[e]).map ME.born=U.map ME.born++[e.born]:=by simp
  have hlen2:(U++[e]).length=U.length+1:=by simp
  refine aj nmd [] hng (by kernel_rfl) fun hf C S K hC1 hC hS hK=>?_;simp (disch:=first|omega|assumption) only [go_sem,hne1,Oid.aa hb1,Oid.aa ho,Oid.ab hb1,Oid.ab ho,aK]
  refine hS _ _ _ (fun o' hd ho'=>lZ ho' rfl (hY _ [.str s] L (.sub (c+1+1) 2 x.p) hj rfl ⟨by rw [List.length_map];rw [hlen2] at hle;omega,s,rfl⟩)) (fun q hq=>hall q (List.mem_append_right _ hq)) ?_ (fun _ _ h=>h.elim)
  rintro val upd ⟨b,L',rfl,hj',hU⟩
  have hym:=l5 hU (fun q hq=>hall q (List.mem_append_right _ hq)) hBm ?_
  rotate_left
  ·intro q hq
   refine ⟨fun q' hq'=>hnL q' hq' q hq,fun hu=>?_⟩
   simp only [List.mem_cons,List.not_mem_nil,or_false] at hq
   rcases hq with rfl|rfl|rfl
   ·exact hb1 (Oid.ae hu)
   ·exact ho (Oid.ae hu)
   ·have:=(Oid.apart hu (Oid.az _)).1;omega
  have hcl:∀ q ∈ L',Mem.of L' q.1=some q.2:=fun q hq=>by
   obtain ⟨o',ho'⟩:=Mem.lh hq
   obtain ⟨q',h1,h2,h3⟩:=Mem.dM ho'
   have h4:=hym q (List.mem_append_right _ hq)
   have h5:=hym q' (List.mem_append_right _ h1)
   rw [h2,h4,h3] at h5
   rw [ho'];exact h5.symm
  simp (disch:=first|omega|assumption) only [go_sem]
  refine hK ?_;clear hK hS hC hC1 K S C hf
  (repeat (first|(refine aq rfl rfl ?_)|(refine ar rfl rfl ?_)|(refine aj nmd [] hng (by kernel_rfl) fun hf C S K hC1 hC hS hK=>?_;simp (disch:=first|omega|assumption) only [go_sem];refine hK ?_;clear hK hS hC hC1 K S C hf)|((first|refine zv ?_|refine zw ?_|refine zu ?_);with_reducible (constructor;repeat constructor);try refine zl ?_)))
  refine kh ([(b1,.cells [.map o]),(o,.map [.ss] false es clock),(.sub 0 1 x.p,.iter (some o) clock (U.map ME.born++[e.born]) clock)]++L') (by rw [← Mem.aN];exact hym) ?_
  have hnm':∀ q ∈ L',((∃ q' ∈ L0,q'.1=q.1)∨Oid.under x.p q.1)∧¬ q.1=b1∧¬ q.1=o∧¬ q.1 = .sub 0 1 x.p∧∀ d j,c+1+1+1≤d→¬ Oid.under (.sub d j x.p) q.1:=fun q hq=>by
   rcases hU.nam q hq with ⟨q',h1,h2⟩|h1
   ·obtain ⟨a0,a1,a2,a3,a4⟩:=hnm q' h1
    rw [h2] at a0 a1 a2 a3 a4
    exact ⟨a0,a1,a2,a3,fun d j hd=>a4 d j (by omega)⟩
   ·have hu:=Oid.ae h1
    refine ⟨.inr hu,fun e=>hb1 (e ▸ hu),fun e=>ho (e ▸ hu),fun e=>?_,fun d j hd h2=>?_⟩
    ·rw [e] at h1;have:=(Oid.apart h1 (Oid.az _)).1;omega
    ·have:=(Oid.apart h1 h2).1;omega
  have hmap:((U++[e]).map fun e=>[AV.str (cZ e)])=(U.map fun e=>[AV.str (cZ e)])++[[.str s]]:=by simp [hks]
  have hnL':∀ q ∈ L',∀ q' ∈ ([(b1,.cells [.map o]),(o,.map [.ss] false es clock),(.sub 0 1 x.p,.iter (some o) clock (U.map ME.born++[e.born]) clock)]:List (Oid × aw)),¬ q.1=q'.1:=fun q hq=>by
   obtain ⟨_,a1,a2,a3,a4⟩:=hnm' q hq
   simp only [aS,a7,Mem.ao,Mem.aG,Mem.aN,Mem.aP,bu,bP,List.cons_append,List.nil_append,List.append_nil,↓reduceIte,eq_self,and_true,true_and,and_self,and_false,false_and,reduceCtorEq,Oid.sub.injEq,Nat.reduceEqDiff,a1,a2,a3,not_false_eq_true]
  have hall':=eH (L:=L') (B:=[(b1,.cells [.map o]),(o,.map [.ss] false es clock),(.sub 0 1 x.p,.iter (some o) clock (U.map ME.born++[e.born]) clock)]) (fun q hq=>by
   have:=hym q (List.mem_append_left _ hq)
   revert q
   simp only [aS,a7,Mem.ao,Mem.aG,Mem.aN,Mem.aP,bu,bP,List.cons_append,List.nil_append,List.append_nil,↓reduceIte,eq_self,and_true,true_and,and_self,and_false,false_and,reduceCtorEq,Oid.sub.injEq,Nat.reduceEqDiff,hne1,Oid.aa hb1,Oid.aa ho,Oid.ab hb1,Oid.ab ho,implies_true]) hnL' hcl
  cases b with
  | true =>
   refine qw0 ?_
   rw [← hmap] at hj'
   refine ⟨_,Mem.of ([(b1,.cells [.map o]),(o,.map [.ss] false es clock),(.sub 0 1 x.p,.iter (some o) clock (U.map ME.born++[e.born]) clock)]++L'),?_,iK hall',c+1+1+1,U++[e],L',by rw [hmm];rfl,by omega,rfl,hnd',hlt',hj',hcl,hnm'⟩
   rw [hlen2] at hle ⊢;omega
  | false =>
   refine aq rfl rfl (aA ?_)
   subst hQ
   have hsw:=iJ (L:=[(b1,.cells [.map o]),(o,.map [.ss] false es clock)]++L0) (L':=[(b1,.cells [.map o]),(o,.map [.ss] false es clock)]++L') (m:=Mem.of ([(b1,.cells [.map o]),(o,.map [.ss] false es clock),(.sub 0 1 x.p,.iter (some o) clock (U.map ME.born++[e.born]) clock)]++L')) (sp:=Oid.under x.p) (fun q hq=>hall' q (by
     rcases List.mem_append.1 hq with hq|hq
     ·exact List.mem_append_left _ (by simp only [List.mem_cons,List.not_mem_nil,or_false] at hq ⊢;rcases hq with h|h<;>simp [h])
     ·exact List.mem_append_right _ hq)) (fun q hq=>by
     rcases List.mem_append.1 hq with hq|hq
     ·exact .inl ⟨q,List.mem_append_left _ hq,rfl⟩
     ·rcases (hnm' q hq).1 with ⟨q',h1,h2⟩|h
      ·exact .inl ⟨q',List.mem_append_right _ h1,h2⟩
      ·exact .inr h)
   exact bO _ _ rfl ⟨false,_,L',fun h=>(by cases h),hj',hsw.1⟩ hsw.2
 ·simp (disch:=first|omega|assumption) only [go_sem]
  refine hK ?_;clear hK hS hC hC1 K S C hf
  (try ((first|refine zn ?_|refine ze ?_|refine zk ?_);with_reducible (constructor;repeat constructor));try refine zl ?_)
  subst hQ
  have hfull:=jT hw2 hlt hnd fun e he=>hall e he (hw1 e he).2
  have hnL:∀ q ∈ L,∀ q' ∈ ([(b1,.cells [.map o]),(o,.map [.ss] false es clock),(.sub 0 1 x.p,.iter (some o) clock (U.map ME.born) clock)]:List (Oid × aw)),¬ q.1=q'.1:=fun q hq=>by
   obtain ⟨_,a1,a2,a3,a4⟩:=hnm q hq
   simp only [aS,a7,Mem.ao,Mem.aG,Mem.aN,Mem.aP,bu,bP,List.cons_append,List.nil_append,List.append_nil,↓reduceIte,eq_self,and_true,true_and,and_self,and_false,false_and,reduceCtorEq,Oid.sub.injEq,Nat.reduceEqDiff,a1,a2,a3,not_false_eq_true]
  have hall':=eH (L:=L) (B:=[(b1,.cells [.map o]),(o,.map [.ss] false es clock),(.sub 0 1 x.p,.iter (some o) clock (U.map ME.born) clock)]) (by
   simp only [aS,a7,Mem.ao,Mem.aG,Mem.aN,Mem.aP,bu,bP,List.cons_append,List.nil_append,List.append_nil,↓reduceIte,eq_self,and_true,true_and,and_self,and_false,false_and,reduceCtorEq,Oid.sub.injEq,Nat.reduceEqDiff,hne1,Oid.aa hb1,Oid.aa ho,Oid.ab hb1,Oid.ab ho]) hnL hcc
  have hsw:=iJ (L:=[(b1,.cells [.map o]),(o,.map [.ss] false es clock)]++L0) (L':=[(b1,.cells [.map o]),(o,.map [.ss] false es clock)]++L) (m:=Mem.of ([(b1,.cells [.map o]),(o,.map [.ss] false es clock),(.sub 0 1 x.p,.iter (some o) clock (U.map ME.born) clock)]++L)) (sp:=Oid.under x.p) (fun q hq=>hall' q (by
     rcases List.mem_append.1 hq with hq|hq
     ·exact List.mem_append_left _ (by simp only [List.mem_cons,List.not_mem_nil,or_false] at hq ⊢;rcases hq with h|h<;>simp [h])
     ·exact List.mem_append_right _ hq)) (fun q hq=>by
     rcases List.mem_append.1 hq with hq|hq
     ·exact .inl ⟨q,List.mem_append_left _ hq,rfl⟩
     ·rcases (hnm q hq).1 with ⟨q',h1,h2⟩|h
      ·exact .inl ⟨q',List.mem_append_right _ h1,h2⟩
      ·exact .inr h)
  refine ar rfl rfl ?_
  (try ((first|refine zn ?_|refine ze ?_|refine zk ?_);with_reducible (constructor;repeat constructor));try refine zl ?_)
  refine bZ ?_
  exact b8 _ _ rfl ⟨true,_,L,fun _=>⟨U,hfull,rfl⟩,hj,hsw.1⟩ hsw.2
end Go.Proofs.YtfbnaalhioogoaaGreatDoor
namespace Go.Proofs.YtfbnaalhioogoaaGreatDoor
open Go Go.Ab
set_option maxRecDepth 20000
set_option maxHeartbeats 4000000
theorem Cw (o:Oid) (p:Oid) (ho:¬ Oid.under p o):af Tryz.prog 105 [.map o] (Oid.under p) ⟨[],.fn (.func 185) [] [.ptr (.sub 0 0 p) 0],[(.sub 0 0 p,some (.cells [.map o]))]⟩:=by
 refine aJ (n:=4) (rs:=[.tmp 2]) Tryz.func105 rfl rfl (by decide) rfl rfl rfl ?_;rintro x rfl hrd hng
 refine qw0 ?_
 refine aA (bO _ _ rfl ⟨rfl,rfl⟩ ?_)
 intro i o' h
 rw [Mem.aN] at h
 exact h
theorem Cx (st t:Oid) (tv:AV) (es:List ME) (clock:Nat) (hel:es.length≤2000000000000) (hts:¬ t=st) (p:Oid) (hs:¬ Oid.under p st) (ht:¬ Oid.under p t) :
  af Tryz.prog 35 [.ptr st 0] (Oid.under p) ⟨[(st,.cells [.map t,tv]),(t,.map [.ss] false es clock)],.list 1 ((bg (es.map cZ)).map .str),[]⟩:=by
 refine aJ (n:=9) (rs:=[.tmp 2]) Tryz.func35 rfl rfl (by decide) rfl rfl rfl ?_;rintro x rfl hrd hng
 have hu12:Oid.under (.sub 1 4 x.p) (.sub 0 0 (.sub 1 4 x.p)):=Oid.ae (Oid.az _)
 have hapt:∀ p',Oid.under (.sub 1 5 x.p) p'→¬ Oid.under p' (.sub 0 0 (.sub 1 4 x.p)):=fun p' h h2=>by
  have:=(Oid.apart (Oid.dr h h2) hu12).2
  omega
 refine qw0 ?_
 refine aj nmd [] hng (by kernel_rfl) fun hf C S K hC1 hC hS hK=>?_;simp (disch:=first|omega|assumption) only [go_sem,Oid.ab ht,Oid.aa ht,Oid.ab hs,Oid.aa hs,hts]
 refine hC1 _ (Cw t _ (fun h=>ht (Oid.ae h))) qs0 ?_
 simp (disch:=first|omega|assumption) only [go_sem]
 refine hC1 _ (mg 185 [.ptr (.sub 0 0 (.sub 1 4 x.p)) 0] [(.sub 0 0 (.sub 1 4 x.p),.cells [.map t]),(t,.map [.ss] false es clock)] es.length (es.map cZ) _ hel (by simp) _ ?_ ?_
  (fun p' hp=>zg (.sub 0 0 (.sub 1 4 x.p)) t es clock p' ?_ ?_ ?_) ?_) ?_ ?_
 ·intro q hq
  simp only [List.mem_cons,List.not_mem_nil,or_false] at hq
  rcases hq with rfl|rfl
  ·exact hapt _ (Oid.az _)
  ·exact fun h=>ht (Oid.ae h)
 ·intro q hq
  simp only [List.mem_cons,List.not_mem_nil,or_false] at hq
  rcases hq with rfl|rfl<;>(intro sz xs e;cases e)
 ·exact fun e=>ht (e ▸ Oid.ae hu12)
 ·exact hapt _ hp
 ·exact fun h=>ht (Oid.ae (Oid.dr hp h))
 ·intro l hl
  obtain ⟨U,h1,h2⟩:=hl rfl
  have h3:l=U.map cZ:=str_inj (by rw [h2,List.map_map];rfl)
  rw [h3]
  exact h1.map _
 ·have h0:=Oid.ab (fun h=>ht (Oid.ae h):¬ Oid.under (.sub 1 4 x.p) t) 0 0
  have h1:=Oid.aa (fun h=>ht (Oid.ae h):¬ Oid.under (.sub 1 4 x.p) t) 0 0
  have h2:=Oid.ab (fun h=>hs (Oid.ae h):¬ Oid.under (.sub 1 4 x.p) st) 0 0
  have h3:=Oid.aa (fun h=>hs (Oid.ae h):¬ Oid.under (.sub 1 4 x.p) st) 0 0
  simp only [aS,a7,Mem.ao,Mem.aG,Mem.aN,Mem.aP,bu,bP,List.cons_append,List.nil_append,List.append_nil,↓reduceIte,eq_self,and_true,true_and,and_self,and_false,false_and,reduceCtorEq,Oid.sub.injEq,Nat.reduceEqDiff,aK,h0,h1,h2,h3,Oid.ab ht,Oid.aa ht,Oid.ab hs,Oid.aa hs,hts]
 ·simp (disch:=first|omega|assumption) only [go_sem]
  refine hK ?_;clear hK hS hC hC1 K S C hf
  refine qw0 ?_
  have h0:=Oid.ab (fun h=>ht (Oid.ae h):¬ Oid.under (.sub 1 4 x.p) t) 0 0
  have h1:=Oid.aa (fun h=>ht (Oid.ae h):¬ Oid.under (.sub 1 4 x.p) t) 0 0
  have h2:=Oid.ab (fun h=>hs (Oid.ae h):¬ Oid.under (.sub 1 4 x.p) st) 0 0
  have h3:=Oid.aa (fun h=>hs (Oid.ae h):¬ Oid.under (.sub 1 4 x.p) st) 0 0
  refine aA (aZ rfl ?_ ?_)
  all_goals simp only [List.mem_cons,List.not_mem_nil,or_false,forall_eq_or_imp,forall_eq,Option.some.injEq,forall_eq',Mem.ao,eq_self,if_true,↓reduceIte,reduceCtorEq,implies_true,not_true_eq_false,false_imp_iff,true_and,and_true,false_and,and_false,imp_self,aK,h0,h1,h2,h3,Oid.ab ht,Oid.aa ht,Oid.ab hs,Oid.aa hs,hts]
theorem zh {es:List ME} {L:PL} (h:gF es L) (hs:aY ltB L):bg (es.map cZ)=L.map (·.1):=by
 refine oO ?_ (List.pairwise_map.2 (hs.imp fun {a b} h=>List.le_of_lt (sj h)))
 obtain ⟨E,rfl,h2,_⟩:=h
 have h3:(E.map (ef AV.str Bits.av)).map cZ=(E.map prj).map (·.1):=by
  rw [List.map_map,List.map_map];rfl
 rw [h3]
 exact h2.map _
end Go.Proofs.YtfbnaalhioogoaaGreatDoor
namespace Go.Proofs.YtfbnaalhioogoaaGreatDoor
open Go Go.Ab
set_option maxRecDepth 20000
set_option maxHeartbeats 4000000
theorem jA (n:Str) (b:Bits) (L:PL):(eU n b L).length≤L.length+1:=by
 unfold eU
 split
 ·omega
 ·generalize (if b.k=0 then none else some b)=o
  induction L with
  | nil=>cases o<;>simp [dH,eI]
  | cons q L ih =>
   simp only [dH]
   split
   ·simp only [List.length_cons];omega
   ·have:(eI n o).length≤1:=by cases o<;>simp [eI]
    simp only [List.length_append,List.length_cons]
    split
    ·omega
    ·rw [List.length_cons];omega
theorem oV {n:Str} {b:Bits} {L:PL} {q:Str × Bits} (h:q ∈ eU n b L):q=(n,b)∨q ∈ L:=by
 unfold eU at h
 split at h
 ·exact .inr h
 ·refine (fc h).imp (fun h=>?_) id
  obtain ⟨h1,h2⟩:=oI h
  split at h2
  ·cases h2
  ·simp only [Option.some.injEq] at h2
   rw [Prod.ext_iff];exact ⟨h1,h2.symm⟩
end Go.Proofs.YtfbnaalhioogoaaGreatDoor
namespace Go.Proofs.YtfbnaalhioogoaaGreatDoor
open Go Go.Ab
set_option maxRecDepth 20000
set_option maxHeartbeats 4000000
abbrev RL:=List ((Str × Bool) × Str)
def ltF (a b:Str × Bool):Prop:=ltB a.1 b.1∨(a.1=b.1∧a.2=false∧b.2=true)
instance:DecidableRel ltF:=fun a b=>inferInstanceAs (Decidable (ltB a.1 b.1∨(a.1=b.1∧a.2=false∧b.2=true)))
theorem ni:Ord ltF where
 irr a h:=by
  rcases h with h|⟨_,h1,h2⟩
  ·exact fM.irr _ h
  ·rw [h1] at h2;cases h2
 tr a b c h1 h2:=by
  rcases h1 with h1|⟨h1,h3,h4⟩<;>rcases h2 with h2|⟨h2,h5,h6⟩
  ·exact .inl (fM.tr _ _ _ h1 h2)
  ·exact .inl (h2 ▸ h1)
  ·exact .inl (h1 ▸ h2)
  ·rw [h4] at h5;cases h5
 tot a b h hn:=by
  obtain ⟨a1,a2⟩:=a
  obtain ⟨b1,b2⟩:=b
  by_cases he:a1=b1
  ·subst he
   right
   refine ⟨rfl,?_,?_⟩
   ·cases b2 with
    | false=>rfl
    | true =>
     cases a2 with
     | false=>exact absurd (.inr ⟨rfl,rfl,rfl⟩) h
     | true=>exact absurd rfl hn
   ·cases a2 with
    | true=>rfl
    | false =>
     cases b2 with
     | false=>exact absurd rfl hn
     | true=>exact absurd (.inr ⟨rfl,rfl,rfl⟩) h
  ·exact .inl (fM.tot a1 b1 (fun h'=>h (.inl h')) he)
def cK (q:Str × Bool):AV:=.agg [.str q.1,.bool q.2]
theorem L6:kg cK:=fun a b=>by
 obtain ⟨a1,a2⟩:=a
 obtain ⟨b1,b2⟩:=b
 by_cases h1:a1=b1<;>by_cases h2:a2=b2<;>simp [ew,cK,AV.cells,bL,eqS,h1,h2]
def bt (q:(Str × Bool) × Str):AV:=.agg [.str q.1.1,.bool q.1.2,.str q.2]
def dR (L:PL) (f:Str × Bool):Str:=if f.2=true then cE (bp L f.1) else cU (aO L f.1)
def ff (old:PL) (W:WL) (f:Str × Bool) (R:RL):RL:=if f.2=false∧(aM f.1 W).isSome=true then R else if (aM f R).isSome=true then R else dH ltF f (some (dR old f)) R
theorem nB {L:PL} (h:POk L) (n:Str):(aO L n).ok:=by
 unfold aO
 split
 ·exact ⟨⟨by decide,by decide⟩,⟨by decide,by decide⟩,by decide⟩
 ·cases h2:aM n L with
  | none=>exact ⟨⟨by decide,by decide⟩,⟨by decide,by decide⟩,by decide⟩
  | some b =>
   have:∀ {L:PL},aM n L=some b→∃ q ∈ L,q.2=b:=by
    intro L
    induction L with
    | nil=>intro h;cases h
    | cons q L ih =>
     intro h
     simp only [aM] at h
     split at h
     ·exact ⟨q,List.mem_cons_self,Option.some.inj h⟩
     ·obtain ⟨q',h3,h4⟩:=ih h;exact ⟨q',List.mem_cons_of_mem _ h3,h4⟩
   obtain ⟨q,h3,h4⟩:=this h2
   rw [Option.getD_some,← h4]
   exact h.val q h3
def Cy (L:PL):Prop:=∀ q ∈ L,0≤q.2.k∧0≤q.2.m
theorem ua {L:PL} (h:Cy L) (n:Str):0≤(aO L n).k∧0≤(aO L n).m:=by
 unfold aO
 split
 ·exact ⟨by decide,by decide⟩
 ·cases h2:aM n L with
  | none=>exact ⟨by decide,by decide⟩
  | some b =>
   have:∀ {L:PL},aM n L=some b→∃ q ∈ L,q.2=b:=by
    intro L
    induction L with
    | nil=>intro h;cases h
    | cons q L ih =>
     intro h
     simp only [aM] at h
     split at h
     ·exact ⟨q,List.mem_cons_self,Option.some.inj h⟩
     ·obtain ⟨q',h3,h4⟩:=ih h;exact ⟨q',List.mem_cons_of_mem _ h3,h4⟩
   obtain ⟨q,h3,h4⟩:=this h2
   rw [Option.getD_some,← h4]
   exact h q h3
theorem vS {κ ν:Type} [DecidableEq κ] {lt:κ→κ→Prop} (ho:Ord lt) (k:κ) {L:List (κ × ν)} (hs:aY lt L) {i:Nat} (h1:∀ j q,j < i→L[j]? = some q→lt q.1 k) (h2:∀ q,L[i]? = some q→¬ lt q.1 k) :
  (aM k L).isSome=true↔∃ q,L[i]? = some q∧q.1=k:=by
 constructor
 ·intro h
  obtain ⟨b,hb⟩:=Option.isSome_iff_exists.1 h
  have hm:=(bK (hs.nodup ho)).1 hb
  obtain ⟨j,hj,hjq⟩:=List.mem_iff_getElem.1 hm
  have hjs:L[j]? = some (k,b):=by rw [List.getElem?_eq_getElem hj,hjq]
  rcases Nat.lt_trichotomy j i with h3|h3|h3
  ·exact absurd (h1 j _ h3 hjs) (ho.irr k)
  ·exact ⟨_,by rw [← h3];exact hjs,rfl⟩
  ·have hi:i < L.length:=by omega
   have:=List.pairwise_iff_getElem.1 hs i j hi hj h3
   rw [hjq] at this
   exact absurd this (h2 _ (List.getElem?_eq_getElem hi))
 ·rintro ⟨q,h3,rfl⟩
  rw [(bK (hs.nodup ho) (n:=q.1) (b:=q.2)).2 (List.mem_of_getElem? h3)]
  rfl
theorem zi (r:Oid) (LL:AV) (old:PL) (hold:POk old) (hnat:Cy old) (R:RL) (hR:R.length≤1000000) (hRs:aY ltF R) (W:WL) (hW:W.length≤1000000) (n:Str) (hn:n.length≤140737488355000) (f:Bool) (p:Oid) (hr:¬ Oid.under p r) :
  af Tryz.prog 127 [.ptr r 0,.str n,.bool f] (Oid.under p) ⟨[(r,.cells [LL,.list 4 (old.map aL),.list 3 (R.map bt),.list 1 (W.map fun q=>.str q.1),.bool true])],.tuple [],[(r,some (.cells [LL,.list 4 (old.map aL),.list 3 ((ff old W (n,f) R).map bt),.list 1 (W.map fun q=>.str q.1),.bool true]))]⟩:=by
 have hr':∀ c i,¬ Oid.under (.sub c i p) r:=fun c i h=>hr (Oid.ae h)
 have hoL:=hold.len
 refine aJ (n:=144) (rs:=[]) Tryz.func127 rfl rfl (by decide) rfl rfl rfl ?_;rintro x rfl hrd hng
 refine oT ?_
 refine ou ?_
 refine ou ?_
 refine cQ [0,1,2,22] (fun s'=>∃ q:Bool,s' = ⟨[(0,.ptr r 0),(1,.str n),(2,.bool f),(22,.bool q)],Mem.of [(r,.cells [LL,.list 4 (old.map aL),.list 3 (R.map bt),.list 1 (W.map fun q=>.str q.1),.bool true])],1,[]⟩∧(q=true↔f=false∧(aM n W).isSome=true)) ?_ ?_
 ·cases f with
  | true =>
   refine aj nmd [(5,14),(8,17)] hng (by kernel_rfl) fun hf C S K hC1 hC hS hK=>?_;simp (disch:=first|omega|assumption) only [go_sem,Oid.ab hr,Oid.aa hr]
   refine hK ?_;clear hK hS hC hC1 K S C hf
   exact aT ⟨_,rfl,by simp⟩
  | false =>
   refine aj nmd [(5,14),(8,17)] hng (by kernel_rfl) fun hf C S K hC1 hC hS hK=>?_;simp (disch:=first|omega|assumption) only [go_sem,Oid.ab hr,Oid.aa hr]
   refine hC1 _ (tZ r LL (.list 4 (old.map aL)) (.list 3 (R.map bt)) (.bool true) W (by omega) n _ (hr' _ _)) (qs (uu hr)) ?_
   simp (disch:=first|omega|assumption) only [go_sem,Oid.ab hr,Oid.aa hr]
   refine hK ?_;clear hK hS hC hC1 K S C hf
   exact aT ⟨_,rfl,by simp⟩
 rintro s' ⟨q,rfl,hq⟩
 refine jr rfl rfl (fun hb=>?_) (fun hb=>?_)
 ·have h1:ff old W (n,f) R=R:=if_pos (hq.1 hb)
  rw [h1]
  refine qw0 ?_
  refine aA (.now (fZ rfl ?_ ?_))
  all_goals simp only [List.mem_cons,List.not_mem_nil,or_false,forall_eq_or_imp,forall_eq,Option.some.injEq,forall_eq',Mem.ao,eq_self,if_true,↓reduceIte,reduceCtorEq,implies_true,not_true_eq_false,false_imp_iff,true_and,and_true,false_and,and_false,imp_self]
 ·have h1:ff old W (n,f) R=if (aM (n,f) R).isSome=true then R else dH ltF (n,f) (some (dR old (n,f))) R:=if_neg fun h=>by rw [hq.2 h] at hb;cases hb
  rw [h1]
  refine qw0 ?_
  refine bm [0,1,2,6] (fun k s'=>∃ i c':Nat,k=R.length - i∧i≤R.length∧0 < c'∧(∀ j q,j < i→R[j]? = some q→ltF q.1 (n,f))∧s' = ⟨[(0,.ptr r 0),(1,.str n),(2,.bool f),(6,.int .i64 i)],Mem.of [(r,.cells [LL,.list 4 (old.map aL),.list 3 (R.map bt),.list 1 (W.map fun q=>.str q.1),.bool true])],c',[]⟩) _ ⟨0,_,rfl,Nat.zero_le _,by omega,fun j q h=>by omega,rfl⟩ ?_
  rintro k s' ⟨i,c',rfl,hi,hc',hlt,rfl⟩
  have hc0:¬ c' = 0:=by omega
  generalize hg:R.getD i default=g
  obtain ⟨⟨gn,gf⟩,gv⟩:=g
  (try ((first|refine zn ?_|refine ze ?_|refine zk ?_);with_reducible (constructor;repeat constructor));try refine zl ?_)
  refine cQ [0,1,2,6,67] (fun s'=>∃ q:Bool,s' = ⟨[(0,.ptr r 0),(1,.str n),(2,.bool f),(6,.int .i64 i),(67,.bool q)],Mem.of [(r,.cells [LL,.list 4 (old.map aL),.list 3 (R.map bt),.list 1 (W.map fun q=>.str q.1),.bool true])],c' + 1,[]⟩∧(q=true↔i < R.length∧ltF (gn,gf) (n,f))) ?_ ?_
  ·refine aj nmd [(7,30),(18,41),(29,52),(40,63)] hng (by kernel_rfl) fun hf C S K hC1 hC hS hK=>?_;simp (disch:=first|omega|assumption) only [go_sem,Oid.ab hr,Oid.aa hr,hg,bt,AV.cells]
   (repeat' (first|(refine aD (fun hv=>?_) (fun hv=>?_)<;>(try simp only [zb1,zb2,zb3,zb4,zb5] at hv)<;>simp (disch:=first|omega|assumption) only [go_sem,hv,Oid.ab hr,Oid.aa hr,hg,bt,AV.cells])|(refine hK ?_;clear hK hS hC hC1 K S C hf)))
   all_goals refine aT ⟨_,rfl,?_⟩
   all_goals first|(simp_all [ltF,ltB];done)|(simp_all [ltF,ltB];omega)
  rintro s' ⟨q,rfl,hq⟩
  refine jr rfl rfl (fun hb=>?_) (fun hb=>?_)
  ·obtain ⟨hl,hle⟩:=hq.1 hb
   refine qw0 ?_
   refine ⟨_,_,by omega,fun _ _ h=>h,i+1,_,rfl,by omega,by omega,fun j q' hj hq'=>?_,rfl⟩
   rcases Nat.lt_or_ge j i with h|h
   ·exact hlt j q' h hq'
   ·obtain rfl:j=i:=by omega
    rw [List.getElem?_eq_getElem hl] at hq';simp only [Option.some.injEq] at hq'
    rw [cg hl,hq'] at hg
    rw [hg];exact hle
  ·have hnl:∀ q,R[i]? = some q→¬ ltF q.1 (n,f):=fun q' h1 h2=>by
    obtain ⟨hl,h3⟩:=List.getElem?_eq_some_iff.1 h1
    rw [cg hl,h3] at hg
    rw [hg] at h2
    rw [hq.2 ⟨hl,h2⟩] at hb;cases hb
   have hsp:=iP (lt:=ltF) (n,f) (some (dR old (n,f))) R i hi hlt hnl
   have hlk:=vS ni (n,f) hRs hlt hnl
   (try ((first|refine zn ?_|refine ze ?_|refine zk ?_);with_reducible (constructor;repeat constructor));try refine zl ?_)
   refine cQ [0,1,2,6,100] (fun s'=>∃ q:Bool,s' = ⟨[(0,.ptr r 0),(1,.str n),(2,.bool f),(6,.int .i64 i),(100,.bool q)],Mem.of [(r,.cells [LL,.list 4 (old.map aL),.list 3 (R.map bt),.list 1 (W.map fun q=>.str q.1),.bool true])],c' + 1+1,[]⟩∧(q=true↔i < R.length∧gn=n∧gf=f)) ?_ ?_
   ·refine aj nmd [(7,77),(19,89)] hng (by kernel_rfl) fun hf C S K hC1 hC hS hK=>?_;simp (disch:=first|omega|assumption) only [go_sem,Oid.ab hr,Oid.aa hr,hg,bt,AV.cells]
    (repeat' (first|(refine aD (fun hv=>?_) (fun hv=>?_)<;>(try simp only [zb1,zb2,zb3,zb4,zb5] at hv)<;>simp (disch:=first|omega|assumption) only [go_sem,hv,Oid.ab hr,Oid.aa hr,hg,bt,AV.cells])|(refine hK ?_;clear hK hS hC hC1 K S C hf)))
    all_goals refine aT ⟨_,rfl,?_⟩
    all_goals first|(simp_all;done)|(simp_all;omega)
   rintro s' ⟨q2,rfl,hq2⟩
   have hfound:(aM (n,f) R).isSome=true↔q2=true:=by
    rw [hlk,hq2]
    constructor
    ·rintro ⟨e,h1,h2⟩
     obtain ⟨hl,h3⟩:=List.getElem?_eq_some_iff.1 h1
     rw [cg hl,h3] at hg
     rw [hg] at h2
     simp only [Prod.mk.injEq] at h2
     exact ⟨hl,h2⟩
    ·rintro ⟨hl,rfl,rfl⟩
     rw [cg hl] at hg
     exact ⟨_,List.getElem?_eq_getElem hl,by rw [hg]⟩
   refine jr rfl rfl (fun hb=>?_) (fun hb=>?_)
   ·rw [if_pos (hfound.2 hb)]
    refine qw0 ?_
    refine aA (.now (fZ rfl ?_ ?_))
    all_goals simp only [List.mem_cons,List.not_mem_nil,or_false,forall_eq_or_imp,forall_eq,Option.some.injEq,forall_eq',Mem.ao,eq_self,if_true,↓reduceIte,reduceCtorEq,implies_true,not_true_eq_false,false_imp_iff,true_and,and_true,false_and,and_false,imp_self]
   ·have hnf:¬ (aM (n,f) R).isSome=true:=fun h=>by rw [hfound.1 h] at hb;cases hb
    rw [if_neg hnf]
    have hsp2:dH ltF (n,f) (some (dR old (n,f))) R=R.take i++[((n,f),dR old (n,f))]++R.drop i:=by
     rw [hsp]
     cases hwi:R[i]? with
     | none =>
      have hd:R.drop i=[]:=List.drop_eq_nil_of_le (List.getElem?_eq_none_iff.1 hwi)
      simp only [hd,eI,List.append_nil]
     | some q' =>
      have:¬ q'.1=(n,f):=fun e=>hnf (hlk.2 ⟨q',hwi,e⟩)
      simp only [if_neg this];rfl
    have hnames:=fun p=>qP old hold n hn p
    obtain ⟨l1,l2⟩:=kN hold n
    have henc:=fun p=>oF (bp old n) (by omega) (by omega) p
    have hget:=fun p=>Cu old (by omega) n p
    have hval:=fun p=>y2 (aO old n) (nB hold n) (ua hnat n) p
    cases f with
    | true =>
     rw [show dR old (n,true)=cE (bp old n) from if_pos rfl] at *
     generalize bp old n=A at *
     (repeat (first|(refine aq rfl rfl ?_)|(refine ar rfl rfl ?_)|(refine aj nmd [] hng (by kernel_rfl) fun hf C S K hC1 hC hS hK=>?_;simp (disch:=first|omega|assumption) only [go_sem,Oid.ab hr,Oid.aa hr];(repeat ((first|refine hC1 _ (hnames _) (by simp (disch:=first|omega|assumption) only [go_sem]) ?_|refine hC1 _ (henc _) (by simp (disch:=first|omega|assumption) only [go_sem]) ?_);simp (disch:=first|omega|assumption) only [go_sem]));refine hK ?_;clear hK hS hC hC1 K S C hf)|((first|refine zn ?_|refine ze ?_|refine zk ?_);with_reducible (constructor;repeat constructor);try refine zl ?_)))
     refine bZ (iw (.sub (c' + 1+1+1+1+1+1+1+1) 8 x.p) r 3 ((dH ltF (n,true) (some (cE A)) R).map bt) [LL,.list 4 (old.map aL),.sl (.sub (c' + 1+1+1+1+1+1+1+1) 8 x.p) 3 (min i R.length+1+(R.length - i)),.list 1 (W.map fun q=>.str q.1),.bool true] [LL,.list 4 (old.map aL),.list 3 ((dH ltF (n,true) (some (cE A)) R).map bt),.list 1 (W.map fun q=>.str q.1),.bool true] ?_ ?_ ?_ (.keep (.keep (.gD ?_ (.keep (.keep .nil))))) (.now (bQ rfl ?_ ?_)))
     ·simp (disch:=first|omega|assumption) only [go_sem,Oid.ab hr,Oid.aa hr]
      rw [hsp2];simp [bt]
     ·simp (disch:=first|omega|assumption) only [go_sem,Oid.ab hr,Oid.aa hr]
     ·exact fun e=>hr (e ▸ Oid.ae (Oid.az _))
     ·rw [hsp2];simp only [List.length_map,List.length_append,List.length_take,List.length_drop,List.length_cons,List.length_nil]
     ·simp (disch:=first|omega|assumption) only [go_sem,Oid.ab hr,Oid.aa hr]
      all_goals simp only [List.mem_cons,List.not_mem_nil,or_false,forall_eq_or_imp,forall_eq,Option.some.injEq,forall_eq',Mem.ao,eq_self,if_true,↓reduceIte,reduceCtorEq,implies_true,not_true_eq_false,false_imp_iff,true_and,and_true,false_and,and_false,imp_self]
     ·simp (disch:=first|omega|assumption) only [go_sem,Oid.ab hr,Oid.aa hr]
      all_goals simp only [List.mem_cons,List.not_mem_nil,or_false,forall_eq_or_imp,forall_eq,Option.some.injEq,forall_eq',Mem.ao,eq_self,if_true,↓reduceIte,reduceCtorEq,implies_true,not_true_eq_false,false_imp_iff,true_and,and_true,false_and,and_false,imp_self]
    | false =>
     rw [show dR old (n,false)=cU (aO old n) from if_neg Bool.false_ne_true] at *
     generalize aO old n=B at *
     simp only [Bits.av] at hget hval
     (repeat (first|(refine aq rfl rfl ?_)|(refine ar rfl rfl ?_)|(refine aj nmd [] hng (by kernel_rfl) fun hf C S K hC1 hC hS hK=>?_;simp (disch:=first|omega|assumption) only [go_sem,Oid.ab hr,Oid.aa hr];(repeat ((first|refine hC1 _ (hget _) (by simp (disch:=first|omega|assumption) only [go_sem]) ?_|refine hC1 _ (hval _) (by simp (disch:=first|omega|assumption) only [go_sem]) ?_);simp (disch:=first|omega|assumption) only [go_sem]));refine hK ?_;clear hK hS hC hC1 K S C hf)|((first|refine zn ?_|refine ze ?_|refine zk ?_);with_reducible (constructor;repeat constructor);try refine zl ?_)))
     refine bZ (iw (.sub (c' + 1+1+1+1+1+1+1+1) 8 x.p) r 3 ((dH ltF (n,false) (some (cU B)) R).map bt) [LL,.list 4 (old.map aL),.sl (.sub (c' + 1+1+1+1+1+1+1+1) 8 x.p) 3 (min i R.length+1+(R.length - i)),.list 1 (W.map fun q=>.str q.1),.bool true] [LL,.list 4 (old.map aL),.list 3 ((dH ltF (n,false) (some (cU B)) R).map bt),.list 1 (W.map fun q=>.str q.1),.bool true] ?_ ?_ ?_ (.keep (.keep (.gD ?_ (.keep (.keep .nil))))) (.now (bQ rfl ?_ ?_)))
     ·simp (disch:=first|omega|assumption) only [go_sem,Oid.ab hr,Oid.aa hr]
      rw [hsp2];simp [bt]
     ·simp (disch:=first|omega|assumption) only [go_sem,Oid.ab hr,Oid.aa hr]
     ·exact fun e=>hr (e ▸ Oid.ae (Oid.az _))
     ·rw [hsp2];simp only [List.length_map,List.length_append,List.length_take,List.length_drop,List.length_cons,List.length_nil]
     ·simp (disch:=first|omega|assumption) only [go_sem,Oid.ab hr,Oid.aa hr]
      all_goals simp only [List.mem_cons,List.not_mem_nil,or_false,forall_eq_or_imp,forall_eq,Option.some.injEq,forall_eq',Mem.ao,eq_self,if_true,↓reduceIte,reduceCtorEq,implies_true,not_true_eq_false,false_imp_iff,true_and,and_true,false_and,and_false,imp_self]
     ·simp (disch:=first|omega|assumption) only [go_sem,Oid.ab hr,Oid.aa hr]
      all_goals simp only [List.mem_cons,List.not_mem_nil,or_false,forall_eq_or_imp,forall_eq,Option.some.injEq,forall_eq',Mem.ao,eq_self,if_true,↓reduceIte,reduceCtorEq,implies_true,not_true_eq_false,false_imp_iff,true_and,and_true,false_and,and_false,imp_self]
end Go.Proofs.YtfbnaalhioogoaaGreatDoor
namespace Go.Proofs.YtfbnaalhioogoaaGreatDoor
open Go Go.Ab
set_option maxRecDepth 20000
set_option maxHeartbeats 4000000
theorem zj (o:Oid) (eso:List ME) (co:Nat) (old:PL) (hm:gF eso old) (hs:aY ltB old) (ho:POk old) (n:Str) (hn:n.length≤140737488355000) (f:Bool) (p:Oid) (hp:p.mono=false) (u1:¬ Oid.under p o) :
  af Tryz.prog 79 [.map o,cK (n,f)] (Oid.under p) ⟨[(o,.map [.ss] false eso co)],.str (dR old (n,f)),[]⟩:=by
 have u1':∀ c i,¬ Oid.under (.sub c i p) o:=fun c i h=>u1 (Oid.ae h)
 have hkl:=fun e he=>Nat.le_trans (oU hm ho e he) (show 1000000≤140737488355328 by decide)
 have hol:=ho.len
 have hel:eso.length≤2000000000000:=by rw [lB hm];omega
 have hnm:=fun p h=>oS o n hn eso co hkl hel p h
 rw [mi hm hs] at hnm
 obtain ⟨l1,l2⟩:=kN ho n
 have hen:=fun p hp=>qD (bp old n) (by omega) (by omega) p hp
 have hat:=fun p h=>xd o o eso co p h h n ((aM n old).getD Bits.no) (lA hm n)
 have hgp:(if n=[] then (⟨2,7,[]⟩:Bits) else (aM n old).getD Bits.no)=aO old n:=rfl
 rw [hgp] at hat
 have hv:=fun p hp=>tP (aO old n) (nB ho n) p hp
 simp only [cK]
 refine aJ (n:=17) (rs:=[.tmp 4]) Tryz.func79 rfl rfl (by decide) rfl rfl rfl ?_;rintro x rfl hrd hng
 refine qr .o (uu u1) trivial ?_
 cases f with
 | true =>
  rw [show dR old (n,true)=cE (bp old n) from if_pos rfl]
  generalize bp old n=A at *
  (repeat (first|(refine aq rfl rfl ?_)|(refine ar rfl rfl ?_)|(refine aj nmd [] hng (by kernel_rfl) fun hf C S K hC1 hC hS hK=>?_;simp (disch:=first|omega|assumption) only [go_sem,Oid.ab u1,Oid.aa u1];(repeat ((first|refine hC1 _ (hnm _ (u1' _ _)) (by simp (disch:=first|omega|assumption) only [go_sem]) ?_|refine hC1 _ (hen _ (ax rfl hp)) (by simp (disch:=first|omega|assumption) only [go_sem]) ?_);simp (disch:=first|omega|assumption) only [go_sem]));refine hK ?_;clear hK hS hC hC1 K S C hf)|((first|refine zn ?_|refine ze ?_|refine zk ?_);with_reducible (constructor;repeat constructor);try refine zl ?_)))
  refine aA (aZ rfl ?_ ?_)
  all_goals simp only [List.mem_cons,List.not_mem_nil,or_false,forall_eq_or_imp,forall_eq,Option.some.injEq,forall_eq',Mem.ao,eq_self,if_true,↓reduceIte,reduceCtorEq,implies_true,not_true_eq_false,false_imp_iff,true_and,and_true,false_and,and_false,imp_self,Oid.ab u1,Oid.aa u1]
 | false =>
  rw [show dR old (n,false)=cU (aO old n) from if_neg Bool.false_ne_true]
  generalize aO old n=B at *
  simp only [Bits.av] at hat hv
  (repeat (first|(refine aq rfl rfl ?_)|(refine ar rfl rfl ?_)|(refine aj nmd [] hng (by kernel_rfl) fun hf C S K hC1 hC hS hK=>?_;simp (disch:=first|omega|assumption) only [go_sem,Oid.ab u1,Oid.aa u1];(repeat ((first|refine hC1 _ (hat _ (u1' _ _)) (by simp (disch:=first|omega|assumption) only [go_sem]) ?_|refine hC1 _ (hv _ (ax rfl hp)) (by simp (disch:=first|omega|assumption) only [go_sem]) ?_);simp (disch:=first|omega|assumption) only [go_sem]));refine hK ?_;clear hK hS hC hC1 K S C hf)|((first|refine zn ?_|refine ze ?_|refine zk ?_);with_reducible (constructor;repeat constructor);try refine zl ?_)))
  refine aA (aZ rfl ?_ ?_)
  all_goals simp only [List.mem_cons,List.not_mem_nil,or_false,forall_eq_or_imp,forall_eq,Option.some.injEq,forall_eq',Mem.ao,eq_self,if_true,↓reduceIte,reduceCtorEq,implies_true,not_true_eq_false,false_imp_iff,true_and,and_true,false_and,and_false,imp_self,Oid.ab u1,Oid.aa u1]
def dS (f w h:Bool) (k v:AV) (es:List ME) (c:Nat):List ME × Nat:=if ((!f && w) || h)=true then (es,c) else (b7 k v c es,c+1)
section
variable (st t tr o rd wr:Oid) (hn:[wr,rd,o,tr,t,st].Nodup) (es eso esr esw:List ME) (clock co cr cw:Nat)
include hn
theorem ub (old:PL) (hm:gF eso old) (hs:aY ltB old) (ho:POk old) (n:Str) (hnl:n.length≤140737488355000) (f w h:Bool) (hw:fE (.str n) (.bool false) esw = .bool w) (hh:bM (cK (n,f)) esr=h) (p:Oid) (hp:p.mono=false) (hu:∀ i ∈ [st,t,tr,o,rd,wr],¬ Oid.under p i) :
  af Tryz.prog 106 [.ptr st 0,cK (n,f)] (Oid.under p) ⟨[(st,.cells [.map t,.ptr tr 0]),(t,.map [.ss] false es clock),(tr,.cells [.map o,.map rd,.map wr]),(o,.map [.ss] false eso co),(rd,.map [.ss,.sb] true esr cr),(wr,.map [.ss] false esw cw)],.tuple [],[(rd,some (.map [.ss,.sb] true (dS f w h (cK (n,f)) (.str (dR old (n,f))) esr cr).1 (dS f w h (cK (n,f)) (.str (dR old (n,f))) esr cr).2))]⟩:=by
 simp only [List.nodup_cons,List.mem_cons,List.not_mem_nil,or_false,not_or,not_false_eq_true,List.nodup_nil,and_true] at hn;simp only [List.mem_cons,List.not_mem_nil,or_false,forall_eq_or_imp,forall_eq] at hu;have hd:=hn;obtain ⟨u1,u2,u3,u4,u5,u6⟩:=hu
 have u4':∀ c i,¬ Oid.under (.sub c i p) o:=fun c i h=>u4 (Oid.ae h)
 have hval:=fun p hp h=>zj o eso co old hm hs ho n hnl f p hp h
 generalize dR old (n,f)=V at *
 simp only [cK] at hval hh ⊢
 refine aJ (n:=59) (rs:=[]) Tryz.func106 rfl rfl (by decide) rfl rfl rfl ?_;rintro x rfl hrd hng
 cases f with
 | false =>
  cases w with
  | true =>
   refine qr .o (ai hd (ai (uu u1) (ai (uu u2) (ai (uu u3) (ai (uu u4) (ai (uu u5) (uu u6))))))) trivial ?_
   refine cX nmd [(5,11),(9,15)] [] mixed hng (by kernel_rfl) [0,3,27] fun hf C S K hC hS hK=>?_;simp (disch:=first|omega|assumption) only [go_sem,hw,hd,Oid.ab u1,Oid.aa u1,Oid.ab u2,Oid.aa u2,Oid.ab u3,Oid.aa u3,Oid.ab u4,Oid.aa u4,Oid.ab u5,Oid.aa u5,Oid.ab u6,Oid.aa u6]
   (first|refine hK (aV rfl) ?_|refine hK (by simp (disch:=first|omega|assumption) only [go_sem,List.reverse_cons,List.reverse_nil,ne_eq,not_false_eq_true,implies_true]) ?_);clear hK hS hC K S C hf
   refine qw0 ?_
   refine aA (aZ rfl ?_ ?_)
   all_goals simp only [List.mem_cons,List.not_mem_nil,or_false,forall_eq_or_imp,forall_eq,Option.some.injEq,forall_eq',Mem.ao,eq_self,if_true,↓reduceIte,reduceCtorEq,implies_true,not_true_eq_false,false_imp_iff,true_and,and_true,false_and,and_false,imp_self,hd,Oid.ab u1,Oid.aa u1,Oid.ab u2,Oid.aa u2,Oid.ab u3,Oid.aa u3,Oid.ab u4,Oid.aa u4,Oid.ab u5,Oid.aa u5,Oid.ab u6,Oid.aa u6,dS,Bool.not_false,Bool.true_and,Bool.true_or]
  | false =>
   refine qr .o (ai hd (ai (uu u1) (ai (uu u2) (ai (uu u3) (ai (uu u4) (ai (uu u5) (uu u6))))))) trivial ?_
   refine cX nmd [(5,11),(9,15)] [] mixed hng (by kernel_rfl) [0,3,27] fun hf C S K hC hS hK=>?_;simp (disch:=first|omega|assumption) only [go_sem,hw,hd,Oid.ab u1,Oid.aa u1,Oid.ab u2,Oid.aa u2,Oid.ab u3,Oid.aa u3,Oid.ab u4,Oid.aa u4,Oid.ab u5,Oid.aa u5,Oid.ab u6,Oid.aa u6]
   (first|refine hK (aV rfl) ?_|refine hK (by simp (disch:=first|omega|assumption) only [go_sem,List.reverse_cons,List.reverse_nil,ne_eq,not_false_eq_true,implies_true]) ?_);clear hK hS hC K S C hf
   refine qw0 ?_
   (try ((first|refine zn ?_|refine ze ?_|refine zk ?_);with_reducible (constructor;repeat constructor));try refine zl ?_)
   cases h with
   | true =>
    refine cX nmd [] [] mixed hng (by kernel_rfl) [0,3,5] fun hf C S K hC hS hK=>?_;simp (disch:=first|omega|assumption) only [go_sem,hh,mC,hd,Oid.ab u1,Oid.aa u1,Oid.ab u2,Oid.aa u2,Oid.ab u3,Oid.aa u3,Oid.ab u4,Oid.aa u4,Oid.ab u5,Oid.aa u5,Oid.ab u6,Oid.aa u6]
    (first|refine hK (aV rfl) ?_|refine hK (by simp (disch:=first|omega|assumption) only [go_sem,List.reverse_cons,List.reverse_nil,ne_eq,not_false_eq_true,implies_true]) ?_);clear hK hS hC K S C hf
    refine qw0 ?_
    refine bZ (bQ rfl ?_ ?_)
    all_goals simp only [List.mem_cons,List.not_mem_nil,or_false,forall_eq_or_imp,forall_eq,Option.some.injEq,forall_eq',Mem.ao,eq_self,if_true,↓reduceIte,reduceCtorEq,implies_true,not_true_eq_false,false_imp_iff,true_and,and_true,false_and,and_false,imp_self,hd,Oid.ab u1,Oid.aa u1,Oid.ab u2,Oid.aa u2,Oid.ab u3,Oid.aa u3,Oid.ab u4,Oid.aa u4,Oid.ab u5,Oid.aa u5,Oid.ab u6,Oid.aa u6,dS,Bool.not_false,Bool.true_and,Bool.true_or,Bool.or_true]
   | false =>
    refine cX nmd [] [] mixed hng (by kernel_rfl) [0,3,5] fun hf C S K hC hS hK=>?_;simp (disch:=first|omega|assumption) only [go_sem,hh,mC,hd,Oid.ab u1,Oid.aa u1,Oid.ab u2,Oid.aa u2,Oid.ab u3,Oid.aa u3,Oid.ab u4,Oid.aa u4,Oid.ab u5,Oid.aa u5,Oid.ab u6,Oid.aa u6]
    (first|refine hK (aV rfl) ?_|refine hK (by simp (disch:=first|omega|assumption) only [go_sem,List.reverse_cons,List.reverse_nil,ne_eq,not_false_eq_true,implies_true]) ?_);clear hK hS hC K S C hf
    refine qw0 ?_
    refine cX nmd [] [(3,16),(6,16),(7,16)] mixed hng (by kernel_rfl) [0] fun hf C S K hC hS hK=>?_;simp (disch:=first|omega|assumption) only [go_sem,hh,hd,Oid.ab u1,Oid.aa u1,Oid.ab u2,Oid.aa u2,Oid.ab u3,Oid.aa u3,Oid.ab u4,Oid.aa u4,Oid.ab u5,Oid.aa u5,Oid.ab u6,Oid.aa u6]
    refine hC _ (hval _ (ax rfl hp) (u4' _ _)) (qs (ai hd (ai (uu u1) (ai (uu u2) (ai (uu u3) (ai (uu u4) (ai (uu u5) (uu u6)))))))) ?_
    simp (disch:=first|omega|assumption) only [go_sem,hh,hd,Oid.ab u1,Oid.aa u1,Oid.ab u2,Oid.aa u2,Oid.ab u3,Oid.aa u3,Oid.ab u4,Oid.aa u4,Oid.ab u5,Oid.aa u5,Oid.ab u6,Oid.aa u6]
    (first|refine hK (aV rfl) ?_|refine hK (by simp (disch:=first|omega|assumption) only [go_sem,List.reverse_cons,List.reverse_nil,ne_eq,not_false_eq_true,implies_true]) ?_);clear hK hS hC K S C hf
    refine bZ (bQ rfl ?_ ?_)
    all_goals simp only [List.mem_cons,List.not_mem_nil,or_false,forall_eq_or_imp,forall_eq,Option.some.injEq,forall_eq',Mem.ao,eq_self,if_true,↓reduceIte,reduceCtorEq,implies_true,not_true_eq_false,false_imp_iff,true_and,and_true,false_and,and_false,imp_self,hd,Oid.ab u1,Oid.aa u1,Oid.ab u2,Oid.aa u2,Oid.ab u3,Oid.aa u3,Oid.ab u4,Oid.aa u4,Oid.ab u5,Oid.aa u5,Oid.ab u6,Oid.aa u6,dS,hh,Bool.not_false,Bool.not_true,Bool.true_and,Bool.false_and,Bool.or_false,Bool.false_eq_true]
 | true =>
  refine qr .o (ai hd (ai (uu u1) (ai (uu u2) (ai (uu u3) (ai (uu u4) (ai (uu u5) (uu u6))))))) trivial ?_
  refine cX nmd [(5,11),(9,15)] [] mixed hng (by kernel_rfl) [0,3,27] fun hf C S K hC hS hK=>?_;simp (disch:=first|omega|assumption) only [go_sem,hd,Oid.ab u1,Oid.aa u1,Oid.ab u2,Oid.aa u2,Oid.ab u3,Oid.aa u3,Oid.ab u4,Oid.aa u4,Oid.ab u5,Oid.aa u5,Oid.ab u6,Oid.aa u6]
  (first|refine hK (aV rfl) ?_|refine hK (by simp (disch:=first|omega|assumption) only [go_sem,List.reverse_cons,List.reverse_nil,ne_eq,not_false_eq_true,implies_true]) ?_);clear hK hS hC K S C hf
  refine qw0 ?_
  (try ((first|refine zn ?_|refine ze ?_|refine zk ?_);with_reducible (constructor;repeat constructor));try refine zl ?_)
  cases h with
  | true =>
   refine cX nmd [] [] mixed hng (by kernel_rfl) [0,3,5] fun hf C S K hC hS hK=>?_;simp (disch:=first|omega|assumption) only [go_sem,hh,mC,hd,Oid.ab u1,Oid.aa u1,Oid.ab u2,Oid.aa u2,Oid.ab u3,Oid.aa u3,Oid.ab u4,Oid.aa u4,Oid.ab u5,Oid.aa u5,Oid.ab u6,Oid.aa u6]
   (first|refine hK (aV rfl) ?_|refine hK (by simp (disch:=first|omega|assumption) only [go_sem,List.reverse_cons,List.reverse_nil,ne_eq,not_false_eq_true,implies_true]) ?_);clear hK hS hC K S C hf
   refine qw0 ?_
   refine bZ (bQ rfl ?_ ?_)
   all_goals simp only [List.mem_cons,List.not_mem_nil,or_false,forall_eq_or_imp,forall_eq,Option.some.injEq,forall_eq',Mem.ao,eq_self,if_true,↓reduceIte,reduceCtorEq,implies_true,not_true_eq_false,false_imp_iff,true_and,and_true,false_and,and_false,imp_self,hd,Oid.ab u1,Oid.aa u1,Oid.ab u2,Oid.aa u2,Oid.ab u3,Oid.aa u3,Oid.ab u4,Oid.aa u4,Oid.ab u5,Oid.aa u5,Oid.ab u6,Oid.aa u6,dS,Bool.not_false,Bool.true_and,Bool.true_or,Bool.or_true]
  | false =>
   refine cX nmd [] [] mixed hng (by kernel_rfl) [0,3,5] fun hf C S K hC hS hK=>?_;simp (disch:=first|omega|assumption) only [go_sem,hh,mC,hd,Oid.ab u1,Oid.aa u1,Oid.ab u2,Oid.aa u2,Oid.ab u3,Oid.aa u3,Oid.ab u4,Oid.aa u4,Oid.ab u5,Oid.aa u5,Oid.ab u6,Oid.aa u6]
   (first|refine hK (aV rfl) ?_|refine hK (by simp (disch:=first|omega|assumption) only [go_sem,List.reverse_cons,List.reverse_nil,ne_eq,not_false_eq_true,implies_true]) ?_);clear hK hS hC K S C hf
   refine qw0 ?_
   refine cX nmd [] [(3,16),(6,16),(7,16)] mixed hng (by kernel_rfl) [0] fun hf C S K hC hS hK=>?_;simp (disch:=first|omega|assumption) only [go_sem,hh,hd,Oid.ab u1,Oid.aa u1,Oid.ab u2,Oid.aa u2,Oid.ab u3,Oid.aa u3,Oid.ab u4,Oid.aa u4,Oid.ab u5,Oid.aa u5,Oid.ab u6,Oid.aa u6]
   refine hC _ (hval _ (ax rfl hp) (u4' _ _)) (qs (ai hd (ai (uu u1) (ai (uu u2) (ai (uu u3) (ai (uu u4) (ai (uu u5) (uu u6)))))))) ?_
   simp (disch:=first|omega|assumption) only [go_sem,hh,hd,Oid.ab u1,Oid.aa u1,Oid.ab u2,Oid.aa u2,Oid.ab u3,Oid.aa u3,Oid.ab u4,Oid.aa u4,Oid.ab u5,Oid.aa u5,Oid.ab u6,Oid.aa u6]
   (first|refine hK (aV rfl) ?_|refine hK (by simp (disch:=first|omega|assumption) only [go_sem,List.reverse_cons,List.reverse_nil,ne_eq,not_false_eq_true,implies_true]) ?_);clear hK hS hC K S C hf
   refine bZ (bQ rfl ?_ ?_)
   all_goals simp only [List.mem_cons,List.not_mem_nil,or_false,forall_eq_or_imp,forall_eq,Option.some.injEq,forall_eq',Mem.ao,eq_self,if_true,↓reduceIte,reduceCtorEq,implies_true,not_true_eq_false,false_imp_iff,true_and,and_true,false_and,and_false,imp_self,hd,Oid.ab u1,Oid.aa u1,Oid.ab u2,Oid.aa u2,Oid.ab u3,Oid.aa u3,Oid.ab u4,Oid.aa u4,Oid.ab u5,Oid.aa u5,Oid.ab u6,Oid.aa u6,dS,hh,Bool.not_false,Bool.not_true,Bool.true_and,Bool.false_and,Bool.or_false,Bool.false_eq_true]
end
end Go.Proofs.YtfbnaalhioogoaaGreatDoor
