/- A part of the proof: the texts Z13, Z12, Z15, Z16, Z17, K1, K2, FwR, FwZ, FwX, K3, K4, K5, K6, K7, K8, KB, KC, KD, KE, KF, KG, TA, TB, TC, TD, one behind the other. -/
import Derived.Test.YtfbnaalhioogoaaGreatDoorPWd
import Derived.Shelf.SlMaps.Clone
import Derived.WalkKit
import Derived.Recover
import Derived.Laws.MakeOwn
set_option linter.unusedVariables false
set_option linter.unusedSimpArgs false
set_option linter.unusedSectionVars false
namespace Go.Proofs.YtfbnaalhioogoaaGreatDoor
open Go Go.Ab
set_option maxRecDepth 20000
set_option maxHeartbeats 4000000
section
variable (st t tr o rd wr:Oid) (hn:[wr,rd,o,tr,t,st].Nodup) (es eso esr esw:List ME) (clock co cr cw:Nat)
include hn
theorem Hl (old L:PL) (hm:gO eso old) (hs:aU ltB old) (ho:POk old) (hm1:gO es L) (n:Str) (hnl:n.length≤140737488355000) (w h:Bool) (hw:gJ (.str n) (.bool false) esw = .bool w) (hh:cn (eA (n,false)) esr=h) (p:Oid) (hp:p.mono=false) (hu:∀ i ∈ [st,t,tr,o,rd,wr],¬ Oid.under p i) :
  aj Tryz.prog 37 [.ptr st 0,.str n] (Oid.under p) ⟨[(st,.cells [.map t,.ptr tr 0]),(t,.map [.ss] false es clock),(tr,.cells [.map o,.map rd,.map wr]),(o,.map [.ss] false eso co),(rd,.map [.ss,.sb] true esr cr),(wr,.map [.ss] false esw cw)],(aF L n).av,[(rd,some (.map [.ss,.sb] true (dO false w h (eA (n,false)) (.str (dN old (n,false))) esr cr).1 (dO false w h (eA (n,false)) (.str (dN old (n,false))) esr cr).2))]⟩:=by
 have hrd':=fun p hp hu=>s6 st t tr o rd wr hn es eso esr esw clock co cr cw old hm hs ho n hnl false w h hw hh p hp hu
 have hat:=fun p h=>AO t t es clock p h h n ((aM n L).getD Bits.no) (nO hm1 n)
 have hgp:(if n=[] then (⟨2,7,[]⟩:Bits) else (aM n L).getD Bits.no)=aF L n:=rfl
 rw [hgp] at hat
 have hu':∀ c j,∀ i ∈ [st,t,tr,o,rd,wr],¬ Oid.under (.sub c j p) i:=fun c j i hi h=>hu i hi (Oid.ae h)
 simp only [List.nodup_cons,List.mem_cons,List.not_mem_nil,or_false,not_or,not_false_eq_true,List.nodup_nil,and_true] at hn;simp only [List.mem_cons,List.not_mem_nil,or_false,forall_eq_or_imp,forall_eq] at hu;have hd:=hn;obtain ⟨u1,u2,u3,u4,u5,u6⟩:=hu
 have u2':∀ c i,¬ Oid.under (.sub c i p) t:=fun c i h=>u2 (Oid.ae h)
 generalize (dO false w h (eA (n,false)) (.str (dN old (n,false))) esr cr).1=E1 at *
 generalize (dO false w h (eA (n,false)) (.str (dN old (n,false))) esr cr).2=C1 at *
 generalize aF L n=B at *
 simp only [Bits.av,eA] at *
 refine aC (n:=15) (rs:=[.cell 4 56]) Tryz.func37 rfl rfl (by decide) rfl rfl rfl ?_;rintro x rfl hrd hng
 refine qw (ai hd (ai (uu u1) (ai (uu u2) (ai (uu u3) (ai (uu u4) (ai (uu u5) (uu u6))))))) ?_
 refine ao nmd [] hng (by kernel_rfl) fun hf C S K hC1 hC hS hK=>?_;simp (disch:=first|omega|assumption) only [go_sem,hd,Oid.ab u1,Oid.aa u1,Oid.ab u2,Oid.aa u2,Oid.ab u3,Oid.aa u3,Oid.ab u4,Oid.aa u4,Oid.ab u5,Oid.aa u5,Oid.ab u6,Oid.aa u6]
 refine hC1 _ (hrd' _ (ar rfl hp) (hu' _ _)) (qs (ai hd (ai (uu u1) (ai (uu u2) (ai (uu u3) (ai (uu u4) (ai (uu u5) (uu u6)))))))) ?_
 simp (disch:=first|omega|assumption) only [go_sem,hd,Oid.ab u1,Oid.aa u1,Oid.ab u2,Oid.aa u2,Oid.ab u3,Oid.aa u3,Oid.ab u4,Oid.aa u4,Oid.ab u5,Oid.aa u5,Oid.ab u6,Oid.aa u6]
 refine hK ?_;clear hK hS hC hC1 K S C hf
 refine qr .o (ai hd (ai (uu u1) (ai (uu u2) (ai (uu u3) (ai (uu u4) (ai (uu u5) (uu u6))))))) (cq (hat _ (u2' _ _)) trivial) ?_
 refine qw (ai hd (ai (uu u1) (ai (uu u2) (ai (uu u3) (ai (uu u4) (ai (uu u5) (uu u6))))))) ?_
 refine aA (aY (qs (ai hd (ai (uu u1) (ai (uu u2) (ai (uu u3) (ai (uu u4) (ai (uu u5) (uu u6)))))))) ?_ ?_)
 all_goals simp only [List.mem_cons,List.not_mem_nil,or_false,forall_eq_or_imp,forall_eq,Option.some.injEq,forall_eq',Mem.aq,eq_self,if_true,↓reduceIte,reduceCtorEq,implies_true,not_true_eq_false,false_imp_iff,true_and,and_true,false_and,and_false,imp_self,hd,Oid.ab u1,Oid.aa u1,Oid.ab u2,Oid.aa u2,Oid.ab u3,Oid.aa u3,Oid.ab u4,Oid.aa u4,Oid.ab u5,Oid.aa u5,Oid.ab u6,Oid.aa u6]
theorem xY (old L:PL) (hm:gO eso old) (hs:aU ltB old) (ho:POk old) (hm1:gO es L) (hs1:aU ltB L) (ho1:POk L) (n:Str) (hnl:n.length≤140737488355000) (w h:Bool) (hw:gJ (.str n) (.bool false) esw = .bool w) (hh:cn (eA (n,true)) esr=h) (p:Oid) (hp:p.mono=false) (hu:∀ i ∈ [st,t,tr,o,rd,wr],¬ Oid.under p i) :
  aj Tryz.prog 171 [.ptr st 0,.str n] (Oid.under p) ⟨[(st,.cells [.map t,.ptr tr 0]),(t,.map [.ss] false es clock),(tr,.cells [.map o,.map rd,.map wr]),(o,.map [.ss] false eso co),(rd,.map [.ss,.sb] true esr cr),(wr,.map [.ss] false esw cw)],.list 1 ((aP L n).map AV.str),[(rd,some (.map [.ss,.sb] true (dO true w h (eA (n,true)) (.str (dN old (n,true))) esr cr).1 (dO true w h (eA (n,true)) (.str (dN old (n,true))) esr cr).2))]⟩:=by
 have hrd':=fun p hp hu=>s6 st t tr o rd wr hn es eso esr esw clock co cr cw old hm hs ho n hnl true w h hw hh p hp hu
 have hkl:=fun e he=>Nat.le_trans (nP hm1 ho1 e he) (show 1000000≤140737488355328 by decide)
 have hol:=ho1.len
 have hel:es.length≤2000000000000:=by rw [kS hm1];omega
 have hnm:=fun p h=>nK t n hnl es clock hkl hel p h
 rw [lA hm1 hs1] at hnm
 have hu':∀ c j,∀ i ∈ [st,t,tr,o,rd,wr],¬ Oid.under (.sub c j p) i:=fun c j i hi h=>hu i hi (Oid.ae h)
 simp only [List.nodup_cons,List.mem_cons,List.not_mem_nil,or_false,not_or,not_false_eq_true,List.nodup_nil,and_true] at hn;simp only [List.mem_cons,List.not_mem_nil,or_false,forall_eq_or_imp,forall_eq] at hu;have hd:=hn;obtain ⟨u1,u2,u3,u4,u5,u6⟩:=hu
 have u2':∀ c i,¬ Oid.under (.sub c i p) t:=fun c i h=>u2 (Oid.ae h)
 generalize (dO true w h (eA (n,true)) (.str (dN old (n,true))) esr cr).1=E1 at *
 generalize (dO true w h (eA (n,true)) (.str (dN old (n,true))) esr cr).2=C1 at *
 generalize aP L n=B at *
 simp only [eA] at *
 refine aC (n:=15) (rs:=[.tmp 4]) Tryz.func171 rfl rfl (by decide) rfl rfl rfl ?_;rintro x rfl hrd hng
 refine qw (ai hd (ai (uu u1) (ai (uu u2) (ai (uu u3) (ai (uu u4) (ai (uu u5) (uu u6))))))) ?_
 refine ao nmd [] hng (by kernel_rfl) fun hf C S K hC1 hC hS hK=>?_;simp (disch:=first|omega|assumption) only [go_sem,hd,Oid.ab u1,Oid.aa u1,Oid.ab u2,Oid.aa u2,Oid.ab u3,Oid.aa u3,Oid.ab u4,Oid.aa u4,Oid.ab u5,Oid.aa u5,Oid.ab u6,Oid.aa u6]
 refine hC1 _ (hrd' _ (ar rfl hp) (hu' _ _)) (qs (ai hd (ai (uu u1) (ai (uu u2) (ai (uu u3) (ai (uu u4) (ai (uu u5) (uu u6)))))))) ?_
 simp (disch:=first|omega|assumption) only [go_sem,hd,Oid.ab u1,Oid.aa u1,Oid.ab u2,Oid.aa u2,Oid.ab u3,Oid.aa u3,Oid.ab u4,Oid.aa u4,Oid.ab u5,Oid.aa u5,Oid.ab u6,Oid.aa u6]
 refine hK ?_;clear hK hS hC hC1 K S C hf
 refine qr .o (ai hd (ai (uu u1) (ai (uu u2) (ai (uu u3) (ai (uu u4) (ai (uu u5) (uu u6))))))) (cq (hnm _ (u2' _ _)) trivial) ?_
 refine qw (ai hd (ai (uu u1) (ai (uu u2) (ai (uu u3) (ai (uu u4) (ai (uu u5) (uu u6))))))) ?_
 refine aA (aY rfl ?_ ?_)
 all_goals simp only [List.mem_cons,List.not_mem_nil,or_false,forall_eq_or_imp,forall_eq,Option.some.injEq,forall_eq',Mem.aq,eq_self,if_true,↓reduceIte,reduceCtorEq,implies_true,not_true_eq_false,false_imp_iff,true_and,and_true,false_and,and_false,imp_self,hd,Oid.ab u1,Oid.aa u1,Oid.ab u2,Oid.aa u2,Oid.ab u3,Oid.aa u3,Oid.ab u4,Oid.aa u4,Oid.ab u5,Oid.aa u5,Oid.ab u6,Oid.aa u6]
def kT (n:Str) (es:List ME) (c:Nat):List ME × Nat:=if n=[] then (es,c) else (cU (.str n) (.bool true) c es,if cn (.str n) es=true then c else c+1)
theorem Ej (n:Str) (b:Bits) (p:Oid) (hp:p.mono=false) (hu:∀ i ∈ [st,t,tr,o,rd,wr],¬ Oid.under p i) :
  aj Tryz.prog 23 [.ptr st 0,.str n,b.av] (Oid.under p) ⟨[(st,.cells [.map t,.ptr tr 0]),(t,.map [.ss] false es clock),(tr,.cells [.map o,.map rd,.map wr]),(o,.map [.ss] false eso co),(rd,.map [.ss,.sb] true esr cr),(wr,.map [.ss] false esw cw)],.tuple [],[(t,some (.map [.ss] false (qQ n b es clock) (qR n b es clock))),(wr,some (.map [.ss] false (kT n esw cw).1 (kT n esw cw).2))]⟩:=by
 simp only [List.nodup_cons,List.mem_cons,List.not_mem_nil,or_false,not_or,not_false_eq_true,List.nodup_nil,and_true] at hn;simp only [List.mem_cons,List.not_mem_nil,or_false,forall_eq_or_imp,forall_eq] at hu;have hd:=hn;obtain ⟨u1,u2,u3,u4,u5,u6⟩:=hu
 simp only [Bits.av]
 by_cases hn0:n=[]
 ·unfold qQ qR kT
  simp only [if_pos hn0]
  refine aC (n:=35) (rs:=[]) Tryz.func23 rfl rfl (by decide) rfl rfl rfl ?_;rintro x rfl hrd hng
  refine qw (ai hd (ai (uu u1) (ai (uu u2) (ai (uu u3) (ai (uu u4) (ai (uu u5) (uu u6))))))) ?_
  refine aO rfl rfl (fun hb=>?_) (fun hb=>?_)
  ·refine qw (ai hd (ai (uu u1) (ai (uu u2) (ai (uu u3) (ai (uu u4) (ai (uu u5) (uu u6))))))) ?_
   refine aA (gh rfl ?_ ?_)
   all_goals simp only [List.mem_cons,List.not_mem_nil,or_false,forall_eq_or_imp,forall_eq,Option.some.injEq,forall_eq',Mem.aq,eq_self,if_true,↓reduceIte,reduceCtorEq,implies_true,not_true_eq_false,false_imp_iff,true_and,and_true,false_and,and_false,imp_self,hd,Oid.ab u1,Oid.aa u1,Oid.ab u2,Oid.aa u2,Oid.ab u3,Oid.aa u3,Oid.ab u4,Oid.aa u4,Oid.ab u5,Oid.aa u5,Oid.ab u6,Oid.aa u6]
  ·exact absurd hn0 hb
 ·unfold qQ qR kT
  simp only [if_neg hn0]
  refine aC (n:=35) (rs:=[]) Tryz.func23 rfl rfl (by decide) rfl rfl rfl ?_;rintro x rfl hrd hng
  refine qw (ai hd (ai (uu u1) (ai (uu u2) (ai (uu u3) (ai (uu u4) (ai (uu u5) (uu u6))))))) ?_
  refine aO rfl rfl (fun hb=>?_) (fun hb=>?_)
  ·exact absurd hb hn0
  ·refine qw (ai hd (ai (uu u1) (ai (uu u2) (ai (uu u3) (ai (uu u4) (ai (uu u5) (uu u6))))))) ?_
   by_cases hk:b.k=0
   ·simp only [if_pos hk]
    refine aO rfl rfl (fun hb=>?_) (fun hb=>?_)
    ·refine qw (ai hd (ai (uu u1) (ai (uu u2) (ai (uu u3) (ai (uu u4) (ai (uu u5) (uu u6))))))) ?_
     refine bV (bX rfl ?_ ?_)
     all_goals simp only [List.mem_cons,List.not_mem_nil,or_false,forall_eq_or_imp,forall_eq,Option.some.injEq,forall_eq',Mem.aq,eq_self,if_true,↓reduceIte,reduceCtorEq,implies_true,not_true_eq_false,false_imp_iff,true_and,and_true,false_and,and_false,imp_self,hd,Oid.ab u1,Oid.aa u1,Oid.ab u2,Oid.aa u2,Oid.ab u3,Oid.aa u3,Oid.ab u4,Oid.aa u4,Oid.ab u5,Oid.aa u5,Oid.ab u6,Oid.aa u6]
    ·exact absurd hk hb
   ·simp only [if_neg hk]
    refine aO rfl rfl (fun hb=>?_) (fun hb=>?_)
    ·exact absurd hb hk
    ·(try ((first|refine zn ?_|refine ze ?_|refine zk ?_);with_reducible (constructor;repeat constructor));try refine zl ?_)
     refine qd (.d [] [] [0]) (ai hd (ai (uu u1) (ai (uu u2) (ai (uu u3) (ai (uu u4) (ai (uu u5) (uu u6))))))) trivial ?_
     refine bV (bX rfl ?_ ?_)
     all_goals simp only [List.mem_cons,List.not_mem_nil,or_false,forall_eq_or_imp,forall_eq,Option.some.injEq,forall_eq',Mem.aq,eq_self,if_true,↓reduceIte,reduceCtorEq,implies_true,not_true_eq_false,false_imp_iff,true_and,and_true,false_and,and_false,imp_self,Bits.av,hd,Oid.ab u1,Oid.aa u1,Oid.ab u2,Oid.aa u2,Oid.ab u3,Oid.aa u3,Oid.ab u4,Oid.aa u4,Oid.ab u5,Oid.aa u5,Oid.ab u6,Oid.aa u6]
end
end Go.Proofs.YtfbnaalhioogoaaGreatDoor
namespace Go.Proofs.YtfbnaalhioogoaaGreatDoor
open Go Go.Ab
set_option maxRecDepth 100000
set_option maxHeartbeats 2000000
end Go.Proofs.YtfbnaalhioogoaaGreatDoor
namespace Go.Proofs.YtfbnaalhioogoaaGreatDoor
open Go Go.Ab
structure Tr where
 old:PL
 R:RL
 W:WL
structure St where
 L:PL
 t:Option Tr
def Tr.read (q:Tr) (f:Str × Bool):Tr:={ q with R:=fw q.old q.W f q.R }
def Tr.put (q:Tr) (n:Str):Tr:={ q with W:=fv true n q.W }
def St.read (s:St) (f:Str × Bool):St:=⟨s.L,s.t.map fun q=>q.read f⟩
def St.put (s:St) (n:Str) (b:Bits):St:=⟨eZ n b s.L,s.t.map fun q=>q.put n⟩
def St.begin (s:St):St:=⟨s.L,some ⟨s.L,[],[]⟩⟩
structure TOK (q:Tr):Prop where
 so:aU ltB q.old
 sr:aU ltF q.R
 sw:aU ltB q.W
 po:POk q.old
 no:Ei q.old
structure SOK (s:St):Prop where
 sl:aU ltB s.L
 po:POk s.L
 no:Ei s.L
 tr:∀ q,s.t=some q→TOK q
theorem uI {old:PL} {W:WL} {f:Str × Bool} {R:RL} (h:aU ltF R):aU ltF (fw old W f R):=by
 unfold fw
 split
 ·exact h
 ·split
  ·exact h
  ·exact gb Bh _ _ h
theorem jE {old:PL} {W:WL} {f:Str × Bool} {R:RL} (h:aU ltF R):(fw old W f R).length≤R.length+1:=by
 unfold fw
 split
 ·omega
 ·split
  ·omega
  ·have:=(cJ Bh f (some (dN old f)) h).length_eq
   rw [this,List.length_append]
   have:=List.length_filter_le (fun q=>decide (¬ q.1=f)) R
   simp only [eG,List.length_singleton];omega
theorem xZ {tr:Bool} {n:Str} {W:WL} (h:aU ltB W):aU ltB (fv tr n W):=by
 unfold fv
 split
 ·exact h
 ·split
  ·exact gb fU _ _ h
  ·exact h
theorem SOK.read {s:St} (h:SOK s) (f:Str × Bool):SOK (s.read f) :=
 ⟨h.sl,h.po,h.no,fun q hq=>by
  simp only [St.read,Option.map_eq_some_iff] at hq
  obtain ⟨a,h1,rfl⟩:=hq
  have k:=h.tr a h1
  exact ⟨k.so,uI k.sr,k.sw,k.po,k.no⟩⟩
def dx (st:Oid) (s:St) (N:List Oid) (F:Oid→ah):Prop:=N.Nodup∧match s.t with
 | none=>∃ (t:Oid) (es:List ME) (clock:Nat),N=[st,t]∧F st = .cells [.map t,.nilPtr]∧F t = .map [.ss] false es clock∧gO es s.L
 | some q=>∃ (t tr o rd wr:Oid) (es eso esr esw:List ME) (clock co cr cw:Nat),N=[st,t,tr,o,rd,wr]∧F st = .cells [.map t,.ptr tr 0]∧F t = .map [.ss] false es clock∧F tr = .cells [.map o,.map rd,.map wr] ∧
   F o = .map [.ss] false eso co∧F rd = .map [.ss,.sb] true esr cr∧F wr = .map [.ss] false esw cw∧gO es s.L∧gO eso q.old∧ka eA AV.str esr q.R∧ka AV.str (fun _:Unit=>.bool true) esw q.W
theorem x0 {esw:List ME} {W:WL} (h:ka AV.str (fun _:Unit=>.bool true) esw W) (n:Str):gJ (.str n) (.bool false) esw = .bool (aM n W).isSome:=by
 rw [sR encS h]
 cases aM n W<;>rfl
theorem x1 {old:PL} {W:WL} {esr:List ME} {R:RL} (h:ka eA AV.str esr R) (hs:aU ltF R) (n:Str) (f:Bool) (cr:Nat) :
  ka eA AV.str (dO f (aM n W).isSome (aM (n,f) R).isSome (eA (n,f)) (.str (dN old (n,f))) esr cr).1 (fw old W (n,f) R):=by
 unfold dO fw
 by_cases h1:f=false∧(aM n W).isSome=true
 ·rw [if_pos h1,if_pos (by rw [h1.1,h1.2];rfl)];exact h
 ·rw [if_neg h1]
  by_cases h2:(aM (n,f) R).isSome=true
  ·rw [if_pos h2,if_pos (by rw [h2,Bool.or_true])];exact h
  ·rw [if_neg h2,if_neg]
   ·exact nz Ig h (n,f) (dN old (n,f)) cr ((cJ Bh (n,f) (some (dN old (n,f))) hs).trans (.refl _))
   ·intro h3
    rw [Bool.or_eq_true,Bool.and_eq_true,Bool.not_eq_true'] at h3
    rcases h3 with h3|h3
    ·exact h1 h3
    ·exact h2 h3
theorem s7 {st:Oid} {s:St} {N:List Oid} {F:Oid→ah} (h:dx st s N F) (hs:SOK s) (g:Str × Bool) (f:FuncId) (xs:List AV) (v:AV)
  (h0:∀ (t:Oid) (es:List ME) (clock:Nat),s.t=none→¬ t=st→gO es s.L→∀ p,p.mono=false→¬ Oid.under p st→¬ Oid.under p t→aj Tryz.prog f xs (Oid.under p) ⟨[(st,.cells [.map t,.nilPtr]),(t,.map [.ss] false es clock)],v,[]⟩)
  (h1:∀ (q:Tr) (t tr o rd wr:Oid) (es eso esr esw:List ME) (clock co cr cw:Nat),s.t=some q→[wr,rd,o,tr,t,st].Nodup→gO es s.L→gO eso q.old→gJ (.str g.1) (.bool false) esw = .bool (aM g.1 q.W).isSome→cn (eA (g.1,g.2)) esr=(aM (g.1,g.2) q.R).isSome →
   ∀ p,p.mono=false→(∀ i ∈ [st,t,tr,o,rd,wr],¬ Oid.under p i)→aj Tryz.prog f xs (Oid.under p) ⟨[(st,.cells [.map t,.ptr tr 0]),(t,.map [.ss] false es clock),(tr,.cells [.map o,.map rd,.map wr]),(o,.map [.ss] false eso co),(rd,.map [.ss,.sb] true esr cr),(wr,.map [.ss] false esw cw)],v,
    [(rd,some (.map [.ss,.sb] true (dO g.2 (aM g.1 q.W).isSome (aM (g.1,g.2) q.R).isSome (eA (g.1,g.2)) (.str (dN q.old (g.1,g.2))) esr cr).1 (dO g.2 (aM g.1 q.W).isSome (aM (g.1,g.2) q.R).isSome (eA (g.1,g.2)) (.str (dN q.old (g.1,g.2))) esr cr).2))]⟩) :
  ∃ F',dx st (s.read g) N F'∧∀ p,p.mono=false→aW p N→aj Tryz.prog f xs (Oid.under p) ⟨bk (N,F),v,sb N F'⟩:=by
 obtain ⟨L,t0⟩:=s
 obtain ⟨hnd,h⟩:=h
 cases t0 with
 | none =>
  obtain ⟨t,es,clock,rfl,k1,k2,k3⟩:=h
  have hts:¬ t=st:=fun e=>by simp [e] at hnd
  refine ⟨F,⟨hnd,t,es,clock,rfl,k1,k2,k3⟩,fun p hp ho=>?_⟩
  refine (h0 t es clock rfl hts k3 p hp (ho _ (by simp)) (ho _ (by simp))).A7 ?_ (fun _ hq=>by cases hq) fun i hi=>qW hi
  rw [bk2,k1,k2];exact fun q hq=>hq
 | some q =>
  obtain ⟨t,tr,o,rd,wr,es,eso,esr,esw,clock,co,cr,cw,rfl,k1,k2,k3,k4,k5,k6,m1,m2,m3,m4⟩:=h
  have hT:=hs.tr q rfl
  have hnd':[wr,rd,o,tr,t,st].Nodup:=(List.reverse_perm [st,t,tr,o,rd,wr]).nodup_iff.2 hnd
  have hc:=h1 q t tr o rd wr es eso esr esw clock co cr cw rfl hnd' m1 m2 (x0 m4 g.1) (AT Ig m3 (g.1,g.2))
  have hme:=x1 (old:=q.old) (W:=q.W) m3 hT.sr g.1 g.2 cr
  generalize (dO g.2 (aM g.1 q.W).isSome (aM (g.1,g.2) q.R).isSome (eA (g.1,g.2)) (.str (dN q.old (g.1,g.2))) esr cr).1=E1 at hc hme
  generalize (dO g.2 (aM g.1 q.W).isSome (aM (g.1,g.2) q.R).isSome (eA (g.1,g.2)) (.str (dN q.old (g.1,g.2))) esr cr).2=C1 at hc
  have hn0:=hnd
  simp only [List.nodup_cons,List.mem_cons,List.not_mem_nil,or_false,not_or] at hn0
  obtain ⟨⟨n1,n2,n3,n4,n5⟩,⟨n6,n7,n8,n9⟩,⟨n10,n11,n12⟩,⟨n13,n14⟩,n15,_⟩:=hn0
  refine ⟨nJ F rd (.map [.ss,.sb] true E1 C1),⟨hnd,t,tr,o,rd,wr,es,eso,E1,esw,clock,co,C1,cw,rfl,?_,?_,?_,?_,?_,?_,m1,m2,hme,m4⟩,fun p hp ho=>?_⟩
  ·rw [bD,if_neg n4];exact k1
  ·rw [bD,if_neg n8];exact k2
  ·rw [bD,if_neg n11];exact k3
  ·rw [bD,if_neg n13];exact k4
  ·rw [bD,if_pos rfl]
  ·rw [bD,if_neg fun e=>n15 e.symm];exact k6
  ·refine (hc p hp ho).A7 ?_ (fun q hq=>by rw [List.mem_singleton.1 hq];simp) fun i hi=>?_
   ·rw [bk6,k1,k2,k3,k4,k5,k6];exact fun q hq=>hq
   ·show ((Mem.of _).set rd (some (.map [.ss,.sb] true E1 C1))) i=_
    simp only [Mem.set,bD]
    split
    ·rfl
    ·exact qW hi
theorem Bi {st:Oid} {s:St} {N:List Oid} {F:Oid→ah} (h:dx st s N F) (hs:SOK s) (n:Str) (hn:n.length≤140737488355000) :
  ∃ F',dx st (s.read (n,false)) N F'∧∀ p,p.mono=false→aW p N→aj Tryz.prog 37 [.ptr st 0,.str n] (Oid.under p) ⟨bk (N,F),(aF s.L n).av,sb N F'⟩ :=
 s7 h hs (n,false) _ _ _
  (fun t es clock _ hts hm p _ h1 h2=>uy st t es clock hts p h1 h2 n ((aM n s.L).getD Bits.no) (nO hm n))
  (fun q t tr o rd wr es eso esr esw clock co cr cw hq hn' hm hmo hw hh p hp hu=>Hl st t tr o rd wr hn' es eso esr esw clock co cr cw q.old s.L hmo (hs.tr q hq).so (hs.tr q hq).po hm n hn _ _ hw hh p hp hu)
theorem x2 {st:Oid} {s:St} {N:List Oid} {F:Oid→ah} (h:dx st s N F) (hs:SOK s) (n:Str) (hn:n.length≤140737488355000) :
  ∃ F',dx st (s.read (n,true)) N F'∧∀ p,p.mono=false→aW p N→aj Tryz.prog 171 [.ptr st 0,.str n] (Oid.under p) ⟨bk (N,F),.list 1 ((aP s.L n).map AV.str),sb N F'⟩ :=
 s7 h hs (n,true) _ _ _
  (fun t es clock _ hts hm p _ h1 h2=>by
   have:=oO st t es clock hts p h1 h2 n hn (fun e he=>Nat.le_trans (nP hm hs.po e he) (by decide)) (by have:=hs.po.len;rw [kS hm];omega)
   rwa [lA hm hs.sl] at this)
  (fun q t tr o rd wr es eso esr esw clock co cr cw hq hn' hm hmo hw hh p hp hu=>xY st t tr o rd wr hn' es eso esr esw clock co cr cw q.old s.L hmo (hs.tr q hq).so (hs.tr q hq).po hm hs.sl hs.po n hn _ _ hw hh p hp hu)
end Go.Proofs.YtfbnaalhioogoaaGreatDoor
namespace Go.Proofs.YtfbnaalhioogoaaGreatDoor
open Go Go.Ab
set_option maxRecDepth 20000
set_option maxHeartbeats 4000000
theorem Hm (r:Oid) (L:PL) (hL:L.length≤1000000) (n:Str) (o1 r1 w1 b1 o2 r2 w2 b2:AV) (hT:∀ p,¬ Oid.under p r→aj Tryz.prog 127 [.ptr r 0,.str n,.bool false] (Oid.under p) ⟨[(r,.cells [.list 4 (L.map aI),o1,r1,w1,b1])],.tuple [],[(r,some (.cells [.list 4 (L.map aI),o2,r2,w2,b2]))]⟩)
  (p:Oid) (hr:¬ Oid.under p r):aj Tryz.prog 49 [.ptr r 0,.str n] (Oid.under p) ⟨[(r,.cells [.list 4 (L.map aI),o1,r1,w1,b1])],(aF L n).av,[(r,some (.cells [.list 4 (L.map aI),o2,r2,w2,b2]))]⟩:=by
 have hr':∀ c i,¬ Oid.under (.sub c i p) r:=fun c i h=>hr (Oid.ae h)
 have hg:=fun p=>Bd L (by omega) n p
 generalize aF L n=B at hg ⊢
 simp only [Bits.av] at hg ⊢
 refine aC (n:=14) (rs:=[.cell 4 56]) Tryz.func49 rfl rfl (by decide) rfl rfl rfl ?_;rintro x rfl hrd hng
 (repeat (first|(refine ax rfl rfl ?_)|(refine aw rfl rfl ?_)|(refine ao nmd [] hng (by kernel_rfl) fun hf C S K hC1 hC hS hK=>?_;simp (disch:=first|omega|assumption) only [go_sem,Oid.ab hr,Oid.aa hr];(repeat ((first|refine hC1 _ (hT _ (hr' _ _)) (by simp (disch:=first|omega|assumption) only [go_sem]) ?_|refine hC1 _ (hg _) (by simp (disch:=first|omega|assumption) only [go_sem]) ?_);simp (disch:=first|omega|assumption) only [go_sem]));refine hK ?_;clear hK hS hC hC1 K S C hf)|((first|refine zn ?_|refine ze ?_|refine zk ?_);with_reducible (constructor;repeat constructor);try refine zl ?_)))
 refine aA (aY (qs (uu hr)) ?_ ?_)
 all_goals simp only [List.mem_cons,List.not_mem_nil,or_false,forall_eq_or_imp,forall_eq,Option.some.injEq,forall_eq',Mem.aq,eq_self,if_true,↓reduceIte,reduceCtorEq,implies_true,not_true_eq_false,false_imp_iff,true_and,and_true,false_and,and_false,imp_self,Oid.ab hr,Oid.aa hr]
theorem x3 (r:Oid) (L:PL) (hL:POk L) (n:Str) (hn:n.length≤140737488355000) (o1 r1 w1 b1 o2 r2 w2 b2:AV) (hT:∀ p,¬ Oid.under p r→aj Tryz.prog 127 [.ptr r 0,.str n,.bool true] (Oid.under p) ⟨[(r,.cells [.list 4 (L.map aI),o1,r1,w1,b1])],.tuple [],[(r,some (.cells [.list 4 (L.map aI),o2,r2,w2,b2]))]⟩)
  (p:Oid) (hr:¬ Oid.under p r):aj Tryz.prog 172 [.ptr r 0,.str n] (Oid.under p) ⟨[(r,.cells [.list 4 (L.map aI),o1,r1,w1,b1])],.list 1 ((aP L n).map AV.str),[(r,some (.cells [.list 4 (L.map aI),o2,r2,w2,b2]))]⟩:=by
 have hr':∀ c i,¬ Oid.under (.sub c i p) r:=fun c i h=>hr (Oid.ae h)
 have hg:=fun p=>pP L hL n hn p
 generalize aP L n=B at hg ⊢
 refine aC (n:=14) (rs:=[.tmp 4]) Tryz.func172 rfl rfl (by decide) rfl rfl rfl ?_;rintro x rfl hrd hng
 (repeat (first|(refine ax rfl rfl ?_)|(refine aw rfl rfl ?_)|(refine ao nmd [] hng (by kernel_rfl) fun hf C S K hC1 hC hS hK=>?_;simp (disch:=first|omega|assumption) only [go_sem,Oid.ab hr,Oid.aa hr];(repeat ((first|refine hC1 _ (hT _ (hr' _ _)) (by simp (disch:=first|omega|assumption) only [go_sem]) ?_|refine hC1 _ (hg _) (by simp (disch:=first|omega|assumption) only [go_sem]) ?_);simp (disch:=first|omega|assumption) only [go_sem]));refine hK ?_;clear hK hS hC hC1 K S C hf)|((first|refine zn ?_|refine ze ?_|refine zk ?_);with_reducible (constructor;repeat constructor);try refine zl ?_)))
 refine aA (aY (qs (uu hr)) ?_ ?_)
 all_goals simp only [List.mem_cons,List.not_mem_nil,or_false,forall_eq_or_imp,forall_eq,Option.some.injEq,forall_eq',Mem.aq,eq_self,if_true,↓reduceIte,reduceCtorEq,implies_true,not_true_eq_false,false_imp_iff,true_and,and_true,false_and,and_false,imp_self,Oid.ab hr,Oid.aa hr]
def eB (r:Oid) (s:St) (N:List Oid) (F:Oid→ah):Prop:=N=[r]∧match s.t with
 | none=>∃ OO:AV,F r = .cells [.list 4 (s.L.map aI),OO,.list 3 [],.list 1 [],.bool false]
 | some q=>F r = .cells [.list 4 (s.L.map aI),.list 4 (q.old.map aI),.list 3 (q.R.map c8),.list 1 (q.W.map fun w=>.str w.1),.bool true]
theorem pQ {r:Oid} {s:St} {N:List Oid} {F:Oid→ah} (h:eB r s N F) (hs:SOK s) (hR:∀ q,s.t=some q→q.R.length≤1000000∧q.W.length≤1000000) (g:Str × Bool) (hn:g.1.length≤140737488355000) (f:FuncId) (xs:List AV) (v:AV)
  (h0:∀ (o1 r1 w1 b1 o2 r2 w2 b2:AV),(∀ p,¬ Oid.under p r→aj Tryz.prog 127 [.ptr r 0,.str g.1,.bool g.2] (Oid.under p) ⟨[(r,.cells [.list 4 (s.L.map aI),o1,r1,w1,b1])],.tuple [],[(r,some (.cells [.list 4 (s.L.map aI),o2,r2,w2,b2]))]⟩) →
   ∀ p,¬ Oid.under p r→aj Tryz.prog f xs (Oid.under p) ⟨[(r,.cells [.list 4 (s.L.map aI),o1,r1,w1,b1])],v,[(r,some (.cells [.list 4 (s.L.map aI),o2,r2,w2,b2]))]⟩) :
  ∃ F',eB r (s.read g) N F'∧∀ p,p.mono=false→aW p N→aj Tryz.prog f xs (Oid.under p) ⟨bk (N,F),v,sb N F'⟩:=by
 obtain ⟨L,t0⟩:=s
 obtain ⟨rfl,h⟩:=h
 cases t0 with
 | none =>
  obtain ⟨OO,hF⟩:=h
  refine ⟨nJ F r (.cells [.list 4 (L.map aI),OO,.list 3 [],.list 1 [],.bool false]),⟨rfl,OO,by rw [bD,if_pos rfl];rfl⟩,fun p _ ho=>?_⟩
  exact (h0 OO (.list 3 []) (.list 1 []) (.bool false) OO (.list 3 []) (.list 1 []) (.bool false) (fun p hp=>l4 (xR r L OO (.list 3 []) (.list 1 []) g.1 g.2 p hp) (by simp)) p (ho r (by simp))).one hF
 | some q =>
  have hT:=hs.tr q rfl
  obtain ⟨hR1,hW1⟩:=hR q rfl
  refine ⟨nJ F r (.cells [.list 4 (L.map aI),.list 4 (q.old.map aI),.list 3 ((fw q.old q.W g q.R).map c8),.list 1 (q.W.map fun w=>.str w.1),.bool true]),⟨rfl,by rw [bD,if_pos rfl];rfl⟩,fun p _ ho=>?_⟩
  exact (h0 _ _ _ _ _ _ _ _ (fun p hp=>xW r (.list 4 (L.map aI)) q.old hT.po hT.no q.R hR1 hT.sr q.W hW1 g.1 hn g.2 p hp) p (ho r (by simp))).one h
theorem Bj {r:Oid} {s:St} {N:List Oid} {F:Oid→ah} (h:eB r s N F) (hs:SOK s) (hR:∀ q,s.t=some q→q.R.length≤1000000∧q.W.length≤1000000) (n:Str) (hn:n.length≤140737488355000) :
  ∃ F',eB r (s.read (n,false)) N F'∧∀ p,p.mono=false→aW p N→aj Tryz.prog 49 [.ptr r 0,.str n] (Oid.under p) ⟨bk (N,F),(aF s.L n).av,sb N F'⟩ :=
 pQ h hs hR (n,false) hn _ _ _ fun o1 r1 w1 b1 o2 r2 w2 b2 hT p hp=>Hm r s.L hs.po.len n o1 r1 w1 b1 o2 r2 w2 b2 hT p hp
theorem uJ {r:Oid} {s:St} {N:List Oid} {F:Oid→ah} (h:eB r s N F) (hs:SOK s) (hR:∀ q,s.t=some q→q.R.length≤1000000∧q.W.length≤1000000) (n:Str) (hn:n.length≤140737488355000) :
  ∃ F',eB r (s.read (n,true)) N F'∧∀ p,p.mono=false→aW p N→aj Tryz.prog 172 [.ptr r 0,.str n] (Oid.under p) ⟨bk (N,F),.list 1 ((aP s.L n).map AV.str),sb N F'⟩ :=
 pQ h hs hR (n,true) hn _ _ _ fun o1 r1 w1 b1 o2 r2 w2 b2 hT p hp=>x3 r s.L hs.po n hn o1 r1 w1 b1 o2 r2 w2 b2 hT p hp
end Go.Proofs.YtfbnaalhioogoaaGreatDoor
namespace Go.Proofs.YtfbnaalhioogoaaGreatDoor
open Go Go.Ab
theorem nR {n:Str} {W:WL} (h:aU ltB W):(fv true n W).length≤W.length+1:=by
 unfold fv
 split
 ·omega
 ·rw [if_pos rfl]
  have:=(cJ fU n (some ()) h).length_eq
  rw [this,List.length_append]
  have:=List.length_filter_le (fun q=>decide (¬ q.1=n)) W
  simp only [eG,List.length_singleton];omega
theorem SOK.put {s:St} (h:SOK s) (n:Str) (b:Bits) (hl:s.L.length < 1000000) (hn:n.length≤1000000) (hb:b.ok) (hb2:0≤b.k∧0≤b.m):SOK (s.put n b) :=
 ⟨gg h.sl n b,⟨Nat.le_trans (jg n b s.L) hl,fun q hq=>by
   rcases nQ hq with rfl|hq
   ·exact hn
   ·exact h.po.key q hq,fun q hq=>by
   rcases nQ hq with rfl|hq
   ·exact hb
   ·exact h.po.val q hq⟩,fun q hq=>by
   rcases nQ hq with rfl|hq
   ·exact hb2
   ·exact h.no q hq,fun q hq=>by
  simp only [St.put,Option.map_eq_some_iff] at hq
  obtain ⟨a,h1,rfl⟩:=hq
  have k:=h.tr a h1
  exact ⟨k.so,k.sr,xZ k.sw,k.po,k.no⟩⟩
theorem x4 {esw:List ME} {W:WL} (h:ka AV.str (fun _:Unit=>.bool true) esw W) (hs:aU ltB W) (n:Str) (cw:Nat):ka AV.str (fun _:Unit=>.bool true) (kT n esw cw).1 (fv true n W):=by
 unfold kT fv
 split
 ·exact h
 ·rw [if_pos rfl]
  exact nz encS h n () cw ((cJ fU n (some ()) hs).trans (.refl _))
theorem Ek {st:Oid} {s:St} {N:List Oid} {F:Oid→ah} (h:dx st s N F) (hs:SOK s) (n:Str) (b:Bits) :
  ∃ F',dx st (s.put n b) N F'∧∀ p,p.mono=false→aW p N→aj Tryz.prog 23 [.ptr st 0,.str n,b.av] (Oid.under p) ⟨bk (N,F),.tuple [],sb N F'⟩:=by
 obtain ⟨L,t0⟩:=s
 obtain ⟨hnd,h⟩:=h
 cases t0 with
 | none =>
  obtain ⟨t,es,clock,rfl,k1,k2,k3⟩:=h
  have hts:¬ t=st:=fun e=>by simp [e] at hnd
  refine ⟨nJ F t (.map [.ss] false (qQ n b es clock) (qR n b es clock)),⟨hnd,t,_,qR n b es clock,rfl,?_,?_,sY k3 hs.sl n b clock⟩,fun p hp ho=>?_⟩
  ·rw [bD,if_neg fun e=>hts e.symm];exact k1
  ·rw [bD,if_pos rfl]
  ·refine (Hi st t es clock hts p (ho _ (by simp)) (ho _ (by simp)) n b).A7 ?_ (fun q hq=>by rw [List.mem_singleton.1 hq];simp) fun i hi=>?_
   ·rw [bk2,k1,k2];exact fun q hq=>hq
   ·show ((Mem.of _).set t (some _)) i=_
    simp only [Mem.set,bD]
    split
    ·rfl
    ·exact qW hi
 | some q =>
  obtain ⟨t,tr,o,rd,wr,es,eso,esr,esw,clock,co,cr,cw,rfl,k1,k2,k3,k4,k5,k6,m1,m2,m3,m4⟩:=h
  have hT:=hs.tr q rfl
  have hnd':[wr,rd,o,tr,t,st].Nodup:=(List.reverse_perm [st,t,tr,o,rd,wr]).nodup_iff.2 hnd
  have hn0:=hnd
  simp only [List.nodup_cons,List.mem_cons,List.not_mem_nil,or_false,not_or] at hn0
  obtain ⟨⟨n1,n2,n3,n4,n5⟩,⟨n6,n7,n8,n9⟩,⟨n10,n11,n12⟩,⟨n13,n14⟩,n15,_⟩:=hn0
  refine ⟨nJ (nJ F t (.map [.ss] false (qQ n b es clock) (qR n b es clock))) wr (.map [.ss] false (kT n esw cw).1 (kT n esw cw).2),⟨hnd,t,tr,o,rd,wr,_,eso,esr,_,qR n b es clock,co,cr,(kT n esw cw).2,rfl,?_,?_,?_,?_,?_,?_,sY m1 hs.sl n b clock,m2,m3,x4 m4 hT.sw n cw⟩,fun p hp ho=>?_⟩
  ·rw [bD,if_neg n5,bD,if_neg n1];exact k1
  ·rw [bD,if_neg n9,bD,if_pos rfl]
  ·rw [bD,if_neg n12,bD,if_neg fun e=>n6 e.symm];exact k3
  ·rw [bD,if_neg n14,bD,if_neg fun e=>n7 e.symm];exact k4
  ·rw [bD,if_neg n15,bD,if_neg fun e=>n8 e.symm];exact k5
  ·rw [bD,if_pos rfl]
  ·refine (Ej st t tr o rd wr hnd' es eso esr esw clock co cr cw n b p hp ho).A7 ?_ (fun q hq=>by
    simp only [List.mem_cons,List.not_mem_nil,or_false] at hq
    rcases hq with rfl|rfl<;>simp) fun i hi=>?_
   ·rw [bk6,k1,k2,k3,k4,k5,k6];exact fun q hq=>hq
   ·show (((Mem.of _).set t (some _)).set wr (some _)) i=_
    simp only [Mem.set,bD]
    split
    ·rfl
    ·split
     ·rfl
     ·exact qW hi
theorem Bl {r:Oid} {s:St} {N:List Oid} {F:Oid→ah} (h:eB r s N F) (hs:SOK s) (hR:∀ q,s.t=some q→q.R.length≤1000000∧q.W.length≤1000000) (n:Str) (b:Bits) :
  ∃ F',eB r (s.put n b) N F'∧∀ p,p.mono=false→aW p N→aj Tryz.prog 46 [.ptr r 0,.str n,b.av] (Oid.under p) ⟨bk (N,F),.tuple [],sb N F'⟩:=by
 obtain ⟨L,t0⟩:=s
 obtain ⟨rfl,h⟩:=h
 cases t0 with
 | none =>
  obtain ⟨OO,hF⟩:=h
  have hw:fv false n []=[]:=by unfold fv;split<;>rfl
  refine ⟨nJ F r (.cells [.list 4 ((eZ n b L).map aI),OO,.list 3 [],.list 1 [],.bool false]),⟨rfl,OO,by rw [bD,if_pos rfl];rfl⟩,fun p _ ho=>?_⟩
  have:=vW r OO (.list 3 []) L hs.po.len [] (by simp) List.Pairwise.nil false n b p (ho r (by simp))
  rw [hw] at this
  exact aj.one this hF
 | some q =>
  have hT:=hs.tr q rfl
  obtain ⟨hR1,hW1⟩:=hR q rfl
  refine ⟨nJ F r (.cells [.list 4 ((eZ n b L).map aI),.list 4 (q.old.map aI),.list 3 (q.R.map c8),.list 1 ((fv true n q.W).map fun w=>.str w.1),.bool true]),⟨rfl,by rw [bD,if_pos rfl];rfl⟩,fun p _ ho=>?_⟩
  exact aj.one (vW r _ _ L hs.po.len q.W hW1 hT.sw true n b p (ho r (by simp))) h
end Go.Proofs.YtfbnaalhioogoaaGreatDoor
namespace Go.Proofs.YtfbnaalhioogoaaGreatDoor
open Go Go.Ab
set_option maxRecDepth 20000
abbrev Rds:=List (Str × Bool)
abbrev Pts:=List (Str × Bits)
def dG (a b:Int):Int:=IntKind.i64.wrap (BitVec.ofInt IntKind.i64.bits a &&& BitVec.ofInt IntKind.i64.bits b).toNat
def bJ (a b:Int):Int:=IntKind.i64.wrap (BitVec.ofInt IntKind.i64.bits a &&& ~~~ BitVec.ofInt IntKind.i64.bits b).toNat
def aN (s:Str):Str:=s.take (dK s 47 s.length).toNat
theorem x5 (a b:Int):gA .and .i64 a b=some (.int .i64 (dG a b)):=rfl
theorem q8 (a b:Int):gA .andNot .i64 a b=some (.int .i64 (bJ a b)):=rfl
attribute [go_sem high] x5 q8
inductive Rs (α:Type) where
 | err (e:Int)
 | go (a:α)
structure Wk where
 pl:Str
 todo:List Str
 links:Nat
 dir:Bool
def inE (b:Bits):Int:=if b.k=0 then 10 else if ¬ b.k=2 then 15 else if dG b.m 1=0 then 18 else 0
def cX (w:Wk) (t:List Str) (l:Str):Rs Wk :=
 if 8 < w.links+1 then .err 17 else if l=[] then .err 10 else .go ⟨if l.getD 0 0=47 then [] else w.pl,aQ l++t,w.links+1,w.dir || (decide (t=[]) && cK l)⟩
def iJ (w:Wk) (n:Str):Str:=w.pl++(47::n)
def goF (L:PL) (fol:Bool) (w:Wk) (n:Str) (t:List Str):Rs Wk :=
 if (aF L (iJ w n)).k=3∧(¬ t=[]∨fol=true∨w.dir=true) then cX w t (aF L (iJ w n)).l
 else if ¬ t=[]∧(aF L (iJ w n)).k=0 then .err 10 else .go ⟨iJ w n,t,w.links,w.dir⟩
def bq (L:PL) (fol:Bool) (w:Wk) (n:Str) (t:List Str):Rds × Rs Wk :=
 if ¬ inE (aF L w.pl)=0 then ([(w.pl,false)],.err (inE (aF L w.pl)))
 else if 32 < n.length then ([(w.pl,false)],.err 2)
 else if n=[46] then ([(w.pl,false)],.go ⟨w.pl,t,w.links,w.dir⟩)
 else if n=[46,46] then ([(w.pl,false)],.go ⟨aN w.pl,t,w.links,w.dir⟩)
 else ([(w.pl,false),(iJ w n,false)],goF L fol w n t)
def bP (L:PL) (fol:Bool):Nat→Wk→Rds × Rs Wk
 | 0,w=>([],if w.todo=[] then .go w else .err 0)
 | k+1,w=>match w.todo with
  | []=>([],.go w)
  | n::t=>match bq L fol w n t with
   | (rd,.err e)=>(rd,.err e)
   | (rd,.go w')=>(rd++(bP L fol k w').1,(bP L fol k w').2)
def wtF:List Str→Nat
 | []=>0
 | n::t=>n.length+1+wtF t
def wkW (w:Wk):Nat:=wtF w.todo+(8 - w.links) * 302
def aK (cwd path:Str):Wk:=⟨if path.getD 0 0=47 then [] else cwd,aQ path,0,cK path⟩
def cO (L:PL):Rds × Rs Wk→Rds × Rs (Str × Bits)
 | (rd,.err e)=>(rd,.err e)
 | (rd,.go w)=>(rd++[(w.pl,false)],if w.dir=true∧¬ (aF L w.pl).k=0∧¬ (aF L w.pl).k=2 then .err 15 else .go (w.pl,aF L w.pl))
def findF (L:PL) (cwd path:Str) (fol:Bool):Rds × Rs (Str × Bits) :=
 if path=[] then ([],.err 10) else if 200 < path.length then ([],.err 2) else cO L (bP L fol (wkW (aK cwd path)) (aK cwd path))
def aV {α β:Type} (x:Rds × Rs α) (f:α→Rds × Rs β):Rds × Rs β:=match x with
 | (r,.err e)=>(r,.err e)
 | (r,.go a)=>(r++(f a).1,(f a).2)
def bS (L:PL) (cwd path:Str) (fol:Bool):Rds × Rs (Str × Bits):=aV (findF L cwd path fol) fun a=>([],if a.2.k=0 then .err 10 else .go a)
def bO (place:Str) (e:Bits):Int:=if place=[] then 18 else if ¬ e.k=2 then 10 else if ¬ dG e.m 3=3 then 18 else 0
def b7 {α:Type} (L:PL) (place:Str) (a:α):Rds × Rs α:=([(aN place,false)],if ¬ bO place (aF L (aN place))=0 then .err (bO place (aF L (aN place))) else .go a)
def cL (L:PL) (cwd path:Str):Rds × Rs Str:=aV (bS L cwd path true) fun a=>([],if a.2.k=2 then .err 14 else if dG a.2.m 4=0 then .err 18 else .go a.2.l)
def l7 (e:Bits) (more:Bool) (data:Str):Str:=if more=true then e.l++data else data
def dm (at':Str) (e:Bits) (more:Bool) (data:Str):Rs Pts:=if 100000 < (l7 e more data).length then .err 2 else .go [(at',⟨e.k,e.m,l7 e more data⟩)]
def b9 (L:PL) (cwd:Str) (um:Int) (path data:Str) (more:Bool):Rds × Rs Pts:=aV (findF L cwd path true) fun a =>
 if a.2.k=2 then ([],.err 14)
 else if a.2.k=0 then (if cK path=true then ([],.err 14) else aV (b7 L a.1 ()) fun _=>([],dm a.1 ⟨1,bJ 6 um,[]⟩ more data))
 else if dG a.2.m 2=0 then ([],.err 18) else ([],dm a.1 a.2 more data)
def iK (L:PL) (cwd path:Str):Rds × Rs (List Str):=aV (bS L cwd path true) fun a =>
 if ¬ a.2.k=2 then ([],.err 15) else if dG a.2.m 4=0 then ([],.err 18) else ([(a.1,true)],.go (aP L a.1))
def eJ (L:PL) (cwd path:Str) (e:Bits):Rds × Rs Pts:=aV (findF L cwd path false) fun a =>
 if ¬ a.2.k=0 then ([],.err 11) else b7 L a.1 [(a.1,e)]
def eK (L:PL) (cwd:Str) (um:Int) (path:Str):Rds × Rs Pts:=eJ L cwd path ⟨2,bJ 7 um,[]⟩
def cg (L:PL) (cwd target path:Str):Rds × Rs Pts :=
 if target=[]∨200 < target.length then ([],.err 1) else if cK path=true then ([],.err 10) else eJ L cwd path ⟨3,7,target⟩
def dH (L:PL) (cwd path:Str):Rds × Rs Str:=aV (bS L cwd path false) fun a=>([],if ¬ a.2.k=3 then .err 19 else .go a.2.l)
def dn (L:PL) (cwd path:Str):Rds × Rs Pts:=aV (bS L cwd path false) fun a=>if a.2.k=2 then ([],.err 14) else b7 L a.1 [(a.1,Bits.no)]
def eL (L:PL) (cwd path:Str):Rds × Rs Pts:=aV (bS L cwd path false) fun a =>
 if ¬ a.2.k=2 then ([],.err 15) else if a.1=cwd∨a.1=[] then ([],.err 18)
 else aV ([(a.1,true)],if ¬ aP L a.1=[] then .err 16 else .go ()) fun _=>b7 L a.1 [(a.1,Bits.no)]
def dQ (L:PL) (cwd from' to':Str):Rds × Rs Pts:=aV (bS L cwd from' false) fun a =>
 if a.2.k=2 then ([],.err 14) else aV (findF L cwd to' false) fun b =>
  if b.2.k=2 then ([],.err 14) else if b.2.k=0∧cK to' = true then ([],.err 15)
  else aV (b7 L a.1 ()) fun _=>b7 L b.1 (if a.1=b.1 then [] else [(a.1,Bits.no),(b.1,a.2)])
def bM (L:PL) (cwd path:Str) (mode:Int):Rds × Rs Pts:=aV (bS L cwd path true) fun a =>
 ([],if ¬ (0≤mode∧mode≤7) then .err 1 else if a.1=[] then .err 18 else .go [(a.1,⟨a.2.k,mode,a.2.l⟩)])
def cF (L:PL) (cwd path:Str):Rds × Rs Str:=aV (bS L cwd path true) fun a =>
 ([],if ¬ a.2.k=2 then .err 15 else if dG a.2.m 1=0 then .err 18 else .go a.1)
def Bm (cwd:Str):Str:=if cwd=[] then [47] else cwd
def aD {α:Type}:Rs α→Int
 | .err e=>e
 | .go _=>0
def bT:Rs Pts→Pts
 | .err _=>[]
 | .go l=>l
def St.rds (s:St) (l:Rds):St:=l.foldl St.read s
def St.pts (s:St) (l:Pts):St:=l.foldl (fun s q=>s.put q.1 q.2) s
theorem vX (l:Rds):∀ s:St,(s.rds l).L=s.L:=by
 induction l with
 | nil=>intro s;rfl
 | cons f l ih=>intro s;show ((s.read f).rds l).L=_;rw [ih];rfl
theorem SOK.rds {s:St} (h:SOK s) (l:Rds):SOK (s.rds l):=by
 induction l generalizing s with
 | nil=>exact h
 | cons f l ih=>exact ih (h.read f)
theorem pR {α β:Type} {x:Rds × Rs α} {f:α→Rds × Rs β} {r:Rds} {e:Int} (h:x=(r,.err e)):aV x f=(r,.err e):=by rw [h];rfl
theorem s8 {α β:Type} {x:Rds × Rs α} {f:α→Rds × Rs β} {r:Rds} {a:α} (h:x=(r,.go a)):aV x f=(r++(f a).1,(f a).2):=by rw [h];rfl
theorem nS (c:UInt8):∀ s:Str,wtF (a8 c s)=s.length+1
 | []=>rfl
 | b::s=>by
  have ih:=nS c s
  rw [a8]
  split
  ·simp only [wtF,ih,List.length_nil,List.length_cons];omega
  ·cases h:a8 c s with
   | nil=>exact absurd h (jB c s)
   | cons l r=>rw [h] at ih;simp only [wtF,List.length_cons] at ih ⊢;omega
theorem nT (q:Str→Bool):∀ l:List Str,wtF (l.filter q)≤wtF l
 | []=>Nat.le_refl _
 | n::l=>by
  have ih:=nT q l
  rw [List.filter_cons]
  split<;>simp only [wtF]<;>omega
theorem nU (s:Str):wtF (aQ s)≤s.length+1:=by
 rw [← nS 47 s];exact nT _ _
theorem vY:∀ a b:List Str,wtF (a++b)=wtF a+wtF b
 | [],b=>by simp [wtF]
 | n::a,b=>by have ih:=vY a b;simp only [List.cons_append,wtF,ih];omega
theorem iC (s:Str):(aN s).length≤s.length:=by unfold aN;rw [List.length_take];omega
def jh (L:PL):Prop:=∀ q ∈ L,q.2.k=3→q.2.l.length≤300
theorem x6 {L:PL} (hs:aU ltB L) (h:jh L) (n:Str) (h3:(aF L n).k=3):(aF L n).l.length≤300:=by
 unfold aF at h3 ⊢
 split at h3
 ·simp at h3
 ·rename_i hn
  rw [if_neg hn]
  cases hb:aM n L with
  | none=>rw [hb] at h3;simp [Bits.no] at h3
  | some b=>rw [hb] at h3;exact h _ ((bE (hs.nodup fU)).1 hb) h3
theorem kU {L:PL} (hs:aU ltB L) (hl:jh L) {fol:Bool} {w w':Wk} {n:Str} {t:List Str} {rd:Rds} (h:bq L fol w n t=(rd,.go w')) :
  wtF w'.todo+(8 - w'.links) * 302 < wtF (n::t)+(8 - w.links) * 302∧w'.pl.length+(wtF w'.todo+(8 - w'.links) * 302)≤w.pl.length+(wtF (n::t)+(8 - w.links) * 302):=by
 have hw:(wtF (n::t))=n.length+1+wtF t:=rfl
 unfold bq at h
 split at h;· cases h
 split at h;· cases h
 split at h
 ·cases h;simp only;omega
 split at h
 ·cases h;have:=iC w.pl;simp only;omega
 have hn:(iJ w n).length=w.pl.length+n.length+1:=by simp only [iJ,List.length_append,List.length_cons];omega
 obtain ⟨-,h⟩:=Prod.mk.inj h
 unfold goF at h
 split at h
 ·rename_i h3
  have hb:=x6 hs hl _ h3.1
  generalize aF L (iJ w n)=b at h hb
  unfold cX at h
  split at h;· cases h
  split at h;· cases h
  have hp:=nU b.l
  cases h
  simp only [vY]
  have:(if b.l.getD 0 0=47 then ([]:Str) else w.pl).length≤w.pl.length:=by split<;>simp
  omega
 ·split at h;· cases h
  cases h;simp only;omega
theorem x7 {L:PL} {fol:Bool} {w:Wk} {n:Str} {t:List Str}:∀ f ∈ (bq L fol w n t).1,f.1.length≤w.pl.length+n.length+1:=by
 have h1:∀ f ∈ [(w.pl,false)],f.1.length≤w.pl.length+n.length+1:=fun f hf=>by rw [List.mem_singleton.1 hf];show w.pl.length≤_;omega
 unfold bq
 split;· exact h1
 split;· exact h1
 split;· exact h1
 split;· exact h1
 intro f hf
 simp only [List.mem_cons,List.not_mem_nil,or_false] at hf
 rcases hf with rfl|rfl
 ·show w.pl.length≤_;omega
 ·show (iJ w n).length≤_;simp only [iJ,List.length_append,List.length_cons];omega
theorem x8 {L:PL} {fol:Bool} {w:Wk} {n:Str} {t:List Str}:(bq L fol w n t).1.length≤2:=by
 unfold bq
 repeat' split
 all_goals simp
theorem vZ {L:PL} (hs:aU ltB L) (hl:jh L) (fol:Bool):∀ (k:Nat) (w:Wk),wkW w≤k →
  (∀ f ∈ (bP L fol k w).1,f.1.length≤w.pl.length+wkW w)∧(bP L fol k w).1.length≤2 * k∧∀ w',(bP L fol k w).2 = .go w'→w'.todo=[]∧w'.pl.length≤w.pl.length+wkW w
 | 0,w,h=>by
  obtain ⟨a,todo,l,d⟩:=w
  cases todo with
  | nil=>exact ⟨fun f hf=>(by cases hf),Nat.zero_le _,fun w' h=>(by simp only [bP,if_true,Rs.go.injEq] at h;subst h;exact ⟨rfl,Nat.le_add_right _ _⟩)⟩
  | cons n t=>simp only [wkW,wtF] at h;omega
 | k+1,w,h=>by
  obtain ⟨a,todo,l,d⟩:=w
  cases todo with
  | nil=>exact ⟨fun f hf=>(by cases hf),Nat.zero_le _,fun w' h=>(by simp only [bP,Rs.go.injEq] at h;subst h;exact ⟨rfl,Nat.le_add_right _ _⟩)⟩
  | cons n t =>
   have h1:=x7 (L:=L) (fol:=fol) (w:=⟨a,n::t,l,d⟩) (n:=n) (t:=t)
   have h2:=x8 (L:=L) (fol:=fol) (w:=⟨a,n::t,l,d⟩) (n:=n) (t:=t)
   have hw:wkW ⟨a,n::t,l,d⟩=n.length+1+wtF t+(8 - l) * 302:=rfl
   simp only [bP]
   cases hst:bq L fol ⟨a,n::t,l,d⟩ n t with
   | mk rd r =>
    rw [hst] at h1 h2
    cases r with
    | err e=>exact ⟨fun f hf=>Nat.le_trans (h1 f hf) (by simp only [hw];omega),by simp only at h2 ⊢;omega,fun w' h=>(by cases h)⟩
    | go w' =>
     obtain ⟨g1,g2⟩:=kU hs hl hst
     simp only at g1 g2
     have hw':wkW w' = wtF w'.todo+(8 - w'.links) * 302:=rfl
     have hwt:wtF (n::t)=n.length+1+wtF t:=rfl
     obtain ⟨k1,k2,k3⟩:=vZ hs hl fol k w' (by omega)
     refine ⟨fun f hf=>?_,?_,fun w'' h=>?_⟩
     ·rcases List.mem_append.1 hf with hf|hf
      ·have:=h1 f hf;simp only [hw] at this ⊢;omega
      ·have:=k1 f hf;simp only [hw];omega
     ·rw [List.length_append];simp only at h2;omega
     ·obtain ⟨q1,q2⟩:=k3 w'' h
      exact ⟨q1,by simp only [hw];omega⟩
theorem ke (cwd path:Str) (hp:path.length≤200):(aK cwd path).pl.length≤cwd.length∧wkW (aK cwd path)≤2617:=by
 have h:=nU path
 constructor
 ·simp only [aK];split<;>simp
 ·simp only [wkW,aK];omega
theorem ij {L:PL} (hs:aU ltB L) (hl:jh L) (cwd path:Str) (fol:Bool) :
  (∀ f ∈ (findF L cwd path fol).1,f.1.length≤cwd.length+2700)∧(findF L cwd path fol).1.length≤6000∧∀ a,(findF L cwd path fol).2 = .go a→a.1.length≤cwd.length+2700∧a.2=aF L a.1:=by
 unfold findF
 split
 ·exact ⟨fun f hf=>(by cases hf),Nat.zero_le _,fun a h=>(by cases h)⟩
 split
 ·exact ⟨fun f hf=>(by cases hf),Nat.zero_le _,fun a h=>(by cases h)⟩
 rename_i hp
 obtain ⟨s1,s2⟩:=ke cwd path (by omega)
 obtain ⟨h1,h2,h3⟩:=vZ hs hl fol (wkW (aK cwd path)) (aK cwd path) (Nat.le_refl _)
 generalize bP L fol (wkW (aK cwd path)) (aK cwd path)=x at h1 h2 h3
 obtain ⟨rd,r⟩:=x
 simp only at h1 h2 h3
 cases r with
 | err e=>exact ⟨fun f hf=>Nat.le_trans (h1 f hf) (by omega),by simp only [cO];omega,fun a h=>(by cases h)⟩
 | go w =>
  obtain ⟨h4,h5⟩:=h3 w rfl
  refine ⟨fun f hf=>?_,?_,fun a h=>?_⟩
  ·simp only [cO] at hf
   rcases List.mem_append.1 hf with hf|hf
   ·exact Nat.le_trans (h1 f hf) (by omega)
   ·rw [List.mem_singleton.1 hf];show w.pl.length≤_;omega
  ·simp only [cO,List.length_append,List.length_singleton];omega
  ·simp only [cO] at h
   split at h
   ·cases h
   ·cases h;exact ⟨by simp only;omega,rfl⟩
end Go.Proofs.YtfbnaalhioogoaaGreatDoor
namespace Go.Proofs.YtfbnaalhioogoaaGreatDoor
open Go Go.Ab
set_option maxRecDepth 20000
def q9 (fA fN:FuncId) (o:Oid) (N:List Oid) (L:PL) (f:Str × Bool) (F F':Oid→ah):Prop:=match f with
 | (n,false)=>∀ p,p.mono=false→aW p N→aj Tryz.prog fA [.ptr o 0,.str n] (Oid.under p) ⟨bk (N,F),(aF L n).av,sb N F'⟩
 | (n,true)=>∀ p,p.mono=false→aW p N→aj Tryz.prog fN [.ptr o 0,.str n] (Oid.under p) ⟨bk (N,F),.list 1 ((aP L n).map AV.str),sb N F'⟩
def x9 (fA fN:FuncId) (o:Oid) (N:List Oid) (L:PL):Rds→(Oid→ah)→(Oid→ah)→Prop
 | [],F,F'=>F=F'
 | f::l,F,F'=>∃ F1,q9 fA fN o N L f F F1∧x9 fA fN o N L l F1 F'
theorem aZ {fA fN:FuncId} {o:Oid} {N:List Oid} {L:PL} {b:Rds} {F':Oid→ah}:∀ {a:Rds} {F:Oid→ah},x9 fA fN o N L (a++b) F F'→∃ F1,x9 fA fN o N L a F F1∧x9 fA fN o N L b F1 F'
 | [],F,h=>⟨F,rfl,h⟩
 | f::a,F,⟨F1,h1,h2⟩=>by
  obtain ⟨F2,k1,k2⟩:=aZ h2
  exact ⟨F2,⟨F1,h1,k1⟩,k2⟩
abbrev RP (st:Oid) (N:List Oid) (L:PL):=x9 37 171 st N L
abbrev RR' (r:Oid) (M:List Oid) (L:PL):=x9 49 172 r M L
theorem Bn {st:Oid} {N:List Oid}:∀ (l:Rds) (s:St) (F:Oid→ah),dx st s N F→SOK s→(∀ f ∈ l,f.1.length≤140737488355000)→∃ F',dx st (s.rds l) N F'∧RP st N s.L l F F'
 | [],s,F,h,_,_=>⟨F,h,rfl⟩
 | f::l,s,F,h,hs,hl=>by
  have hf:=hl f List.mem_cons_self
  have key:∃ F1,dx st (s.read f) N F1∧q9 37 171 st N s.L f F F1:=by
   obtain ⟨n,b⟩:=f
   cases b
   ·exact Bi h hs n hf
   ·exact x2 h hs n hf
  obtain ⟨F1,h1,h2⟩:=key
  obtain ⟨F',k1,k2⟩:=Bn l (s.read f) F1 h1 (hs.read f) fun g hg=>hl g (List.mem_cons_of_mem _ hg)
  exact ⟨F',k1,F1,h2,k2⟩
theorem Bo {r:Oid} {M:List Oid}:∀ (l:Rds) (s:St) (F:Oid→ah),eB r s M F→SOK s→(∀ q,s.t=some q→q.R.length+l.length≤1000000∧q.W.length≤1000000)→(∀ f ∈ l,f.1.length≤140737488355000)→∃ F',eB r (s.rds l) M F'∧RR' r M s.L l F F'
 | [],s,F,h,_,_,_=>⟨F,h,rfl⟩
 | f::l,s,F,h,hs,hR,hl=>by
  have hf:=hl f List.mem_cons_self
  have hR1:∀ q,s.t=some q→q.R.length≤1000000∧q.W.length≤1000000:=fun q hq=>by have:=hR q hq;omega
  have key:∃ F1,eB r (s.read f) M F1∧q9 49 172 r M s.L f F F1:=by
   obtain ⟨n,b⟩:=f
   cases b
   ·exact Bj h hs hR1 n hf
   ·exact uJ h hs hR1 n hf
  obtain ⟨F1,h1,h2⟩:=key
  obtain ⟨F',k1,k2⟩:=Bo l (s.read f) F1 h1 (hs.read f) (fun q hq=>by
   simp only [St.read,Option.map_eq_some_iff] at hq
   obtain ⟨a,ha,rfl⟩:=hq
   have h3:=hR a ha
   have h4:=jE (old:=a.old) (W:=a.W) (f:=f) (hs.tr a ha).sr
   simp only [List.length_cons] at h3
   refine ⟨?_,h3.2⟩
   show (fw a.old a.W f a.R).length+_≤_
   omega) fun g hg=>hl g (List.mem_cons_of_mem _ hg)
  exact ⟨F',k1,F1,h2,k2⟩
def oP (e:Int):AV:=.iface 28 (.int .i64 e)
abbrev dy (f:FuncId) (xs:List AV) (sp:Oid→Prop) (need:List (Oid × ah)) (r:Rs AV) (u0:List (Oid × Option ah)):Prop :=
 b8 Tryz.prog f xs sp need (fun v u=>r = .go v∧u=u0) (fun pv u=>∃ e,r = .err e∧pv=oP e∧u=u0)
theorem dy.ok {f:FuncId} {xs:List AV} {sp:Oid→Prop} {need:List (Oid × ah)} {r:Rs AV} {v:AV} {u0:List (Oid × Option ah)} (h:dy f xs sp need r u0) (hr:r = .go v):aj Tryz.prog f xs sp ⟨need,v,u0⟩ :=
 b8.ok (h.weaken (fun w u ⟨h1,h2⟩=>by rw [hr] at h1;exact ⟨(Rs.go.inj h1).symm,h2⟩) fun pv u ⟨e,h1,_⟩=>by rw [hr] at h1;cases h1)
theorem dy.pn {f:FuncId} {xs:List AV} {sp:Oid→Prop} {need:List (Oid × ah)} {r:Rs AV} {e:Int} {u0:List (Oid × Option ah)} (h:dy f xs sp need r u0) (hr:r = .err e):A6 Tryz.prog f xs sp need (oP e) u0 :=
 h.weaken (fun w u ⟨h1,h2⟩=>by rw [hr] at h1;cases h1) fun pv u ⟨e',h1,h2,h3⟩=>by rw [hr] at h1;exact ⟨by rw [h2,Rs.err.inj h1],h3⟩
end Go.Proofs.YtfbnaalhioogoaaGreatDoor
namespace Go.Ab
structure Bp (P:Program) [Laid P] (f:FuncId) (xs:List AV) (sp:Oid→Prop) (need:List (Oid × ah)) (u0:List (Oid × Option ah)) (rec:AV→List (Oid × Option ah)→Prop):Prop where
 enters:cQ P f=true
 ret:∀ (x:Ctx) (g:Gh) (args:Array Value) (w:World) (m:Mem),az x g m w→(∀ q,q ∈ need→m q.1=some q.2)→VRs g xs args→(∀ i,sp i→g.loc i=none∧Oid.under x.p i)→Fit P x →
  CallsD P f args .returning w fun en u' w'=>∃ g' v,en = .returned v∧u' = .returning∧g.le g'∧(∀ i,¬ sp i→g'.loc i=g.loc i)∧az x g' (m.aJ u0) w'
 pan:∀ (pv:AV) (u:List (Oid × Option ah)),rec pv u→∀ (x:Ctx) (g:Gh) (args:Array Value) (w:World) (m:Mem) (v:Value),az x g m w→(∀ q,q ∈ need→m q.1=some q.2)→VRs g xs args→(∀ i,sp i→g.loc i=none∧Oid.under x.p i)→Fit P x →
  VR g pv v→CallsD P f args (.panicking [{ v,recovered:=false,goexit:=false }]) w fun en u' w'=>∃ g' v',en = .returned v'∧u' = .panicking [{ v,recovered:=true,goexit:=false }]∧g.le g'∧(∀ i,¬ sp i→g'.loc i=g.loc i)∧az x g' (m.aJ u) w'
theorem CallsD.E0 {P:Program} {f:FuncId} {args:Array Value} {u:FrameMode} {w:World} {R R':Ending→FrameMode→World→Prop} (h:CallsD P f args u w R) (hr:∀ e u' w',R e u' w'→R' e u' w'):CallsD P f args u w R' :=
 fun c cs hu=>let ⟨e,u',w',fr,r,rest⟩:=h c cs hu;⟨e,u',w',fr,hr _ _ _ r,rest⟩
def lB (P:Program) [Laid P] (p:Oid) (K:Mem→Prop) (Kp:AV→Mem→Prop):List AD→Nat→Option AV→Mem→Prop
 | [],_,none,m=>K m
 | [],_,some pv,m=>Kp pv m
 | .call f cap args::ds,c,mode,m=>∃ (k:FuncId) (need:List (Oid × ah)) (u0:List (Oid × Option ah)) (rec:AV→List (Oid × Option ah)→Prop),f = .func k∧Bp P k (args++cap) (Oid.under (.sub c 0 p)) need u0 rec∧(∀ q,q ∈ need→m q.1=some q.2)∧match mode with
  | none=>lB P p K Kp ds (c+1) none (m.aJ u0)
  | some pv=>∃ u,rec pv u∧lB P p K Kp ds (c+1) none (m.aJ u)
 | .coll _::_,_,_,_=>False
theorem iD {P:Program} [Laid P] {x:Ctx} {fn:Func} {tmps:Array Value} {R:Ending→World→Prop} {K:Mem→Prop} {Kp:AV→Mem→Prop} (hx:Fit P x) {g0:Gh}
  (hK:∀ g m w,g0.le g→az x g m w→K m→∃ v,(results fn tmps).run P w = .ok v w∧R (.returned v) w) :
  ∀ (ds:List AD) (dl:List Deferred) (c:Nat) (g:Gh) (m:Mem) (w:World),g0.le g→az x g m w→(∀ i,eh x.p c i→g.loc i=none)→DRs g ds dl→lB P x.p K Kp ds c none m→Leaves P fn tmps R dl .returning w
 | [],_,_,g,m,w,hle,hm,_,hd,h=>by cases hd;exact hK g m w hle hm h
 | .coll _::_,_,_,_,_,_,_,_,_,_,h=>h.elim
 | .call f cap args::ds,_,c,g,m,w,hle,hm,hy,hd,h=>by
  obtain ⟨k,need,u0,rec,rfl,hD,hn,h⟩:=h
  cases hd with
  | cons h1 t =>
   cases h1 with
   | call _ _ _ cv av v1 v2 =>
    refine ⟨by simp,_,_,k,av++cv,rfl,?_,?_⟩
    ·have he:=hD.enters
     unfold cQ at he
     cases hfn:P.funcs[k]? with
     | none=>rw [hfn] at he;cases he
     | some fn =>
      rw [hfn] at he
      simp only [Bool.and_eq_true,bne_iff_ne,ne_eq] at he
      obtain ⟨he1,he2⟩:=he
      have hb:fn.body.isNone=false:=by cases hbb:fn.body<;>simp_all
      have hnm:(fn.name == "runtime.NumGoroutine")=false:=by simpa using he2
      simp only [Sem.run_bind,Sem.run_pure,Result.andThen_ok,invoke,callFunc,run_program,hfn,hnm,hb,Bool.false_eq_true,if_false]
    ·refine CallsD.E0 (hD.ret x g _ w m hm hn (v2.append v1) (fun i hi=>⟨hy i ⟨c,0,Nat.le_refl _,hi⟩,Oid.ae hi⟩) hx) fun en u' w' ⟨g',v,e1,e2,e3,e4,e5⟩=>?_
     subst e1;subst e2
     show Leaves P fn tmps R _ .returning w'
     refine iD hx hK ds _ (c+1) g' _ w' (Gh.le_trans hle e3) e5 (fun i hi=>?_) (t.mono e3) h
     rw [e4 i fun hu=>?_]
     ·exact hy i (hi.mono (Nat.le_succ _))
     ·obtain ⟨c',i',h1,h2⟩:=hi
      have:=(Oid.apart hu h2).1
      omega
theorem uK {P:Program} [Laid P] {x:Ctx} {fn:Func} {tmps:Array Value} {R:Ending→World→Prop} {K:Mem→Prop} {Kp:AV→Mem→Prop} (hx:Fit P x) {g0:Gh}
  (hK:∀ g m w,g0.le g→az x g m w→K m→∃ v,(results fn tmps).run P w = .ok v w∧R (.returned v) w) {pv:AV} {v:Value}
  (hKp:∀ m w,az x g0 m w→Kp pv m→R (.panicked [{ v,recovered:=false,goexit:=false }]) w) (hv:VR g0 pv v) :
  ∀ (ds:List AD) (dl:List Deferred) (c:Nat) (m:Mem) (w:World),az x g0 m w→(∀ i,eh x.p c i→g0.loc i=none)→DRs g0 ds dl→lB P x.p K Kp ds c (some pv) m→Leaves P fn tmps R dl (.panicking [{ v,recovered:=false,goexit:=false }]) w
 | [],_,_,m,w,hm,_,hd,h=>by cases hd;exact hKp m w hm h
 | .coll _::_,_,_,_,_,_,_,_,h=>h.elim
 | .call f cap args::ds,_,c,m,w,hm,hy,hd,h=>by
  obtain ⟨k,need,u0,rec,rfl,hD,hn,u,hr,h⟩:=h
  cases hd with
  | cons h1 t =>
   cases h1 with
   | call _ _ _ cv av v1 v2 =>
    refine ⟨by simp,_,_,k,av++cv,rfl,?_,?_⟩
    ·have he:=hD.enters
     unfold cQ at he
     cases hfn:P.funcs[k]? with
     | none=>rw [hfn] at he;cases he
     | some fn =>
      rw [hfn] at he
      simp only [Bool.and_eq_true,bne_iff_ne,ne_eq] at he
      obtain ⟨he1,he2⟩:=he
      have hb:fn.body.isNone=false:=by cases hbb:fn.body<;>simp_all
      have hnm:(fn.name == "runtime.NumGoroutine")=false:=by simpa using he2
      simp only [Sem.run_bind,Sem.run_pure,Result.andThen_ok,invoke,callFunc,run_program,hfn,hnm,hb,Bool.false_eq_true,if_false]
    ·refine CallsD.E0 (hD.pan pv u hr x g0 _ w m v hm hn (v2.append v1) (fun i hi=>⟨hy i ⟨c,0,Nat.le_refl _,hi⟩,Oid.ae hi⟩) hx hv) fun en u' w' ⟨g',v',e1,e2,e3,e4,e5⟩=>?_
     subst e1;subst e2
     show Leaves P fn tmps R _ (settle _) w'
     have hs:settle (.panicking [{ v,recovered:=true,goexit:=false }]) = .returning:=rfl
     rw [hs]
     refine iD hx hK ds _ (c+1) g' _ w' e3 e5 (fun i hi=>?_) (t.mono e3) h
     rw [e4 i fun hu=>?_]
     ·exact hy i (hi.mono (Nat.le_succ _))
     ·obtain ⟨c',i',h1,h2⟩:=hi
      have:=(Oid.apart hu h2).1
      omega
def pS (P:Program) [Laid P] (p:Oid) (rs:List ResultVar) (need:List (Oid × ah)) (R Rp:AV→List (Oid × Option ah)→Prop):AX→AS→Prop
 | .normal,s | .ret,s=>lB P p (fun m=>∃ val upd,eV P m s.fr rs=some val∧R val upd∧∀ i o,((Mem.of need).aJ upd) i=some o→m i=some o) (fun _ _=>False) s.ds s.c none s.mem
 | .panic pv,s=>lB P p (fun m=>∃ val upd,eV P m s.fr rs=some val∧R val upd∧∀ i o,((Mem.of need).aJ upd) i=some o→m i=some o) (fun pv m=>∃ upd,Rp pv upd∧∀ i o,((Mem.of need).aJ upd) i=some o→m i=some o) s.ds s.c (some pv) s.mem
 | .exit _,_=>False
theorem lC {P:Program} [Laid P] {f:FuncId} {fn:Func} {n:Nat} {rs:List ResultVar} {c:Code} {xs:List AV} {p:Oid} {need:List (Oid × ah)} {R Rp:AV→List (Oid × Option ah)→Prop} (hf:P.funcs[f]? = some fn) (hn:fn.ntmps=n) (hr:fn.results.toList=rs)
  (hnm:(fn.name != "runtime.NumGoroutine")=true) (hl:(Nat.ble xs.length n)=true) (hok:fF n rs=true) (hb:fn.body=some c)
  (hT:∀ x:Ctx,x.p=p→x.rd=none→Fit P x→T P x n c ⟨cR 0 xs,Mem.of need,0,[]⟩ (after P x n (pS P p rs need R Rp) [])):b8 P f xs (Oid.under p) need R Rp:=by
 subst hn;subst hr
 have hl:=Nat.le_of_ble_eq_true hl
 refine ⟨by simp only [cQ,hf,hb,Option.isSome_some,Bool.true_and];exact hnm,fun x g args w m hm hneed hargs hsp hng=>?_⟩
 refine calls_of_wp_defers hf hb ?_
 have hin:=hm.enter (p:=p) hneed
 have hsz:(args++Array.replicate (fn.ntmps - args.size) undef).size=fn.ntmps:=by simp [hargs.1];omega
 have hrel:Rel (x.inner g w need p) fn.ntmps g ⟨cR 0 xs,Mem.of need,0,[]⟩ { tmps:=args++Array.replicate (fn.ntmps - args.size) undef,defers:=[] } w:=by
  refine ⟨hin,hsz,.nil,fun t ht=>?_,fun i hi=>(hsp i hi.under).1⟩
  simp only
  rw [mv]
  split
  ·rename_i h
   rw [Nat.sub_zero,bs (by rw [hargs.1];omega)]
   exact hargs.2 t (by omega)
  ·exact .unk _
 have hpx:Oid.under x.p p:=(hsp p (Oid.ay p)).2
 have hfit:Fit P (x.inner g w need p):=hng.inner rfl hm.le
 refine (wpIn_wide (n:=0)).1 (wpIn_mono (hT (x.inner g w need p) rfl rfl hfit g _ w hrel) fun en a' w' ⟨g',ex,s',h1,h2,h3⟩=>?_)
 have hK:∀ g2 m2 w2,g'.le g2→az (x.inner g w need p) g2 m2 w2→(∃ val upd,eV P m2 s'.fr fn.results.toList=some val∧R val upd∧∀ i o,((Mem.of need).aJ upd) i=some o→m2 i=some o) →
   ∃ v,(results fn a'.tmps).run P w2 = .ok v w2∧((∃ g' v' val upd,Ending.returned v = .returned v'∧R val upd∧g.le g'∧(∀ i,¬ Oid.under p i→g'.loc i=g.loc i)∧VR g' val v'∧az x g' (m.aJ upd) w2) ∨
   (∃ g' e pv upd,Ending.returned v = .panicked [e]∧Rp pv upd∧g.le g'∧(∀ i,¬ Oid.under p i→g'.loc i=g.loc i)∧VR g' pv e.v∧e.recovered=false∧e.goexit=false∧az x g' (m.aJ upd) w2)):=by
  rintro g2 m2 w2 hle hm2 ⟨val,upd,r1,r2,r3⟩
  obtain ⟨v,v1,v2⟩:=gL (P:=P) hm2 hok r1 fun t ht=>(h1.fr t ht).mono hle
  exact ⟨v,v1,.inl ⟨g2,v,val,upd,rfl,r2,hm2.le,hm2.locs,v2,hm.leave hneed hpx hm2 r3⟩⟩
 cases ex with
 | normal=>cases en<;>simp only [AX.fits] at h2;exact iD hfit hK _ _ _ g' _ _ (Gh.le_refl _) h1.mr h1.young h1.df h3
 | ret=>cases en<;>simp only [AX.fits] at h2;exact iD hfit hK _ _ _ g' _ _ (Gh.le_refl _) h1.mr h1.young h1.df h3
 | exit i=>exact h3.elim
 | panic pv =>
  have:∃ e:PanicEntry,en = .panic [e]∧VR g' pv e.v∧e.recovered=false∧e.goexit=false:=by
   cases en with
   | panic ch =>
    match ch,h2 with
    | [e],h2=>exact ⟨e,rfl,h2⟩
   | _=>exact h2.elim
  obtain ⟨⟨v,rc,ge⟩,rfl,hv,e1,e2⟩:=this
  simp only at e1 e2;subst e1;subst e2
  exact uK hfit hK (fun m2 w2 hm2 ⟨upd,r2,r3⟩=>.inr ⟨g',_,pv,upd,rfl,r2,hm2.le,hm2.locs,hv,rfl,rfl,hm.leave hneed hpx hm2 r3⟩) hv _ _ _ _ _ h1.mr h1.young h1.df h3
theorem nV {P:Program} [Laid P] {f:FuncId} {fn:Func} {n:Nat} {rs:List ResultVar} {c:Code} {xs:List AV} {p:Oid} {e:Eff} (hf:P.funcs[f]? = some fn) (hn:fn.ntmps=n) (hr:fn.results.toList=rs)
  (hnm:(fn.name != "runtime.NumGoroutine")=true) (hl:(Nat.ble xs.length n)=true) (hok:fF n rs=true) (hb:fn.body=some c)
  (hT:∀ x:Ctx,x.p=p→x.rd=none→Fit P x→T P x n c ⟨cR 0 xs,Mem.of e.need,0,[]⟩ (after P x n (pS P p rs e.need (fun v u=>v=e.val∧u=e.upd) fun _ _=>False) [])):aj P f xs (Oid.under p) e :=
 (lC hf hn hr hnm hl hok hb hT).ok
theorem El {P:Program} [Laid P] {x:Ctx} {n:Nat} {Q:AX→AS→Prop} {id:Nat} {o:Oper} {k:FuncId} {args:Array Operand} {ts:Array TypeId} {fr:List (Nat × AV)} {m:Mem} {c:Nat} {ds:List AD} (hng:Fit P x)
  (hrd:x.rd=none) (ho:o.op = .defer ⟨.value (.func k),args,ts⟩) (hd:o.dst=none) (hgd:o.guard=none) (hok:eR n P.globals.size #[o] o=true)
  (h:Q .normal ⟨fr,m,c+1,.call (.func k) [] (args.toList.map (evA fr))::ds⟩):T P x n (.region id #[o] false) ⟨fr,m,c,ds⟩ Q:=by
 intro g a w hr
 refine wpIn_region ?_
 have hop:=(RR.of hr).operands hng.1 hok (f':=F fr) (fun _ _=>rfl)
 have hargs:VRs g (args.toList.map (evA fr)) (args.map a.eval):=VRs.map fun t ht=>hop t (by
  have:t ∈ args:=by simpa using ht
  simp [Op.operands,Call.operands,ho,this])
 have hrun:(execOp a.eval o).run P w = .ok (.defer ⟨.fn (.func k) #[],args.map a.eval⟩) w:=by
  simp [execOp,ho,resolve,Deferred.ofValue,Act.eval]
 have hw:Region.wanted o (yielded #[o] a.tmps)=true:=by simp [Region.wanted,hgd]
 show wpOpsIn (Fc x.rd) 0 P #[o] _ [0] a w
 simp only [wpOpsIn,List.getElem?_toArray,List.getElem?_cons_zero,hw,if_true]
 refine ⟨fun _ _=>trivial,?_⟩
 have hro:(Fc x.rd).round=none:=hrd
 rw [hro,Oper.semAt_none,hrun,Oper.uponIn_defer,hd]
 exact ⟨g,.normal,⟨fr,m,c+1,.call (.func k) [] (args.toList.map (evA fr))::ds⟩,⟨hr.mr,hr.tm,.cons (.call _ _ _ _ _ ⟨rfl,fun j hj=>absurd hj (Nat.not_lt_zero _)⟩ hargs) hr.df,hr.fr,fun i hi=>hr.young i (hi.mono (Nat.le_succ _))⟩,trivial,h⟩
theorem eM {P:Program} [Laid P] {x:Ctx} {n:Nat} {Q:AX→AS→Prop} {ks:List Pc} {id:Nat} {o:Oper} {k:FuncId} {args:Array Operand} {ts:Array TypeId} {fr:List (Nat × AV)} {m:Mem} {c:Nat} {ds:List AD} (hng:Fit P x)
  (hrd:x.rd=none) (ho:o.op = .defer ⟨.value (.func k),args,ts⟩) (hd:o.dst=none) (hgd:o.guard=none) (hok:eR n P.globals.size #[o] o=true)
  (h:after P x n Q ks .normal ⟨fr,m,c+1,.call (.func k) [] (args.toList.map (evA fr))::ds⟩):T P x n (.region id #[o] false) ⟨fr,m,c,ds⟩ (after P x n Q ks):=El hng hrd ho hd hgd hok h
theorem s9 {P:Program} {ρ:Operand→Value} {o:Oper} {ts:Array TypeId} (ho:o.op = .call ⟨.builtin .recover,#[],ts⟩) (w:World):(execOp ρ o).run P w = .ok .recover w:=by
 simp [execOp,ho,resolve,invoke,builtin]
def Bq (need:List (Oid × ah)) (u:List (Oid × Option ah)):AX→AS→Prop
 | .normal,s | .ret,s=>s.ds=[]∧∀ i o,((Mem.of need).aJ u) i=some o→s.mem i=some o
 | _,_=>False
theorem Br {P:Program} [Laid P] {f:FuncId} {fn:Func} {n id a b:Nat} {r s:Oper} {ts:Array TypeId} {rest:Code} {xs:List AV} {p:Oid} {need:List (Oid × ah)} {u0:List (Oid × Option ah)} {rec:AV→List (Oid × Option ah)→Prop}
  (hf:P.funcs[f]? = some fn) (hn:fn.ntmps=n) (hr:fn.results.toList=[]) (hnm:(fn.name != "runtime.NumGoroutine")=true) (hl:(Nat.ble xs.length n)=true) (hb:fn.body=some (.seq (.region id #[r,s] false) rest))
  (h1:r.op = .call ⟨.builtin .recover,#[],ts⟩) (h2:r.dst=some a) (h3:r.guard=none) (h4:s.op = .assign (.tmp a)) (h5:s.dst=some b) (h6:s.guard=none) (ha:(Nat.blt a n)=true) (hbn:(Nat.blt b n)=true)
  (hR:∀ x:Ctx,x.p=p→x.rd=none→Fit P x→T P x n rest ⟨(b,.nilIface)::(a,.nilIface)::cR 0 xs,Mem.of need,1,[]⟩ (after P x n (Bq need u0) []))
  (hP:∀ pv u,rec pv u→∀ x:Ctx,x.p=p→x.rd=none→Fit P x→T P x n rest ⟨(b,pv)::(a,pv)::cR 0 xs,Mem.of need,1,[]⟩ (after P x n (Bq need u) [])):Bp P f xs (Oid.under p) need u0 rec:=by
 subst hn
 have hl:=Nat.le_of_ble_eq_true hl
 have ha:a < fn.ntmps:=by simpa using ha
 have hbn:b < fn.ntmps:=by simpa using hbn
 have hbody:fn.body.isSome=true:=by rw [hb];rfl
 have hrel:∀ (x:Ctx) (g:Gh) (args:Array Value) (w:World) (m:Mem) (pv:AV) (v:Value),az x g m w→(∀ q,q ∈ need→m q.1=some q.2)→VRs g xs args→(∀ i,Oid.under p i→g.loc i=none∧Oid.under x.p i)→VR g pv v →
   Rel (x.inner g w need p) fn.ntmps g ⟨(b,pv)::(a,pv)::cR 0 xs,Mem.of need,1,[]⟩ ((Act.put { tmps:=args++Array.replicate (fn.ntmps - args.size) undef,defers:=[] } (some a) v).put (some b) v) w:=by
  intro x g args w m pv v hm hneed hargs hsp hv
  have hin:=hm.enter (p:=p) hneed
  have hsz:(args++Array.replicate (fn.ntmps - args.size) undef).size=fn.ntmps:=by simp [hargs.1];omega
  have h0:RR (x.inner g w need p) fn.ntmps [] g (F (cR 0 xs)) (Mem.of need) { tmps:=args++Array.replicate (fn.ntmps - args.size) undef,defers:=[] } w:=by
   refine ⟨hin,hsz,.nil,fun t ht=>?_⟩
   rw [mv]
   split
   ·rename_i h
    rw [Nat.sub_zero,bs (by rw [hargs.1];omega)]
    exact hargs.2 t (by omega)
   ·exact .unk _
  have h2:=(h0.put (Gh.le_refl g) hin (some a) hv).put (Gh.le_refl g) hin (some b) hv
  rw [← mE,← mE] at h2
  exact h2.rel fun i hi=>(hsp i hi.under).1
 have key:∀ (u u':FrameMode) (pv:AV) (v:Value) (upd:List (Oid × Option ah)) (x:Ctx) (g:Gh) (args:Array Value) (w:World) (m:Mem),az x g m w→(∀ q,q ∈ need→m q.1=some q.2)→VRs g xs args→(∀ i,Oid.under p i→g.loc i=none∧Oid.under x.p i)→Fit P x→VR g pv v →
   (∀ (c₀:Frame) (cs:List Frame),c₀.mode=u→(recoverD (c₀::cs)=none∧u' = u∧v = .nilIface)∨recoverD (c₀::cs)=some (v,{ c₀ with mode:=u' }::cs)) →
   (∀ x:Ctx,x.p=p→x.rd=none→Fit P x→T P x fn.ntmps rest ⟨(b,pv)::(a,pv)::cR 0 xs,Mem.of need,1,[]⟩ (after P x fn.ntmps (Bq need upd) [])) →
   CallsD P f args u w fun en u2 w'=>∃ g' v',en = .returned v'∧u2=u'∧g.le g'∧(∀ i,¬ Oid.under p i→g'.loc i=g.loc i)∧az x g' (m.aJ upd) w':=by
  intro u u' pv v upd x g args w m hm hneed hargs hsp hx hv hrec hT
  refine callsD_of_wpS hf hb fun c₀ cs hc=>?_
  refine wpS_seq (wpS_region ?_)
  have hw1:∀ y,Region.wanted r y=true:=fun y=>by simp [Region.wanted,h3]
  have hw2:∀ y,Region.wanted s y=true:=fun y=>by simp [Region.wanted,h6]
  show wpOpsS P #[r,s] _ [0,1] _ _ _
  have hpx:Oid.under x.p p:=(hsp p (Oid.ay p)).2
  have hsz:(args++Array.replicate (fn.ntmps - args.size) undef).size=fn.ntmps:=by simp [hargs.1];omega
  have fin:rest.wpS P (bodyPostS P fn c₀ cs fun en u2 w'=>∃ g' v',en = .returned v'∧u2=u'∧g.le g'∧(∀ i,¬ Oid.under p i→g'.loc i=g.loc i)∧az x g' (m.aJ upd) w') ((Act.put { tmps:=args++Array.replicate (fn.ntmps - args.size) undef,defers:=[] } (some a) v).put (some b) v) ({ c₀ with mode:=u' }::cs) w:=by
   refine wpS_of_wp ((wpIn_wide (n:=0)).1 (wpIn_mono (hT (x.inner g w need p) rfl rfl (hx.inner rfl hm.le) g _ w (hrel x g args w m pv v hm hneed hargs hsp hv)) fun en a' w' ⟨g',ex,s',k1,k2,k3⟩=>?_))
   have done:s'.ds=[]∧(∀ i o,((Mem.of need).aJ upd) i=some o→s'.mem i=some o)→a'.defers=[]∧∃ u2,({ c₀ with mode:=u' }::cs:List Frame)={ c₀ with mode:=u2 }::cs∧∃ v2,(results fn a'.tmps).run P w' = .ok v2 w' ∧
     ∃ g' v',Ending.returned v2 = .returned v'∧u2=u'∧g.le g'∧(∀ i,¬ Oid.under p i→g'.loc i=g.loc i)∧az x g' (m.aJ upd) w':=by
    rintro ⟨q1,q2⟩
    have hdf:=k1.df
    rw [q1] at hdf
    obtain ⟨v2,r1,_⟩:=gL (P:=P) (fn:=fn) (n:=fn.ntmps) (fr:=s'.fr) (y:=.tuple []) k1.mr (by rw [hr];rfl) (by rw [hr];rfl) k1.fr
    exact ⟨hdf.B8,u',rfl,v2,r1,g',v2,rfl,rfl,k1.mr.le,k1.mr.locs,hm.leave hneed hpx k1.mr q2⟩
   cases ex with
   | normal=>cases en<;>simp only [AX.fits] at k2;exact done k3
   | ret=>cases en<;>simp only [AX.fits] at k2;exact done k3
   | exit i=>exact k3.elim
   | panic pv=>exact k3.elim
  have step2:wpOpsS P #[r,s] (Exit.thenS (rest.wpS P (bodyPostS P fn c₀ cs fun en u2 w'=>∃ g' v',en = .returned v'∧u2=u'∧g.le g'∧(∀ i,¬ Oid.under p i→g'.loc i=g.loc i)∧az x g' (m.aJ upd) w')) (bodyPostS P fn c₀ cs fun en u2 w'=>∃ g' v',en = .returned v'∧u2=u'∧g.le g'∧(∀ i,¬ Oid.under p i→g'.loc i=g.loc i)∧az x g' (m.aJ upd) w'))
    [1] (Act.put { tmps:=args++Array.replicate (fn.ntmps - args.size) undef,defers:=[] } (some a) v) ({ c₀ with mode:=u' }::cs) w:=by
   have hr2:(execOp (Act.put { tmps:=args++Array.replicate (fn.ntmps - args.size) undef,defers:=[] } (some a) v).eval s).run P w = .ok (.value v) w:=by
    simp only [execOp,h4,Sem.run_pure,Act.eval]
    rw [rH (by rw [hsz];exact ha),if_pos rfl]
   have hs1:(#[r,s]:Array Oper)[1]? = some s:=rfl
   simp only [wpOpsS,hs1,hw2,if_true,hr2]
   simp only [Oper.upon,h5]
   exact fin
  have hs0:(#[r,s]:Array Oper)[0]? = some r:=rfl
  rw [wpOpsS]
  simp only [hs0,hw1,if_true,s9 h1,h2]
  rcases hrec c₀ cs hc with ⟨q1,q2,q3⟩|q1
  ·rw [q1]
   subst q2;subst q3
   have:({ c₀ with mode:=u' }:Frame)=c₀:=by rw [← hc]
   rw [this] at step2
   exact step2
  ·rw [q1]
   exact step2
 refine ⟨by simp only [cQ,hf,hbody,Bool.true_and];exact hnm,fun x g args w m hm hneed hargs hsp hx=>?_,fun pv u hu x g args w m v hm hneed hargs hsp hx hv=>?_⟩
 ·exact key .returning .returning .nilIface .nilIface u0 x g args w m hm hneed hargs hsp hx .nilIface (fun c₀ cs hc=>.inl ⟨by simp [recoverD,hc],rfl,rfl⟩) hR
 ·exact key _ _ pv v u x g args w m hm hneed hargs hsp hx hv (fun c₀ cs hc=>.inr (by simp [recoverD,hc])) (hP pv u hu)
end Go.Ab
namespace Go.Ab
theorem ya {P:Program} [Laid P] {o:Oper} {ρ:Operand→AV} {sp:Oid→Prop} {y:Operand} {t:TypeId} {v:AV} (ho:o.op = .panic y) (hy:ρ y = .iface t v) :
  kH P o ρ sp [] (fun _ _=>False) (fun pv u=>pv = .iface t v∧u=[]):=by
 intro x g a w m hm _ hop hsp hng next Q _ Kp
 have vy:=hop y (by simp [Op.operands,ho])
 rw [hy] at vy
 obtain ⟨u,hu,hv⟩:=vy.la
 have hex:(execOp a.eval o).run P w = .halt (.panic (.iface t u)) w:=by
  simp only [execOp,ho,hu]
  rfl
 refine ⟨fun _ _=>trivial,?_⟩
 rw [Oper.semAt_eq _ _ _ (fun c hc=>by rw [ho] at hc;cases hc),hex,Oper.uponIn_panic]
 exact Kp _ [] ⟨rfl,rfl⟩ g _ w (Gh.le_refl g) (fun _ _=>rfl) (by rw [← hu];exact hy ▸ hop y (by simp [Op.operands,ho])) rfl rfl hm
theorem nW {P:Program} [Laid P] {o:Oper} {ρ:Operand→AV} {sp:Oid→Prop} {y:Operand} {xT t:TypeId} {v:AV} (ho:o.op = .typeAssert y xT t false) (hy:ρ y = .iface t v)
  (hrun:∀ u w,(Instr.typeAssert (.iface t u) xT t false).run P w = .ok u w):aE P o ρ sp ⟨[],v,[]⟩ :=
 aE.plain fun g a w hop=>by
  have vy:=hop y (by simp [Op.operands,ho])
  rw [hy] at vy
  obtain ⟨u,hu,hv⟩:=vy.la
  exact ⟨u,by simp only [execOp,ho,hu,Sem.run_bind,hrun,Result.andThen_ok,Sem.run_pure],hv⟩
theorem Em (N:List Oid) (F:Oid→ah):j5 (sb N F)=N:=by
 induction N with
 | nil=>rfl
 | cons i N ih=>show i::j5 (sb N F)=_;rw [ih]
theorem En (N:List Oid) (F:Oid→ah):j5 (bk (N,F))=N:=by
 induction N with
 | nil=>rfl
 | cons i N ih=>show i::j5 (bk (N,F))=_;rw [ih]
theorem Bt {α β:Type} (a b:List (α × β)):j5 (a++b)=j5 a++j5 b:=by
 induction a with
 | nil=>rfl
 | cons q a ih=>show q.1::j5 (a++b)=_;rw [ih];rfl
def gone (N:List Oid):List (Oid × Option ah):=N.map fun i=>(i,none)
theorem yb (N:List Oid):j5 (gone N)=N:=by
 induction N with
 | nil=>rfl
 | cons i N ih=>show i::j5 (gone N)=_;rw [ih]
theorem Eo (K:List Oid) (i:Oid):∀ m:Mem,(m.aJ (gone K)) i=if i ∈ K then none else m i:=by
 induction K with
 | nil=>intro m;simp [gone,Mem.aJ]
 | cons j K ih =>
  intro m
  show ((m.set j none).aJ (gone K)) i=_
  rw [ih]
  by_cases h1:i ∈ K
  ·rw [if_pos h1,if_pos (List.mem_cons_of_mem _ h1)]
  ·rw [if_neg h1]
   by_cases h2:i=j
   ·subst h2;rw [if_pos List.mem_cons_self];simp [Mem.set]
   ·rw [if_neg (fun h=>(List.mem_cons.1 h).elim h2 h1)];simp [Mem.set,h2]
theorem yc {P:Program} {rs:List ResultVar} {fr:List (Nat × AV)} {m:Mem} {c:Nat} {val:AV} {N M:List Oid} {F G:Oid→ah} {Rp:AV→List (Oid × Option ah)→Prop} (h1:eV P m fr rs=some val) :
  dJ P rs (bk (N,F)++bk (M,G)) (fun v u=>v=val∧u=gone (N++M)) Rp .ret ⟨fr,m,c,[]⟩ :=
 bh val _ h1 ⟨rfl,rfl⟩ fun i o h=>by
  rw [Eo] at h
  split at h
  ·cases h
  ·rename_i h2
   obtain ⟨q,k1,rfl,rfl⟩:=Mem.dX h
   rcases List.mem_append.1 k1 with k1|k1
   ·exact absurd (List.mem_append_left _ (bR.1 k1).1) h2
   ·exact absurd (List.mem_append_right _ (bR.1 k1).1) h2
theorem yd {p:Oid} {N:List Oid} {c k:Nat} (h:aW p N):(∀ i,i ∈ N→¬ i=Oid.sub c k p)=True:=eq_true fun i hi e=>h.mem (e ▸ hi)
theorem Bu {a:Oid} {N:List Oid} (h:a ∉ N):(∀ i,i ∈ N→¬ i=a)=True:=eq_true fun i hi e=>h (e ▸ hi)
attribute [go_sem] Bt yb Em En yd Bu
end Go.Ab
namespace Go.Ab
theorem aE.nd {P:Program} [Laid P] {o:Oper} {ρ:Operand→AV} {sp:Oid→Prop} {e:Eff} (h:aE P o ρ sp e):kH P o ρ sp e.need (fun v u=>v=e.val∧u=e.upd) (fun _ _=>False) :=
 fun x g a w m hm hn hop hs hng next Q K _=>h x g a w m hm hn hop hs hng next Q fun g' v w' h1 h2 h3 h4=>K _ _ ⟨rfl,rfl⟩ g' v w' h1 h2 h3 h4
end Go.Ab
namespace Go.Proofs.YtfbnaalhioogoaaGreatDoor
open Go Go.Ab
set_option maxRecDepth 20000
set_option maxHeartbeats 4000000
section
variable {rs:List ResultVar} {need:List (Oid × ah)} {fr:List (Nat × AV)} {m:Mem} {c:Nat} {r:Rs AV} {v:AV} {u0:List (Oid × Option ah)} {R Rp:AV→List (Oid × Option ah)→Prop}
theorem rb (h1:eV Tryz.prog m fr rs=some v) (hr:r = .go v) (h3:∀ i o,((Mem.of need).aJ u0) i=some o→m i=some o):dJ Tryz.prog rs need (fun w u=>r = .go w∧u=u0) Rp .ret ⟨fr,m,c,[]⟩:=bh v u0 h1 ⟨hr,rfl⟩ h3
theorem kV (h1:eV Tryz.prog m fr rs=some v) (hr:r = .go v) (h3:∀ i o,((Mem.of need).aJ u0) i=some o→m i=some o):dJ Tryz.prog rs need (fun w u=>r = .go w∧u=u0) Rp .normal ⟨fr,m,c,[]⟩:=bB v u0 h1 ⟨hr,rfl⟩ h3
theorem cC {e:Int} (hr:r = .err e) (h3:∀ i o,((Mem.of need).aJ u0) i=some o→m i=some o):dJ Tryz.prog rs need R (fun pv u=>∃ e,r = .err e∧pv=oP e∧u=u0) (.panic (oP e)) ⟨fr,m,c,[]⟩:=⟨u0,⟨e,hr,rfl,rfl⟩,h3⟩
end
theorem bd (e:Int) (p:Oid):aj Tryz.prog 41 [.bool true,.int .i64 e] (Oid.under p) ⟨[],.tuple [],[]⟩:=by
 refine aC (n:=8) (rs:=[]) Tryz.func41 rfl rfl (by decide) rfl rfl rfl ?_;rintro x rfl hrd hng
 refine qw0 ?_
 exact bV (bB _ _ rfl ⟨rfl,rfl⟩ fun _ _ h=>h)
theorem bl (e:Int) (p:Oid):A6 Tryz.prog 41 [.bool false,.int .i64 e] (Oid.under p) [] (oP e) []:=by
 refine gB (n:=8) (rs:=[]) Tryz.func41 rfl rfl (by decide) rfl rfl rfl ?_;rintro x rfl hrd hng
 refine qr0 ?_
 refine ax rfl rfl ?_
 (try ((first|refine zn ?_|refine ze ?_|refine zk ?_);with_reducible (constructor;repeat constructor));try refine zl ?_)
 refine ao nmd [] hng (by kernel_rfl) fun hf C S K hC1 hC hS hK=>?_;simp (disch:=first|omega|assumption) only [go_sem]
 refine hS _ _ _ (fun o' hd ho'=>ya ho' rfl) (fun _ h=>by cases h) (fun _ _ h=>h.elim) ?_
 rintro _ _ ⟨rfl,rfl⟩
 exact ⟨[],⟨rfl,rfl⟩,fun _ _ h=>h⟩
theorem kW (q:Oid) (z:Int) (p:Oid) (hq:¬ Oid.under p q):Bp Tryz.prog 39 [.ptr q 0] (Oid.under p) [(q,.cells [.int .i64 z])] [] (fun pv u=>∃ e,pv=oP e∧u=[(q,some (.cells [.int .i64 e]))]):=by
 refine Br (n:=10) (id:=0) (a:=3) (b:=2) Tryz.func39 rfl rfl (by decide) rfl rfl rfl rfl rfl rfl rfl rfl rfl rfl (fun x hp hrd hng=>?_) (fun pv u ⟨e,hpv,hu⟩ x hp hrd hng=>?_)
 ·subst hp
  (try ((first|refine zn ?_|refine ze ?_|refine zk ?_);with_reducible (constructor;repeat constructor));try refine zl ?_)
  refine ao nmd [] hng (by kernel_rfl) fun hf C S K hC1 hC hS hK=>?_;simp (disch:=first|omega|assumption) only [go_sem]
  refine hK ?_;clear hK hS hC hC1 K S C hf
  (try ((first|refine zn ?_|refine ze ?_|refine zk ?_);with_reducible (constructor;repeat constructor));try refine zl ?_)
  refine aw rfl rfl ?_
  (try ((first|refine zn ?_|refine ze ?_|refine zk ?_);with_reducible (constructor;repeat constructor));try refine zl ?_)
  exact bV ⟨rfl,fun i o h=>h⟩
 ·subst hp;subst hpv;subst hu
  (try ((first|refine zn ?_|refine ze ?_|refine zk ?_);with_reducible (constructor;repeat constructor));try refine zl ?_)
  refine ao nmd [] hng (by kernel_rfl) fun hf C S K hC1 hC hS hK=>?_;simp (disch:=first|omega|assumption) only [go_sem,oP]
  refine hK ?_;clear hK hS hC hC1 K S C hf
  (try ((first|refine zn ?_|refine ze ?_|refine zk ?_);with_reducible (constructor;repeat constructor));try refine zl ?_)
  refine ax rfl rfl ?_
  (try ((first|refine zn ?_|refine ze ?_|refine zk ?_);with_reducible (constructor;repeat constructor));try refine zl ?_)
  refine ao nmd [] hng (by kernel_rfl) fun hf C S K hC1 hC hS hK=>?_;simp (disch:=first|omega|assumption) only [go_sem,oP]
  refine hS _ _ _ (fun o' hd ho'=>(nW ho' rfl (fun u w=>by kernel_rfl)).nd) (fun _ h=>by cases h) ?_ (fun _ _ h=>h.elim)
  rintro _ _ ⟨rfl,rfl⟩
  simp (disch:=first|omega|assumption) only [go_sem,Oid.ab hq,Oid.aa hq]
  refine hK ?_;clear hK hS hC hC1 K S C hf
  refine bV ⟨rfl,fun i o h=>?_⟩
  simp only [Mem.of,Mem.aJ,Mem.set,Mem.emp] at h ⊢
  split at h<;>simp_all
section
variable {p pp q:Oid} {o o':ah} {N:List Oid} {F G:Oid→ah} {fr:List (Nat × AV)} {m:Mem} {c:Nat} {z e:Int} {val:AV} {rs:List ResultVar}
theorem cM {i c:Nat} (h:i < c):¬ Oid.under (.sub c 0 p) (.sub i 1 p)∧¬ Oid.under (.sub c 0 p) (.sub i 0 p)∧¬ Oid.under (.sub c 0 p) (.sub i 2 p):=by
 refine ⟨fun hu=>?_,fun hu=>?_,fun hu=>?_⟩ <;>
 ·have:=(Oid.apart hu (Oid.ay _)).1
  omega
theorem lD (hu:¬ Oid.under (.sub c 0 p) q) (hq:m q=some (.cells [.int .i64 z])) (h1:eV Tryz.prog (m.set q (some (.cells [.int .i64 e]))) fr rs=some val)
  (h3:m pp=some o) (h4:∀ x,x ∈ bk (N,G)→m x.1=some x.2) (hqp:¬ pp=q) (hqN:q ∉ N) :
  pS Tryz.prog p rs ((pp,o)::bk (N,F)) (fun v u=>v=val∧u=sb N G) (fun _ _=>False) (.panic (oP e)) ⟨fr,m,c,[.call (.func 39) [] [.ptr q 0]]⟩ :=
 ⟨_,_,_,_,rfl,kW q z _ hu,fun x hx=>by rw [List.mem_singleton.1 hx];exact hq,_,⟨e,rfl,rfl⟩,val,_,h1,⟨rfl,rfl⟩,dF (A0:=[(pp,o)]) (U:=[]) (fun _ h=>by cases h) (fun x hx _=>by
  rw [List.mem_singleton.1 hx]
  show (m.set q _) pp=_
  simp only [Mem.set,if_neg hqp];exact h3) fun x hx=>by
  show (m.set q _) x.1=_
  simp only [Mem.set]
  rw [if_neg fun e:x.1=q=>hqN (e ▸ (bR.1 hx).1)];exact h4 x hx⟩
theorem nX {Rp:AV→List (Oid × Option ah)→Prop} (hu:¬ Oid.under (.sub c 0 p) q) (hq:m q=some (.cells [.int .i64 z])) (h1:eV Tryz.prog m fr rs=some val) (h3:m pp=some o) (h4:∀ x,x ∈ bk (N,G)→m x.1=some x.2) :
  pS Tryz.prog p rs ((pp,o)::bk (N,F)) (fun v u=>v=val∧u=sb N G) Rp .ret ⟨fr,m,c,[.call (.func 39) [] [.ptr q 0]]⟩ :=
 ⟨_,_,_,_,rfl,kW q z _ hu,fun x hx=>by rw [List.mem_singleton.1 hx];exact hq,val,_,h1,⟨rfl,rfl⟩,dF (A0:=[(pp,o)]) (U:=[]) (fun _ h=>by cases h) (fun x hx _=>by rw [List.mem_singleton.1 hx];exact h3) h4⟩
theorem ye {Rp:AV→List (Oid × Option ah)→Prop} (hu:¬ Oid.under (.sub c 0 p) q) (hq:m q=some (.cells [.int .i64 z])) (h1:eV Tryz.prog m fr rs=some val) (h3:m pp=some o') (h4:∀ x,x ∈ bk (N,G)→m x.1=some x.2) :
  pS Tryz.prog p rs ((pp,o)::bk (N,F)) (fun v u=>v=val∧u=(pp,some o')::sb N G) Rp .ret ⟨fr,m,c,[.call (.func 39) [] [.ptr q 0]]⟩ :=
 ⟨_,_,_,_,rfl,kW q z _ hu,fun x hx=>by rw [List.mem_singleton.1 hx];exact hq,val,_,h1,⟨rfl,rfl⟩,dF (A0:=[(pp,o)]) (U:=[(pp,some o')]) (fun x hx w h=>by
  rw [List.mem_singleton.1 hx] at h ⊢
  rw [← h];exact h3) (fun x hx h=>by
  rw [List.mem_singleton.1 hx] at h
  exact absurd rfl (h _ (List.mem_singleton.2 rfl))) h4⟩
end
theorem tc (s:Str) (hs:s.length≤140737488355328) (p:Oid):aj Tryz.prog 111 [.str s] (Oid.under p) ⟨[],.str (aN s),[]⟩:=by
 have hk:=nC s 47 s.length
 refine aC (n:=8) (rs:=[.tmp 2]) Tryz.func111 rfl rfl (by decide) rfl rfl rfl ?_;rintro x rfl hrd hng
 refine qr0 ?_
 refine ao nmd [] hng (by kernel_rfl) fun hf C S K hC1 hC hS hK=>?_;simp (disch:=first|omega|assumption) only [go_sem]
 refine hC1 _ (nD s 47 hs _) qs0 ?_
 simp (disch:=first|omega|assumption) only [go_sem]
 have hm:(if 0 < dK s 47 s.length then dK s 47 s.length else 0)=((dK s 47 s.length).toNat:Int):=by split<;>omega
 simp (disch:=first|omega|assumption) only [go_sem,hm]
 refine hK ?_;clear hK hS hC hC1 K S C hf
 refine qw0 ?_
 exact aA (bp (congrArg AV.str (by unfold aN;simp)))
end Go.Proofs.YtfbnaalhioogoaaGreatDoor
namespace Go.Proofs.YtfbnaalhioogoaaGreatDoor
open Go Go.Ab
set_option maxRecDepth 20000
set_option maxHeartbeats 4000000
theorem nbu {N:List Oid} {G:Oid→ah} (m:Mem):∀ x,x ∈ bk (N,G)→(m.aJ (sb N G)) x.1=some x.2:=fun x hx=>by
 obtain ⟨h1,h2⟩:=bR.1 hx
 rw [eI,if_pos h1,h2]
theorem nbA {A:List (Oid × ah)} {N:List Oid} {F:Oid→ah} (hA:∀ e ∈ A,e.1 ∉ N) (Bs:List Bk):∀ x,x ∈ bk (N,F)→Mem.blk A ((N,F)::Bs) x.1=some x.2:=by
 induction A with
 | nil=>intro x hx;obtain ⟨h1,h2⟩:=bR.1 hx;rw [bu,if_pos h1,h2]
 | cons a A ih =>
  intro x hx
  rw [Mem.gy,if_neg fun e:x.1=a.1=>hA a List.mem_cons_self (e ▸ (bR.1 hx).1)]
  exact ih (fun e he=>hA e (List.mem_cons_of_mem _ he)) x hx
def wkC (pp:Oid) (fol:Bool) (w:Wk):ah:=.cells [.ptr pp 0,.str w.pl,.list 1 (w.todo.map AV.str),.int .i64 w.links,.bool fol,.bool w.dir]
def prC (st:Oid) (cwd:Str) (um:Int):ah:=.cells [.ptr st 0,.str cwd,.int .i64 um]
def inR (b:Bits):Rs AV:=if inE b=0 then .go (.tuple []) else .err (inE b)
theorem yf {wk pp st:Oid} {N:List Oid} {F F1:Oid→ah} {L:PL} (fol:Bool) (w:Wk) (cwd:Str) (um:Int) (h1:¬ wk=pp) (hwN:wk ∉ N) (hpN:pp ∉ N)
  (hA:RP st N L [(w.pl,false)] F F1) (p:Oid) (hp:p.mono=false) (hw:¬ Oid.under p wk) (hpp:¬ Oid.under p pp) (hO:aW p N) :
  dy 189 [.ptr wk 0] (Oid.under p) ((wk,wkC pp fol w)::(pp,prC st cwd um)::bk (N,F)) (inR (aF L w.pl)) (sb N F1):=by
 obtain ⟨_,hA,rfl⟩:=hA
 rename_i F1
 have hA':∀ p,p.mono=false→aW p N→aj Tryz.prog 37 [.ptr st 0,.str w.pl] (Oid.under p) ⟨bk (N,F),(aF L w.pl).av,sb N F1⟩:=hA
 clear hA
 generalize aF L w.pl=B at hA' ⊢
 obtain ⟨ek,em,el⟩:=B
 simp only [Bits.av] at hA'
 have h2:¬ pp=wk:=fun e=>h1 e.symm
 have hmem:∀ (o:ah) (i o':_),((Mem.of ((wk,wkC pp fol w)::(pp,prC st cwd um)::bk (N,F))).aJ (sb N F1)) i=some o'→Mem.blk [(wk,wkC pp fol w),(pp,prC st cwd um),(.sub 0 12 p,o)] [(N,F1)] i=some o':=fun o =>
  dF (A0:=[(wk,wkC pp fol w),(pp,prC st cwd um)]) (U:=[]) (fun _ h=>by cases h) (fun q hq _=>by
   simp only [List.mem_cons,List.not_mem_nil,or_false] at hq
   rcases hq with rfl|rfl<;>simp [Mem.gy,Oid.ab hw,Oid.aa hw,Oid.ab hpp,Oid.aa hpp,h2]) (by
   show ∀ q,q ∈ bk _→_
   rw [nI hwN,nI hpN,A4 hO,nH];trivial)
 unfold wkC prC at hmem ⊢
 refine gB (n:=28) (rs:=[]) Tryz.func189 rfl rfl (by decide) rfl rfl rfl ?_;rintro x rfl hrd hng
 rw [dw]
 (try ((first|refine zn ?_|refine ze ?_|refine zk ?_);with_reducible (constructor;repeat constructor));try refine zl ?_)
 refine bY nmd [] [(3,12),(6,12),(10,12),(11,12)] mixed hng (by kernel_rfl) [2] fun hf C S K hC hS hK=>?_;simp (disch:=first|omega|assumption) only [go_sem,Oid.ab hw,Oid.aa hw,Oid.ab hpp,Oid.aa hpp,h1,h2]
 refine hC _ (hA' _ (ar rfl hp) (hO.sub _ _)) (by show ∀ q,q ∈ bk _→_;rw [nI hwN,nI hpN,nH];trivial) ?_
 simp (disch:=first|omega|assumption) only [go_sem,Oid.ab hw,Oid.aa hw,Oid.ab hpp,Oid.aa hpp,h1,h2,hwN,hpN,hO]
 (first|refine hK (aH rfl) ?_|refine hK (by simp (disch:=first|omega|assumption) only [go_sem,List.reverse_cons,List.reverse_nil,ne_eq,not_false_eq_true,implies_true]) ?_);clear hK hS hC K S C hf
 by_cases c1:ek=0
 ·(try ((first|refine zn ?_|refine ze ?_|refine zk ?_);with_reducible (constructor;repeat constructor));try refine zl ?_)
  refine ao nmd [] hng (by kernel_rfl) fun hf C S K hC1 hC hS hK=>?_;simp (disch:=first|omega|assumption) only [go_sem,Oid.ab hw,Oid.aa hw,Oid.ab hpp,Oid.aa hpp,c1,decide_true,decide_false,ne_eq,not_true_eq_false,not_false_eq_true]
  refine hC _ _ _ (bl 10 _) (fun _ h=>by cases h) (fun _ _ h=>h.elim) ?_
  rintro _ _ ⟨rfl,rfl⟩
  exact cC (by simp [inR,inE,c1]) (hmem _)
 refine qr .o (ai (uu hw) (ai (uu hpp) c1)) (cq (bd 10 _) trivial) ?_
 by_cases c2:ek=2
 case neg =>
  (try ((first|refine zn ?_|refine ze ?_|refine zk ?_);with_reducible (constructor;repeat constructor));try refine zl ?_)
  refine ao nmd [] hng (by kernel_rfl) fun hf C S K hC1 hC hS hK=>?_;simp (disch:=first|omega|assumption) only [go_sem,Oid.ab hw,Oid.aa hw,Oid.ab hpp,Oid.aa hpp,c2,decide_true,decide_false,ne_eq,not_true_eq_false,not_false_eq_true]
  refine hC _ _ _ (bl 15 _) (fun _ h=>by cases h) (fun _ _ h=>h.elim) ?_
  rintro _ _ ⟨rfl,rfl⟩
  exact cC (by simp [inR,inE,c1,c2]) (hmem _)
 refine qr .o (ai (uu hw) (ai (uu hpp) c2)) (cq (bd 15 _) trivial) ?_
 by_cases c3:dG em 1=0
 ·(try ((first|refine zn ?_|refine ze ?_|refine zk ?_);with_reducible (constructor;repeat constructor));try refine zl ?_)
  refine ao nmd [] hng (by kernel_rfl) fun hf C S K hC1 hC hS hK=>?_;simp (disch:=first|omega|assumption) only [go_sem,Oid.ab hw,Oid.aa hw,Oid.ab hpp,Oid.aa hpp,c3,decide_true,decide_false,ne_eq,not_true_eq_false,not_false_eq_true]
  refine hC _ _ _ (bl 18 _) (fun _ h=>by cases h) (fun _ _ h=>h.elim) ?_
  rintro _ _ ⟨rfl,rfl⟩
  exact cC (by simp [inR,inE,c1,c2,c3]) (hmem _)
 refine qr .o (ai (uu hw) (ai (uu hpp) c3)) (cq (bd 18 _) trivial) ?_
 exact bV (kV (v:=.tuple []) rfl (by simp [inR,inE,c1,c2,c3]) (hmem _))
end Go.Proofs.YtfbnaalhioogoaaGreatDoor
namespace Go.Proofs.YtfbnaalhioogoaaGreatDoor
open Go Go.Ab
set_option maxRecDepth 20000
set_option maxHeartbeats 4000000
def unR {α:Type}:Rs α→Rs AV
 | .err e=>.err e
 | .go _=>.go (.tuple [])
def stU (wk pp:Oid) (fol:Bool):Rs Wk→List (Oid × Option ah)
 | .err _=>[(wk,none)]
 | .go w=>[(wk,some (wkC pp fol w))]
theorem Ep {a:Oid} {o o':ah} {m:Mem} (h:m a=some o'):∀ i q,((Mem.of [(a,o)]).aJ [(a,some o')]) i=some q→m i=some q:=fun i q k=>by
 simp only [Mem.of,Mem.aJ,Mem.set,Mem.emp] at k
 split at k
 ·rename_i e;rw [e,h];exact k
 ·first|cases k|(split at k<;>first|contradiction|cases k)
theorem td {a:Oid} {o:ah} {m:Mem}:∀ i q,((Mem.of [(a,o)]).aJ [(a,none)]) i=some q→m i=some q:=fun i q k=>by
 simp only [Mem.of,Mem.aJ,Mem.set,Mem.emp] at k
 split at k
 ·cases k
 ·first|cases k|(split at k<;>first|contradiction|cases k)
theorem Er {wk pp:Oid} (fol:Bool) (w:Wk) (d:Str) (hl:w.links≤8) (hd:d.length≤4000000) (ht:w.todo.length≤4000000) (p:Oid) (hw:¬ Oid.under p wk) :
  dy 190 [.ptr wk 0,.str d] (Oid.under p) [(wk,wkC pp fol w)] (unR (cX w w.todo d)) (stU wk pp fol (cX w w.todo d)):=by
 obtain ⟨pl,t,l,dir⟩:=w
 simp only at hl ht
 have hpc:=fun p=>pK d (by omega) p
 have hpl:(aQ d).length≤d.length+1:=by
  have h1:=iz 47 d
  have h2:=List.length_filter_le (fun t:Str=>!t.isEmpty) (a8 47 d)
  unfold aQ;omega
 have hsf:=fun p=>eH d (by omega) p
 unfold wkC
 refine gB (n:=52) (rs:=[]) Tryz.func190 rfl rfl (by decide) rfl rfl rfl ?_;rintro x rfl hrd hng
 refine qr .o (uu hw) trivial ?_
 by_cases c1:8 < l+1
 ·have e1:¬ (l:Int)+1≤8:=by omega
  have hL:cX ⟨pl,t,l,dir⟩ t d = .err 17:=by simp only [cX,if_pos c1]
  simp only [hL]
  refine ao nmd [] hng (by kernel_rfl) fun hf C S K hC1 hC hS hK=>?_;simp (disch:=first|omega|assumption) only [go_sem,Oid.ab hw,Oid.aa hw,e1,decide_false]
  refine hC _ _ _ (bl 17 _) (fun _ h=>by cases h) (fun _ _ h=>h.elim) ?_
  rintro _ _ ⟨rfl,rfl⟩
  exact cC rfl td
 have e1:(l:Int)+1≤8:=by omega
 refine qr .o (ai (uu hw) e1) (cq (bd 17 _) trivial) ?_
 by_cases c2:d=[]
 ·have hL:cX ⟨pl,t,l,dir⟩ t d = .err 10:=by simp only [cX,if_neg c1,if_pos c2]
  simp only [hL]
  refine ao nmd [] hng (by kernel_rfl) fun hf C S K hC1 hC hS hK=>?_;simp (disch:=first|omega|assumption) only [go_sem,Oid.ab hw,Oid.aa hw,c2,decide_true,decide_false,ne_eq,not_true_eq_false,not_false_eq_true]
  refine hC _ _ _ (bl 10 _) (fun _ h=>by cases h) (fun _ _ h=>h.elim) ?_
  rintro _ _ ⟨rfl,rfl⟩
  exact cC rfl td
 have hL:cX ⟨pl,t,l,dir⟩ t d = .go ⟨if d.getD 0 0=47 then [] else pl,aQ d++t,l+1,dir || (decide (t=[]) && cK d)⟩:=by simp only [cX,if_neg c1,if_neg c2]
 simp only [hL]
 have hpx:=fun p=>oN d c2 (by omega) p
 generalize cK d=ed at hsf hL
 refine qr .o (ai (uu hw) c2) (cq (bd 10 _) trivial) ?_
 (repeat (first|(refine ax rfl rfl ?_)|(refine aw rfl rfl ?_)|(refine ao nmd [] hng (by kernel_rfl) fun hf C S K hC1 hC hS hK=>?_;simp (disch:=first|omega|assumption) only [go_sem,List.length_map];refine hK ?_;clear hK hS hC hC1 K S C hf)|((first|refine zn ?_|refine ze ?_|refine zk ?_);with_reducible (constructor;repeat constructor);try refine zl ?_)))
 refine cz [0,1] (fun s'=>∃ c':Nat,s' = ⟨[(0,.ptr wk 0),(1,.str d)],Mem.of [(wk,.cells [.ptr pp 0,.str pl,.list 1 (t.map AV.str),.int .i64 ((l:Int)+1),.bool fol,.bool (dir || (decide (t=[]) && ed))])],c',[]⟩) ?_ ?_
 ·refine aO rfl rfl (fun hb=>?_) (fun hb=>?_)
  ·obtain rfl:t=[]:=List.eq_nil_of_length_eq_zero (by omega)
   cases dir with
   | true =>
    refine qr (.d [] [(5,31)] []) (uu hw) trivial ?_
    exact aL ⟨_,rfl⟩
   | false =>
    refine qr (.d [] [(5,31)] []) (uu hw) (cq (hsf _) trivial) ?_
    exact aL ⟨_,rfl⟩
  ·have ht0:¬ t=[]:=fun e=>hb (by rw [e];rfl)
   refine qw0 ?_
   rw [decide_eq_false ht0,Bool.false_and,Bool.or_false]
   exact aL ⟨_,rfl⟩
 rintro s' ⟨c,rfl⟩
 (repeat (first|(refine ax rfl rfl ?_)|(refine aw rfl rfl ?_)|(refine ao nmd [] hng (by kernel_rfl) fun hf C S K hC1 hC hS hK=>?_;simp (disch:=first|omega|assumption) only [go_sem];(repeat ((first|refine hC1 _ (hpx _) (by simp (disch:=first|omega|assumption) only [go_sem]) ?_);simp (disch:=first|omega|assumption) only [go_sem]));refine hK ?_;clear hK hS hC hC1 K S C hf)|((first|refine zn ?_|refine ze ?_|refine zk ?_);with_reducible (constructor;repeat constructor);try refine zl ?_)))
 refine cz [0,1] (fun s'=>∃ c':Nat,s' = ⟨[(0,.ptr wk 0),(1,.str d)],Mem.of [(wk,.cells [.ptr pp 0,.str (if d.getD 0 0=47 then [] else pl),.list 1 (t.map AV.str),.int .i64 ((l:Int)+1),.bool fol,.bool (dir || (decide (t=[]) && ed))])],c',[]⟩) ?_ ?_
 ·refine aO rfl rfl (fun hb=>?_) (fun hb=>?_)
  ·refine qw (uu hw) ?_
   rw [if_pos hb]
   exact aL ⟨_,rfl⟩
  ·refine qw0 ?_
   rw [if_neg hb]
   exact aL ⟨_,rfl⟩
 clear c
 rintro s' ⟨c,rfl⟩
 have hw2:¬ Oid.under (.sub 1 1 (.sub c 2 x.p)) wk:=fun h=>hw (Oid.ae (Oid.ae h))
 refine nL ?_
 (try ((first|refine zn ?_|refine ze ?_|refine zk ?_);with_reducible (constructor;repeat constructor));try refine zl ?_)
 refine bY nmd [] [(2,6)] mixed hng (by kernel_rfl) [] fun hf C S K hC hS hK=>?_;simp (disch:=first|omega|assumption) only [go_sem,Oid.ab hw,Oid.aa hw,List.length_map]
 refine hC _ (hpc _) qs0 ?_
 simp (disch:=first|omega|assumption) only [go_sem,Oid.ab hw,Oid.aa hw,List.length_map,Oid.ab hw2,Oid.aa hw2]
 (first|refine hK (aH rfl) ?_|refine hK (by simp (disch:=first|omega|assumption) only [go_sem,List.reverse_cons,List.reverse_nil,ne_eq,not_false_eq_true,implies_true]) ?_);clear hK hS hC K S C hf
 refine bV (ic (.sub c 7 x.p) wk 1 (List.map AV.str (aQ d)++List.map AV.str t) _ [.ptr pp 0,.str (if d.getD 0 0=47 then [] else pl),.list 1 (List.map AV.str (aQ d)++List.map AV.str t),.int .i64 ((l:Int)+1),.bool fol,.bool (dir || (decide (t=[]) && ed))]
  (by simp [Mem.aq,Oid.ab hw,Oid.aa hw]) (by simp [Mem.aq];rfl) (by simp [Oid.ab hw,Oid.aa hw]) (.keep (.keep (.gS (by simp) (.keep (.keep (.keep .nil)))))) (.now (kV (v:=.tuple []) rfl rfl (Ep ?_))))
 simp only [Mem.set,if_true,wkC,List.map_append]
 rfl
end Go.Proofs.YtfbnaalhioogoaaGreatDoor
namespace Go.Proofs.YtfbnaalhioogoaaGreatDoor
open Go Go.Ab
set_option maxRecDepth 20000
set_option maxHeartbeats 4000000
def stR (x:Rds × Rs Wk):Rs AV:=unR x.2
def stM (wk pp:Oid) (fol:Bool) (N:List Oid) (F:Oid→ah) (r:Rs Wk):List (Oid × Option ah):=stU wk pp fol r++sb N F
section
variable {wk pp:Oid} {o o' q:ah} {N:List Oid} {F G:Oid→ah} {m:Mem}
theorem rf (fol:Bool) (w:Wk) (h1:m wk=some (wkC pp fol w)) (h2:m pp=some q) (h3:∀ x,x ∈ bk (N,G)→m x.1=some x.2) :
  ∀ i v,((Mem.of ((wk,o)::(pp,q)::bk (N,F))).aJ (stM wk pp fol N G (.go w))) i=some v→m i=some v :=
 dF (A0:=[(wk,o),(pp,q)]) (U:=[(wk,some (wkC pp fol w))]) (fun x hx v h=>by
  rw [List.mem_singleton.1 hx] at h ⊢
  rw [← h];exact h1) (fun x hx h=>by
  simp only [List.mem_cons,List.not_mem_nil,or_false] at hx
  rcases hx with rfl|rfl
  ·exact absurd rfl (h _ (List.mem_singleton.2 rfl))
  ·exact h2) h3
theorem rh (fol:Bool) (e:Int) (h2:m pp=some q) (h3:∀ x,x ∈ bk (N,G)→m x.1=some x.2) :
  ∀ i v,((Mem.of ((wk,o)::(pp,q)::bk (N,F))).aJ (stM wk pp fol N G (.err e))) i=some v→m i=some v :=
 dF (A0:=[(wk,o),(pp,q)]) (U:=[(wk,none)]) (fun x hx v h=>by
  rw [List.mem_singleton.1 hx] at h
  cases h) (fun x hx h=>by
  simp only [List.mem_cons,List.not_mem_nil,or_false] at hx
  rcases hx with rfl|rfl
  ·exact absurd rfl (h _ (List.mem_singleton.2 rfl))
  ·exact h2) h3
end
theorem Es {wk pp st:Oid} {N:List Oid} {F F':Oid→ah} {L:PL} (hL:∀ n,(aF L n).l.length≤4000000) (fol:Bool) (pl n:Str) (t:List Str) (l:Nat) (dir:Bool) (cwd:Str) (um:Int) (h1:¬ wk=pp) (hwN:wk ∉ N) (hpN:pp ∉ N)
  (hl:l≤8) (ht:t.length≤4000000) (hpl:pl.length≤100000000) (hn:n.length≤100000000)
  (hA:RP st N L (bq L fol ⟨pl,n::t,l,dir⟩ n t).1 F F') (p:Oid) (hp:p.mono=false) (hw:¬ Oid.under p wk) (hpp:¬ Oid.under p pp) (hO:aW p N) :
  dy 109 [.ptr wk 0] (Oid.under p) ((wk,wkC pp fol ⟨pl,n::t,l,dir⟩)::(pp,prC st cwd um)::bk (N,F))
   (stR (bq L fol ⟨pl,n::t,l,dir⟩ n t)) (stM wk pp fol N F' (bq L fol ⟨pl,n::t,l,dir⟩ n t).2):=by
 have h2:¬ pp=wk:=fun e=>h1 e.symm
 have hin:∀ F1,RP st N L [(pl,false)] F F1→∀ p,p.mono=false→¬ Oid.under p wk→¬ Oid.under p pp→aW p N→dy 189 [.ptr wk 0] (Oid.under p) ((wk,wkC pp fol ⟨pl,t,l,dir⟩)::(pp,prC st cwd um)::bk (N,F)) (inR (aF L pl)) (sb N F1) :=
  fun F1 h p hp hw hpp hO=>yf fol ⟨pl,t,l,dir⟩ cwd um h1 hwN hpN h p hp hw hpp hO
 have hab:=fun p=>tc pl (by omega) p
 have hal:=iC pl
 by_cases c0:inE (aF L pl)=0
 case neg =>
  have hS:bq L fol ⟨pl,n::t,l,dir⟩ n t=([(pl,false)],.err (inE (aF L pl))):=by simp only [bq,if_pos c0]
  rw [hS] at hA ⊢
  have hin':=hin _ hA
  unfold inR at hin'
  simp only [if_neg c0] at hin'
  generalize inE (aF L pl)=e at hin' hS ⊢
  unfold wkC prC at hin' ⊢
  refine gB (n:=96) (rs:=[]) Tryz.func109 rfl rfl (by decide) rfl rfl rfl ?_;rintro x rfl hrd hng
  rw [dw]
  refine qr .o (ai (uu hw) (ai (uu hpp) (ai h1 h2))) trivial ?_
  refine qr .o (ai (uu hw) (ai (uu hpp) (ai h1 h2))) trivial ?_
  refine ao nmd [] hng (by kernel_rfl) fun hf C S K hC1 hC hS hK=>?_;simp (disch:=first|omega|assumption) only [go_sem,Oid.ab hw,Oid.aa hw,Oid.ab hpp,Oid.aa hpp,h1,h2]
  refine hC _ _ _ (dy.pn (hin' _ (ar rfl hp) (fun h=>hw (Oid.ae h)) (fun h=>hpp (Oid.ae h)) (hO.sub _ _)) rfl) ?_ (fun _ _ h=>h.elim) ?_
  ·exact (by simp only [List.mem_cons,forall_eq_or_imp];exact ⟨by simp (disch:=first|omega|assumption) only [go_sem,Oid.ab hw,Oid.aa hw,Oid.ab hpp,Oid.aa hpp,h1,h2,hwN,hpN,hO],by simp (disch:=first|omega|assumption) only [go_sem,Oid.ab hw,Oid.aa hw,Oid.ab hpp,Oid.aa hpp,h1,h2,hwN,hpN,hO],(by first|exact nbu _|exact nbA (by simp [hwN,hpN,hO.mem]) _)⟩)
  ·rintro _ _ ⟨rfl,rfl⟩
   exact cC rfl (rh fol e (by show _=some _;simp (disch:=first|omega|assumption) only [go_sem,Oid.ab hw,Oid.aa hw,Oid.ab hpp,Oid.aa hpp,h1,h2,hwN,hpN,hO]) (by first|exact nbu _|exact nbA (by simp [hwN,hpN,hO.mem]) _))
 have hi0:∀ (rd:Rds) (r:Rs Wk),bq L fol ⟨pl,n::t,l,dir⟩ n t=((pl,false)::rd,r)→∃ F1,RP st N L rd F1 F'∧∀ p,p.mono=false→¬ Oid.under p wk→¬ Oid.under p pp→aW p N→aj Tryz.prog 189 [.ptr wk 0] (Oid.under p) ⟨(wk,wkC pp fol ⟨pl,t,l,dir⟩)::(pp,prC st cwd um)::bk (N,F),.tuple [],sb N F1⟩:=fun rd r hS=>by
  rw [hS] at hA
  obtain ⟨F1,k1,k2⟩:=hA
  refine ⟨F1,k2,fun p hp hw hpp hO=>dy.ok (hin F1 ⟨F1,k1,rfl⟩ p hp hw hpp hO) ?_⟩
  unfold inR;rw [if_pos c0]
 by_cases c1:32 < n.length
 ·have hS:bq L fol ⟨pl,n::t,l,dir⟩ n t=([(pl,false)],.err 2):=by simp only [bq,c0,not_true_eq_false,if_false,if_pos c1]
  obtain ⟨F1,rfl,hin'⟩:=hi0 _ _ hS
  rw [hS]
  have e1:¬ (n.length:Int)≤32:=by omega
  unfold wkC prC at hin' ⊢
  refine gB (n:=96) (rs:=[]) Tryz.func109 rfl rfl (by decide) rfl rfl rfl ?_;rintro x rfl hrd hng
  rw [dw]
  refine kr .o (ai (uu hw) (ai h1 (ai h2 hwN))) trivial ?_
  refine kr .o (ai (uu hw) (ai h1 (ai h2 hwN))) trivial ?_
  refine ao nmd [] hng (by kernel_rfl) fun hf C S K hC1 hC hS hK=>?_;simp (disch:=first|omega|assumption) only [go_sem,Oid.ab hw,Oid.aa hw,Oid.ab hpp,Oid.aa hpp,h1,h2,hwN,hpN,hO]
  refine hC1 _ (hin' _ (ar rfl hp) (fun h=>hw (Oid.ae h)) (fun h=>hpp (Oid.ae h)) (hO.sub _ _)) (by simp only [List.mem_cons,forall_eq_or_imp];exact ⟨by simp (disch:=first|omega|assumption) only [go_sem,Oid.ab hw,Oid.aa hw,Oid.ab hpp,Oid.aa hpp,h1,h2,hwN,hpN,hO],by simp (disch:=first|omega|assumption) only [go_sem,Oid.ab hw,Oid.aa hw,Oid.ab hpp,Oid.aa hpp,h1,h2,hwN,hpN,hO],(by first|exact nbu _|exact nbA (by simp [hwN,hpN,hO.mem]) _)⟩) ?_
  simp (disch:=first|omega|assumption) only [go_sem,Oid.ab hw,Oid.aa hw,Oid.ab hpp,Oid.aa hpp,h1,h2,hwN,hpN,hO]
  refine hK ?_;clear hK hS hC hC1 K S C hf
  (try ((first|refine zn ?_|refine ze ?_|refine zk ?_);with_reducible (constructor;repeat constructor));try refine zl ?_)
  refine ao nmd [] hng (by kernel_rfl) fun hf C S K hC1 hC hS hK=>?_;simp (disch:=first|omega|assumption) only [go_sem,Oid.ab hw,Oid.aa hw,Oid.ab hpp,Oid.aa hpp,h1,h2,hwN,hpN,hO,e1,decide_true,decide_false,ne_eq,not_true_eq_false,not_false_eq_true]
  refine hC _ _ _ (bl 2 _) (fun _ h=>by cases h) (fun _ _ h=>h.elim) ?_
  rintro _ _ ⟨rfl,rfl⟩
  exact cC rfl (rh fol 2 (by show _=some _;simp (disch:=first|omega|assumption) only [go_sem,Oid.ab hw,Oid.aa hw,Oid.ab hpp,Oid.aa hpp,h1,h2,hwN,hpN,hO]) (by first|exact nbu _|exact nbA (by simp [hwN,hpN,hO.mem]) _))
 have e1:(n.length:Int)≤32:=by omega
 by_cases c2:n=[46]
 ·have hS:bq L fol ⟨pl,n::t,l,dir⟩ n t=([(pl,false)],.go ⟨pl,t,l,dir⟩):=by simp only [bq,c0,not_true_eq_false,if_false,if_neg c1,if_pos c2]
  obtain ⟨F1,rfl,hin'⟩:=hi0 _ _ hS
  rw [hS]
  unfold prC at hin' ⊢
  unfold wkC at hin'
  refine gB (n:=96) (rs:=[]) Tryz.func109 rfl rfl (by decide) rfl rfl rfl ?_;rintro x rfl hrd hng
  rw [dw]
  simp only [wkC]
  refine kr .o (ai (uu hw) (ai h1 (ai h2 hwN))) trivial ?_
  refine kr .o (ai (uu hw) (ai h1 (ai h2 hwN))) trivial ?_
  refine ao nmd [] hng (by kernel_rfl) fun hf C S K hC1 hC hS hK=>?_;simp (disch:=first|omega|assumption) only [go_sem,Oid.ab hw,Oid.aa hw,Oid.ab hpp,Oid.aa hpp,h1,h2,hwN,hpN,hO]
  refine hC1 _ (hin' _ (ar rfl hp) (fun h=>hw (Oid.ae h)) (fun h=>hpp (Oid.ae h)) (hO.sub _ _)) (by simp only [List.mem_cons,forall_eq_or_imp];exact ⟨by simp (disch:=first|omega|assumption) only [go_sem,Oid.ab hw,Oid.aa hw,Oid.ab hpp,Oid.aa hpp,h1,h2,hwN,hpN,hO],by simp (disch:=first|omega|assumption) only [go_sem,Oid.ab hw,Oid.aa hw,Oid.ab hpp,Oid.aa hpp,h1,h2,hwN,hpN,hO],(by first|exact nbu _|exact nbA (by simp [hwN,hpN,hO.mem]) _)⟩) ?_
  simp (disch:=first|omega|assumption) only [go_sem,Oid.ab hw,Oid.aa hw,Oid.ab hpp,Oid.aa hpp,h1,h2,hwN,hpN,hO]
  refine hK ?_;clear hK hS hC hC1 K S C hf
  refine kr .o (ai (uu hw) (ai h1 (ai h2 (ai hwN e1)))) (cq (bd 2 _) trivial) ?_
  refine qw c2 ?_
  exact aA (rb (v:=.tuple []) rfl rfl (rf fol ⟨pl,t,l,dir⟩ (by show _=some (wkC _ _ _);simp only [wkC];simp (disch:=first|omega|assumption) only [go_sem,Oid.ab hw,Oid.aa hw,Oid.ab hpp,Oid.aa hpp,h1,h2,hwN,hpN,hO]) (by show _=some _;simp (disch:=first|omega|assumption) only [go_sem,Oid.ab hw,Oid.aa hw,Oid.ab hpp,Oid.aa hpp,h1,h2,hwN,hpN,hO]) (by first|exact nbu _|exact nbA (by simp [hwN,hpN,hO.mem]) _)))
 by_cases c3:n=[46,46]
 ·have hS:bq L fol ⟨pl,n::t,l,dir⟩ n t=([(pl,false)],.go ⟨aN pl,t,l,dir⟩):=by simp only [bq,c0,not_true_eq_false,if_false,if_neg c1,if_neg c2,if_pos c3]
  obtain ⟨F1,rfl,hin'⟩:=hi0 _ _ hS
  rw [hS]
  unfold prC at hin' ⊢
  unfold wkC at hin'
  refine gB (n:=96) (rs:=[]) Tryz.func109 rfl rfl (by decide) rfl rfl rfl ?_;rintro x rfl hrd hng
  rw [dw]
  simp only [wkC]
  refine kr .o (ai (uu hw) (ai h1 (ai h2 hwN))) trivial ?_
  refine kr .o (ai (uu hw) (ai h1 (ai h2 hwN))) trivial ?_
  refine ao nmd [] hng (by kernel_rfl) fun hf C S K hC1 hC hS hK=>?_;simp (disch:=first|omega|assumption) only [go_sem,Oid.ab hw,Oid.aa hw,Oid.ab hpp,Oid.aa hpp,h1,h2,hwN,hpN,hO]
  refine hC1 _ (hin' _ (ar rfl hp) (fun h=>hw (Oid.ae h)) (fun h=>hpp (Oid.ae h)) (hO.sub _ _)) (by simp only [List.mem_cons,forall_eq_or_imp];exact ⟨by simp (disch:=first|omega|assumption) only [go_sem,Oid.ab hw,Oid.aa hw,Oid.ab hpp,Oid.aa hpp,h1,h2,hwN,hpN,hO],by simp (disch:=first|omega|assumption) only [go_sem,Oid.ab hw,Oid.aa hw,Oid.ab hpp,Oid.aa hpp,h1,h2,hwN,hpN,hO],(by first|exact nbu _|exact nbA (by simp [hwN,hpN,hO.mem]) _)⟩) ?_
  simp (disch:=first|omega|assumption) only [go_sem,Oid.ab hw,Oid.aa hw,Oid.ab hpp,Oid.aa hpp,h1,h2,hwN,hpN,hO]
  refine hK ?_;clear hK hS hC hC1 K S C hf
  refine kr .o (ai (uu hw) (ai h1 (ai h2 (ai hwN e1)))) (cq (bd 2 _) trivial) ?_
  refine qw c3 ?_
  refine kr .o (ai (uu hw) (ai h1 (ai h2 hwN))) (cq (hab _) trivial) ?_
  exact aA (rb (v:=.tuple []) rfl rfl (rf fol ⟨aN pl,t,l,dir⟩ (by show _=some (wkC _ _ _);simp only [wkC];simp (disch:=first|omega|assumption) only [go_sem,Oid.ab hw,Oid.aa hw,Oid.ab hpp,Oid.aa hpp,h1,h2,hwN,hpN,hO]) (by show _=some _;simp (disch:=first|omega|assumption) only [go_sem,Oid.ab hw,Oid.aa hw,Oid.ab hpp,Oid.aa hpp,h1,h2,hwN,hpN,hO]) (by first|exact nbu _|exact nbA (by simp [hwN,hpN,hO.mem]) _)))
 have hS:bq L fol ⟨pl,n::t,l,dir⟩ n t=([(pl,false),(pl++(47::n),false)],goF L fol ⟨pl,n::t,l,dir⟩ n t):=by simp only [bq,c0,not_true_eq_false,if_false,if_neg c1,if_neg c2,if_neg c3,iJ]
 obtain ⟨F1,⟨F2,hat,rfl⟩,hin'⟩:=hi0 _ _ hS
 have hat':∀ p,p.mono=false→aW p N→aj Tryz.prog 37 [.ptr st 0,.str (pl++(47::n))] (Oid.under p) ⟨bk (N,F1),(aF L (pl++(47::n))).av,sb N F2⟩:=hat
 rw [hS]
 have hdl:=hL (pl++(47::n))
 have hgo:goF L fol ⟨pl,n::t,l,dir⟩ n t=if (aF L (pl++(47::n))).k=3∧(¬ t=[]∨fol=true∨dir=true) then cX ⟨pl,n::t,l,dir⟩ t (aF L (pl++(47::n))).l
  else if ¬ t=[]∧(aF L (pl++(47::n))).k=0 then .err 10 else .go ⟨pl++(47::n),t,l,dir⟩:=rfl
 rw [hgo]
 clear hgo hS hin hat hi0
 generalize aF L (pl++(47::n))=B at hat' hdl ⊢
 obtain ⟨ek,em,el⟩:=B
 simp only [Bits.av] at hat' hdl ⊢
 have hlk:=fun p=>Er (wk:=wk) (pp:=pp) fol ⟨pl,t,l,dir⟩ el hl hdl ht p
 have hlf:cX ⟨pl,n::t,l,dir⟩ t el=cX ⟨pl,t,l,dir⟩ t el:=rfl
 rw [hlf]
 simp only at hlk
 unfold prC at hin' ⊢
 unfold wkC at hin' hlk
 refine gB (n:=96) (rs:=[]) Tryz.func109 rfl rfl (by decide) rfl rfl rfl ?_;rintro x rfl hrd hng
 rw [dw]
 simp only [wkC]
 refine kr .o (ai (uu hw) (ai h1 (ai h2 hwN))) trivial ?_
 refine kr .o (ai (uu hw) (ai h1 (ai h2 hwN))) trivial ?_
 refine ao nmd [] hng (by kernel_rfl) fun hf C S K hC1 hC hS hK=>?_;simp (disch:=first|omega|assumption) only [go_sem,Oid.ab hw,Oid.aa hw,Oid.ab hpp,Oid.aa hpp,h1,h2,hwN,hpN,hO]
 refine hC1 _ (hin' _ (ar rfl hp) (fun h=>hw (Oid.ae h)) (fun h=>hpp (Oid.ae h)) (hO.sub _ _)) (by simp only [List.mem_cons,forall_eq_or_imp];exact ⟨by simp (disch:=first|omega|assumption) only [go_sem,Oid.ab hw,Oid.aa hw,Oid.ab hpp,Oid.aa hpp,h1,h2,hwN,hpN,hO],by simp (disch:=first|omega|assumption) only [go_sem,Oid.ab hw,Oid.aa hw,Oid.ab hpp,Oid.aa hpp,h1,h2,hwN,hpN,hO],(by first|exact nbu _|exact nbA (by simp [hwN,hpN,hO.mem]) _)⟩) ?_
 simp (disch:=first|omega|assumption) only [go_sem,Oid.ab hw,Oid.aa hw,Oid.ab hpp,Oid.aa hpp,h1,h2,hwN,hpN,hO]
 refine hK ?_;clear hK hS hC hC1 K S C hf
 refine kr .o (ai (uu hw) (ai h1 (ai h2 (ai hwN e1)))) (cq (bd 2 _) trivial) ?_
 have hcat:pl++[47]++n=pl++(47::n):=by simp
 refine kw (ai (uu hw) (ai h1 (ai h2 (ai hwN (ai c2 (ai c3 hcat)))))) ?_
 refine kr .o (ai (uu hw) (ai h1 (ai h2 hwN))) (cq hat' trivial) ?_
 (repeat (first|(refine ax rfl rfl ?_)|(refine aw rfl rfl ?_)|(refine ao nmd [] hng (by kernel_rfl) fun hf C S K hC1 hC hS hK=>?_;simp (disch:=first|omega|assumption) only [go_sem,Oid.ab hw,Oid.aa hw,Oid.ab hpp,Oid.aa hpp,h1,h2,hwN,hpN,hO,List.length_map];refine hK ?_;clear hK hS hC hC1 K S C hf)|((first|refine zn ?_|refine ze ?_|refine zk ?_);with_reducible (constructor;repeat constructor);try refine zl ?_)))
 rw [show decide ((t.length:Int)=0)=decide (t=[]) from decide_eq_decide.2 ⟨fun h=>List.eq_nil_of_length_eq_zero (by omega),fun h=>by rw [h];rfl⟩]
 refine cz [0,3,4,5,72] (fun s'=>∃ c':Nat,s' = ⟨[(0,.ptr wk 0),(3,.str (pl++(47::n))),(4,.ptr (.sub 8 9 x.p) 0),(5,.bool (decide (t=[]))),(72,.bool (decide (ek=3∧(¬ t=[]∨fol=true∨dir=true))))],Mem.blk [(wk,.cells [.ptr pp 0,.str pl,.list 1 (t.map AV.str),.int .i64 l,.bool fol,.bool dir]),(pp,.cells [.ptr st 0,.str cwd,.int .i64 um]),(.sub 8 9 x.p,.cells [.int .i64 ek,.int .i64 em,.str el])] [(N,F2)],c',[]⟩∧8 < c') ?_ ?_
 ·by_cases k3:ek=3
  ·cases t with
   | cons t0 tr =>
    rw [show decide (ek=3∧(¬ (t0::tr)=[]∨fol=true∨dir=true))=true from by simp [k3]]
    refine kr (.d [] [(3,76),(6,79),(12,85)] []) (ai (uu hw) (ai h1 (ai h2 (ai hwN k3)))) trivial ?_
    exact aL ⟨_,by rw [k3];rfl,by omega⟩
   | nil =>
    rw [show decide (ek=3∧(¬ ([]:List Str)=[]∨fol=true∨dir=true))=(fol || dir) from by cases fol<;>cases dir<;>simp [k3]]
    cases fol with
    | true =>
     refine kr (.d [] [(3,76),(6,79),(12,85)] []) (ai (uu hw) (ai h1 (ai h2 (ai hwN k3)))) trivial ?_
     exact aL ⟨_,by rw [k3];rfl,by omega⟩
    | false =>
     cases dir with
     | true =>
      refine kr (.d [] [(3,76),(6,79),(12,85)] []) (ai (uu hw) (ai h1 (ai h2 (ai hwN k3)))) trivial ?_
      exact aL ⟨_,by rw [k3];rfl,by omega⟩
     | false =>
      refine kr (.d [] [(3,76),(6,79),(12,85)] []) (ai (uu hw) (ai h1 (ai h2 (ai hwN k3)))) trivial ?_
      exact aL ⟨_,by rw [k3];rfl,by omega⟩
  ·rw [show decide (ek=3∧(¬ t=[]∨fol=true∨dir=true))=false from by simp [k3]]
   refine kr (.d [] [(3,76),(6,79),(12,85)] []) (ai (uu hw) (ai h1 (ai h2 (ai hwN k3)))) trivial ?_
   exact aL ⟨_,rfl,by omega⟩
 rintro s' ⟨c,rfl,hc⟩
 by_cases k3:ek=3∧(¬ t=[]∨fol=true∨dir=true)
 ·rw [decide_eq_true k3,if_pos k3]
  (try ((first|refine zn ?_|refine ze ?_|refine zk ?_);with_reducible (constructor;repeat constructor));try refine zl ?_)
  refine ax rfl rfl ?_
  generalize cX ⟨pl,t,l,dir⟩ t el=LR at hlk
  cases LR with
  | err e =>
   (try ((first|refine zn ?_|refine ze ?_|refine zk ?_);with_reducible (constructor;repeat constructor));try refine zl ?_)
   refine ao nmd [] hng (by kernel_rfl) fun hf C S K hC1 hC hS hK=>?_;simp (disch:=first|omega|assumption) only [go_sem,Oid.ab hw,Oid.aa hw,Oid.ab hpp,Oid.aa hpp,h1,h2,hwN,hpN,hO]
   refine hC _ _ _ (dy.pn (hlk _ (fun h=>hw (Oid.ae h))) rfl) (by simp only [List.mem_singleton,forall_eq];simp (disch:=first|omega|assumption) only [go_sem,Oid.ab hw,Oid.aa hw,Oid.ab hpp,Oid.aa hpp,h1,h2,hwN,hpN,hO]) (fun _ _ h=>h.elim) ?_
   rintro _ _ ⟨rfl,rfl⟩
   refine cC rfl (rh fol e ?_ ?_)
   ·show (Mem.set _ wk none) pp=_
    simp only [Mem.set,if_neg h2];simp (disch:=first|omega|assumption) only [go_sem,Oid.ab hw,Oid.aa hw,Oid.ab hpp,Oid.aa hpp,h1,h2,hwN,hpN,hO]
   ·intro y hy
    show (Mem.set _ wk none) y.1=_
    simp only [Mem.set]
    rw [if_neg fun e:y.1=wk=>hwN (e ▸ (bR.1 hy).1)]
    exact nbA (by simp [hwN,hpN,hO.mem]) _ y hy
  | go w' =>
   (try ((first|refine zn ?_|refine ze ?_|refine zk ?_);with_reducible (constructor;repeat constructor));try refine zl ?_)
   refine ao nmd [] hng (by kernel_rfl) fun hf C S K hC1 hC hS hK=>?_;simp (disch:=first|omega|assumption) only [go_sem,Oid.ab hw,Oid.aa hw,Oid.ab hpp,Oid.aa hpp,h1,h2,hwN,hpN,hO]
   refine hC1 _ (dy.ok (hlk _ (fun h=>hw (Oid.ae h))) rfl) (by simp only [List.mem_singleton,forall_eq];simp (disch:=first|omega|assumption) only [go_sem,Oid.ab hw,Oid.aa hw,Oid.ab hpp,Oid.aa hpp,h1,h2,hwN,hpN,hO]) ?_
   simp only [stU]
   simp (disch:=first|omega|assumption) only [go_sem,Oid.ab hw,Oid.aa hw,Oid.ab hpp,Oid.aa hpp,h1,h2,hwN,hpN,hO]
   refine hK ?_;clear hK hS hC hC1 K S C hf
   (try ((first|refine zn ?_|refine ze ?_|refine zk ?_);with_reducible (constructor;repeat constructor));try refine zl ?_)
   refine bV (kV (v:=.tuple []) rfl rfl (rf fol w' ?_ ?_ ?_))
   ·simp (disch:=first|omega|assumption) only [go_sem,Oid.ab hw,Oid.aa hw,Oid.ab hpp,Oid.aa hpp,h1,h2,hwN,hpN,hO]
   ·simp (disch:=first|omega|assumption) only [go_sem,Oid.ab hw,Oid.aa hw,Oid.ab hpp,Oid.aa hpp,h1,h2,hwN,hpN,hO]
   ·exact (by first|exact nbu _|exact nbA (by simp [hwN,hpN,hO.mem]) _)
 ·rw [decide_eq_false k3,if_neg k3]
  (try ((first|refine zn ?_|refine ze ?_|refine zk ?_);with_reducible (constructor;repeat constructor));try refine zl ?_)
  refine aw rfl rfl ?_
  by_cases k4:¬ t=[]∧ek=0
  ·rw [if_pos k4]
   have ht0:=k4.1
   have he0:=k4.2
   (try ((first|refine zn ?_|refine ze ?_|refine zk ?_);with_reducible (constructor;repeat constructor));try refine zl ?_)
   refine ao nmd [(1,62)] hng (by kernel_rfl) fun hf C S K hC1 hC hS hK=>?_;simp (disch:=first|omega|assumption) only [go_sem,Oid.ab hw,Oid.aa hw,Oid.ab hpp,Oid.aa hpp,h1,h2,hwN,hpN,hO,ht0,he0,decide_true,decide_false,ne_eq,not_true_eq_false,not_false_eq_true]
   refine hC _ _ _ (bl 10 _) (fun _ h=>by cases h) (fun _ _ h=>h.elim) ?_
   rintro _ _ ⟨rfl,rfl⟩
   exact cC rfl (rh fol 10 (by show _=some _;simp (disch:=first|omega|assumption) only [go_sem,Oid.ab hw,Oid.aa hw,Oid.ab hpp,Oid.aa hpp,h1,h2,hwN,hpN,hO]) (by first|exact nbu _|exact nbA (by simp [hwN,hpN,hO.mem]) _))
  ·rw [if_neg k4]
   (try ((first|refine zn ?_|refine ze ?_|refine zk ?_);with_reducible (constructor;repeat constructor));try refine zl ?_)
   refine cz [0,3] (fun s'=>∃ c':Nat,s' = ⟨[(0,.ptr wk 0),(3,.str (pl++(47::n)))],Mem.blk [(wk,.cells [.ptr pp 0,.str pl,.list 1 (t.map AV.str),.int .i64 l,.bool fol,.bool dir]),(pp,.cells [.ptr st 0,.str cwd,.int .i64 um]),(.sub 8 9 x.p,.cells [.int .i64 ek,.int .i64 em,.str el])] [(N,F2)],c',[]⟩∧8 < c') ?_ ?_
   ·by_cases ht0:t=[]
    ·refine kr (.d [] [(1,62)] []) (ai (uu hw) (ai h1 (ai h2 (ai hwN ht0)))) (cq (bd 10 _) trivial) ?_
     exact aL ⟨_,by simp only [ht0];rfl,by omega⟩
    ·have he0:¬ ek=0:=fun e=>k4 ⟨ht0,e⟩
     refine kr (.d [] [(1,62)] []) (ai (uu hw) (ai h1 (ai h2 (ai hwN (ai ht0 he0))))) (cq (bd 10 _) trivial) ?_
     exact aL ⟨_,rfl,by omega⟩
   clear hc c
   rintro s' ⟨c,rfl,hc⟩
   refine kw (ai (uu hw) (ai h1 (ai h2 hwN))) ?_
   refine bV (kV (v:=.tuple []) rfl rfl (rf fol ⟨pl++(47::n),t,l,dir⟩ ?_ ?_ ?_))
   ·simp only [wkC];simp (disch:=first|omega|assumption) only [go_sem,Oid.ab hw,Oid.aa hw,Oid.ab hpp,Oid.aa hpp,h1,h2,hwN,hpN,hO]
   ·simp (disch:=first|omega|assumption) only [go_sem,Oid.ab hw,Oid.aa hw,Oid.ab hpp,Oid.aa hpp,h1,h2,hwN,hpN,hO]
   ·exact (by first|exact nbu _|exact nbA (by simp [hwN,hpN,hO.mem]) _)
end Go.Proofs.YtfbnaalhioogoaaGreatDoor
namespace Go.Proofs.YtfbnaalhioogoaaGreatDoor
open Go Go.Ab
set_option maxRecDepth 20000
set_option maxHeartbeats 4000000
def fdR:Rs (Str × Bits)→Rs AV
 | .err e=>.err e
 | .go a=>.go (.tuple [.str a.1,a.2.av])
theorem iL {pp:Oid} {q:ah} {N:List Oid} {F G:Oid→ah} {m:Mem} (h2:m pp=some q) (h3:∀ x,x ∈ bk (N,G)→m x.1=some x.2):∀ i v,((Mem.of ((pp,q)::bk (N,F))).aJ (sb N G)) i=some v→m i=some v :=
 dF (A0:=[(pp,q)]) (U:=[]) (fun x hx=>by cases hx) (fun x hx _=>by rw [List.mem_singleton.1 hx];exact h2) h3
theorem ri:∀ t:List Str,t.length≤wtF t
 | []=>Nat.le_refl _
 | n::t=>by have:=ri t;simp only [wtF,List.length_cons];omega
theorem l8 {L:PL} {fol:Bool} {w w':Wk} {n:Str} {t:List Str} {rd:Rds} (h:bq L fol w n t=(rd,.go w')) (hl:w.links≤8):w'.links≤8:=by
 unfold bq at h
 split at h;· cases h
 split at h;· cases h
 split at h;· cases h;exact hl
 split at h;· cases h;exact hl
 obtain ⟨-,h⟩:=Prod.mk.inj h
 unfold goF at h
 split at h
 ·unfold cX at h
  split at h;· cases h
  split at h;· cases h
  cases h;simp only;omega
 ·split at h;· cases h
  cases h;exact hl
theorem kX {pp st:Oid} {N:List Oid} {F F':Oid→ah} {L:PL} (hs:aU ltB L) (hlk:jh L) (hL:∀ n,(aF L n).l.length≤4000000) (path cwd:Str) (um:Int) (fol:Bool) (hpN:pp ∉ N) (hc:cwd.length≤1000000) (hpath:path.length≤140737488355328)
  (hA:RP st N L (findF L cwd path fol).1 F F') (p:Oid) (hp:p.mono=false) (hpp:¬ Oid.under p pp) (hO:aW p N) :
  dy 40 [.ptr pp 0,.str path,.bool fol] (Oid.under p) ((pp,prC st cwd um)::bk (N,F)) (fdR (findF L cwd path fol).2) (sb N F'):=by
 by_cases c1:path=[]
 ·have hF:findF L cwd path fol=([],.err 10):=by simp only [findF,if_pos c1]
  rw [hF] at hA ⊢
  obtain rfl:F=F':=hA
  unfold prC
  refine gB (n:=73) (rs:=[.tmp 6,.cell 7 56]) Tryz.func40 rfl rfl (by decide) rfl rfl rfl ?_;rintro x rfl hrd hng
  rw [aB]
  refine kr0 ?_
  refine ao nmd [] hng (by kernel_rfl) fun hf C S K hC1 hC hS hK=>?_;simp (disch:=first|omega|assumption) only [go_sem,Oid.ab hpp,Oid.aa hpp,hpN,hO,c1,decide_true,decide_false,ne_eq,not_true_eq_false,not_false_eq_true]
  refine hC _ _ _ (bl 10 _) (fun _ h=>by cases h) (fun _ _ h=>h.elim) ?_
  rintro _ _ ⟨rfl,rfl⟩
  exact cC rfl (iL (by show _=some _;simp (disch:=first|omega|assumption) only [go_sem,Oid.ab hpp,Oid.aa hpp,hpN,hO]) (by first|exact nbu _|exact nbA (by simp [hpN,hO.mem]) _))
 by_cases c2:200 < path.length
 ·have hF:findF L cwd path fol=([],.err 2):=by simp only [findF,if_neg c1,if_pos c2]
  rw [hF] at hA ⊢
  obtain rfl:F=F':=hA
  have e2:¬ (path.length:Int)≤200:=by omega
  unfold prC
  refine gB (n:=73) (rs:=[.tmp 6,.cell 7 56]) Tryz.func40 rfl rfl (by decide) rfl rfl rfl ?_;rintro x rfl hrd hng
  rw [aB]
  refine kr0 ?_
  refine kr .o c1 (cq (bd 10 _) trivial) ?_
  refine ao nmd [] hng (by kernel_rfl) fun hf C S K hC1 hC hS hK=>?_;simp (disch:=first|omega|assumption) only [go_sem,Oid.ab hpp,Oid.aa hpp,hpN,hO,e2,decide_true,decide_false,ne_eq,not_true_eq_false,not_false_eq_true]
  refine hC _ _ _ (bl 2 _) (fun _ h=>by cases h) (fun _ _ h=>h.elim) ?_
  rintro _ _ ⟨rfl,rfl⟩
  exact cC rfl (iL (by show _=some _;simp (disch:=first|omega|assumption) only [go_sem,Oid.ab hpp,Oid.aa hpp,hpN,hO]) (by first|exact nbu _|exact nbA (by simp [hpN,hO.mem]) _))
 have hF:findF L cwd path fol=cO L (bP L fol (wkW (aK cwd path)) (aK cwd path)):=by simp only [findF,if_neg c1,if_neg c2]
 rw [hF] at hA ⊢
 have e2:(path.length:Int)≤200:=by omega
 obtain ⟨s1,s2⟩:=ke cwd path (by omega)
 have hpc:=fun p=>pK path (by omega) p
 have hsf:=fun p=>eH path (by omega) p
 have h0l:0 < path.length:=List.length_pos_iff.2 c1
 have hrun:∃ F1,RP st N L (bP L fol (wkW (aK cwd path)) (aK cwd path)).1 F F1 ∧
   match (bP L fol (wkW (aK cwd path)) (aK cwd path)).2 with
   | .err e=>F1=F'∧cO L (bP L fol (wkW (aK cwd path)) (aK cwd path))=((bP L fol (wkW (aK cwd path)) (aK cwd path)).1,.err e)
   | .go w=>RP st N L [(w.pl,false)] F1 F':=by
  generalize bP L fol (wkW (aK cwd path)) (aK cwd path)=y at hA
  obtain ⟨rd,r⟩:=y
  cases r with
  | err e=>exact ⟨F',hA,rfl,rfl⟩
  | go w=>exact aZ hA
 obtain ⟨F1,hrq,hlast⟩:=hrun
 obtain ⟨res,hres⟩:∃ res,(bP L fol (wkW (aK cwd path)) (aK cwd path)).2=res:=⟨_,rfl⟩
 have hfin:(cO L (bP L fol (wkW (aK cwd path)) (aK cwd path))).2=(cO L ([],res)).2:=by
  rw [← hres]
  generalize bP L fol (wkW (aK cwd path)) (aK cwd path)=y
  obtain ⟨rd,r⟩:=y
  cases r<;>rfl
 rw [hres] at hlast
 rw [hfin]
 have hw0:(aK cwd path).pl.length+wkW (aK cwd path)≤cwd.length+2617:=by omega
 have hst:aK cwd path=⟨if path.getD 0 0=47 then [] else cwd,aQ path,0,cK path⟩:=rfl
 generalize hK:wkW (aK cwd path)=K at hres hrq s2 hfin
 have hKle:wkW (aK cwd path)≤K:=by omega
 clear hfin hF hA
 unfold prC
 refine gB (n:=73) (rs:=[.tmp 6,.cell 7 56]) Tryz.func40 rfl rfl (by decide) rfl rfl rfl ?_;rintro x rfl hrd hng
 rw [aB]
 refine kr0 ?_
 refine kr .o c1 (cq (bd 10 _) trivial) ?_
 refine kr .o e2 (cq (bd 2 _) trivial) ?_
 have hpp2:¬ Oid.under (.sub 1 1 (.sub 3 6 x.p)) pp:=fun h=>hpp (Oid.ae (Oid.ae h))
 refine kd (.d [(4,6),(4,9)] [] [0,1,7,8]) (uu hpp2) (cq (hpc _) (cq (hsf _) trivial)) ?_
 have hO3:aW (.sub 1 1 (.sub 3 6 x.p)) N:=(hO.sub 3 6).sub 1 1
 refine xO (.sub 0 0 (.sub 1 1 (.sub 3 6 x.p))) (.sub 3 11 x.p) 1 ((aQ path).map AV.str) _ [.ptr pp 0,.str cwd,.list 1 ((aQ path).map AV.str),.int .i64 0,.bool fol,.bool (cK path)]
  (ks (uu hpp2)) ks0 (by simp) (.keep (.keep (.gS (n:=(aQ path).length) (by simp) (.keep (.keep (.keep .nil)))))) ?_
 simp (disch:=first|omega|assumption) only [go_sem,Oid.ab hpp,Oid.aa hpp,hpN,hO,hO3,Oid.ab hpp2,Oid.aa hpp2]
 refine kr0 ?_
 refine cz [0,7,8] (fun s'=>∃ c':Nat,s' = ⟨[(0,.ptr pp 0),(7,.ptr (.sub 0 1 x.p) 0),(8,.ptr (.sub 3 11 x.p) 0)],Mem.blk [(pp,.cells [.ptr st 0,.str cwd,.int .i64 um]),(.sub 0 1 x.p,.cells [.int .i64 0,.int .i64 0,.str []]),(.sub 3 11 x.p,wkC pp fol (aK cwd path))] [(N,F)],c',[]⟩∧3 < c') ?_ ?_
 ·rw [hst]
  simp only [wkC]
  refine aO rfl rfl (fun hb=>?_) (fun hb=>?_)
  ·rw [if_pos (UInt8.toNat_inj.1 (by show _=47;omega):path.getD 0 0=47)]
   refine kw0 ?_
   exact aL ⟨_,rfl,by omega⟩
  ·rw [if_neg (fun e:path.getD 0 0=47=>hb (by rw [e];rfl))]
   refine qw0 ?_
   exact aL ⟨_,rfl,by omega⟩
 rintro s' ⟨c,rfl,hc3⟩
 (try ((first|refine zn ?_|refine ze ?_|refine zk ?_);with_reducible (constructor;repeat constructor));try refine zl ?_)
 have hwp:¬ Oid.sub 3 11 x.p=pp:=by rw [Oid.aa hpp];exact not_false
 have hwn:Oid.sub 3 11 x.p ∉ N:=hO.mem
 have hl0:(aK cwd path).links≤8:=by rw [hst];exact Nat.zero_le _
 clear hst hpc hsf
 generalize aK cwd path=w0 at hKle hw0 hrq hres hl0
 refine bL [0,7,8] (fun k s'=>∃ (w:Wk) (c:Nat) (G:Oid→ah),s' = ⟨[(0,.ptr pp 0),(7,.ptr (.sub 0 1 x.p) 0),(8,.ptr (.sub 3 11 x.p) 0)],Mem.blk [(pp,.cells [.ptr st 0,.str cwd,.int .i64 um]),(.sub 0 1 x.p,.cells [.int .i64 0,.int .i64 0,.str []]),(.sub 3 11 x.p,wkC pp fol w)] [(N,G)],c,[]⟩∧3 < c∧wkW w≤k∧w.links≤8∧w.pl.length+wkW w≤cwd.length+2617∧(bP L fol k w).2=res∧RP st N L (bP L fol k w).1 G F1) _ ⟨w0,_,_,rfl,hc3,hKle,hl0,hw0,hres,hrq⟩ ?_
 clear hrq hres hw0 hKle hl0 hc3 hK
 rintro k s' ⟨⟨pl,todo,l,dir⟩,c,G,rfl,hc3,hKle,hl0,hw0,hres,hrq⟩
 simp only at hl0 hw0
 simp only [wkC]
 cases todo with
 | nil =>
  have hrn:bP L fol k ⟨pl,[],l,dir⟩=([],.go ⟨pl,[],l,dir⟩):=by cases k<;>rfl
  rw [hrn] at hres hrq
  obtain rfl:G=F1:=hrq
  subst hres
  simp only at hlast
  obtain ⟨_,hat,rfl⟩:=hlast
  rename_i F2
  have hat':∀ p,p.mono=false→aW p N→aj Tryz.prog 37 [.ptr st 0,.str pl] (Oid.under p) ⟨bk (N,G),(aF L pl).av,sb N F2⟩:=hat
  simp only [cO]
  generalize aF L pl=B at hat' ⊢
  obtain ⟨ek,em,el⟩:=B
  simp only [Bits.av] at hat' ⊢
  refine kw0 ?_
  refine kd (.d [(3,9),(7,9),(8,9)] [] [0,7,8,9]) trivial (cq hat' trivial) ?_
  by_cases c4:dir=true∧¬ ek=0∧¬ ek=2
  ·rw [if_pos c4]
   obtain ⟨rfl,c5,c6⟩:=c4
   (try ((first|refine zn ?_|refine ze ?_|refine zk ?_);with_reducible (constructor;repeat constructor));try refine zl ?_)
   refine ao nmd [(5,57),(10,62)] hng (by kernel_rfl) fun hf C S K hC1 hC hS hK=>?_;simp (disch:=first|omega|assumption) only [go_sem,Oid.ab hpp,Oid.aa hpp,hpN,hO,c5,c6,decide_true,decide_false,ne_eq,not_true_eq_false,not_false_eq_true]
   refine hC _ _ _ (bl 15 _) (fun _ h=>by cases h) (fun _ _ h=>h.elim) ?_
   rintro _ _ ⟨rfl,rfl⟩
   exact cC rfl (iL (by show _=some _;simp (disch:=first|omega|assumption) only [go_sem,Oid.ab hpp,Oid.aa hpp,hpN,hO]) (by first|exact nbu _|exact nbA (by simp [hpN,hO.mem]) _))
  ·rw [if_neg c4]
   (try ((first|refine zn ?_|refine ze ?_|refine zk ?_);with_reducible (constructor;repeat constructor));try refine zl ?_)
   refine cz [0,7,8,9] (fun s'=>∃ c':Nat,s' = ⟨[(0,.ptr pp 0),(7,.ptr (.sub 0 1 x.p) 0),(8,.ptr (.sub 3 11 x.p) 0),(9,.ptr (.sub (c+1) 9 x.p) 0)],Mem.blk [(pp,.cells [.ptr st 0,.str cwd,.int .i64 um]),(.sub 0 1 x.p,.cells [.int .i64 0,.int .i64 0,.str []]),(.sub 3 11 x.p,.cells [.ptr pp 0,.str pl,.list 1 [],.int .i64 l,.bool fol,.bool dir]),(.sub (c+1) 9 x.p,.cells [.int .i64 ek,.int .i64 em,.str el])] [(N,F2)],c',[]⟩) ?_ ?_
   ·cases dir with
    | false =>
     refine kr (.d [] [(5,57),(10,62)] []) trivial (cq (bd 15 _) trivial) ?_
     exact aL ⟨_,rfl⟩
    | true =>
     by_cases c5:ek=0
     ·refine ao nmd [(5,57),(10,62)] hng (by kernel_rfl) fun hf C S K hC1 hC hS hK=>?_;simp (disch:=first|omega|assumption) only [go_sem,Oid.ab hpp,Oid.aa hpp,hpN,hO,c5,decide_true,decide_false,ne_eq,not_true_eq_false,not_false_eq_true]
      refine hC1 _ (bd 15 _) (fun _ h=>by cases h) ?_
      simp (disch:=first|omega|assumption) only [go_sem,Oid.ab hpp,Oid.aa hpp,hpN,hO]
      refine hK ?_;clear hK hS hC hC1 K S C hf
      exact aL ⟨_,by rw [c5];rfl⟩
     ·have c6:ek=2:=Decidable.of_not_not fun h=>c4 ⟨rfl,c5,h⟩
      have h20:¬ (2:Int)=0:=by decide
      refine kr (.d [] [(5,57),(10,62)] []) (ai c6 h20) (cq (bd 15 _) trivial) ?_
      exact aL ⟨_,by rw [c6];rfl⟩
   rintro s' ⟨c',rfl⟩
   refine kd (.d [] [] [6,7]) hc3 trivial ?_
   refine aA (rb (v:=.tuple [.str pl,.agg [.int .i64 ek,.int .i64 em,.str el]]) ks0 rfl (iL (by show _=some _;simp (disch:=first|omega|assumption) only [go_sem,Oid.ab hpp,Oid.aa hpp,hpN,hO]) (by first|exact nbu _|exact nbA (by simp [hpN,hO.mem]) _)))
 | cons n t =>
  have hap:∀ c i,3 < c→¬ Oid.under (.sub c i x.p) (.sub 3 11 x.p):=fun c i h hu=>by
   have:=(Oid.apart hu (Oid.ay _)).1
   omega
  have hwk:wkW ⟨pl,n::t,l,dir⟩=n.length+1+wtF t+(8 - l) * 302:=rfl
  obtain ⟨k,rfl⟩:∃ k',k=k' + 1:=⟨k - 1,by omega⟩
  have htl:=ri t
  have hrn:bP L fol (k+1) ⟨pl,n::t,l,dir⟩=match bq L fol ⟨pl,n::t,l,dir⟩ n t with
   | (rd,.err e)=>(rd,.err e)
   | (rd,.go w')=>(rd++(bP L fol k w').1,(bP L fol k w').2):=rfl
  have hgo:=fun w' rd (h:bq L fol ⟨pl,n::t,l,dir⟩ n t=(rd,.go w'))=>And.intro (kU hs hlk h) (l8 h hl0)
  have hstp:=fun F2 h p hp hw hpp hO=>Es (wk:=.sub 3 11 x.p) (pp:=pp) (st:=st) (N:=N) (F:=G) (F':=F2) hL fol pl n t l dir cwd um hwp hwn hpN hl0 (by omega) (by omega) (by omega) h p hp hw hpp hO
  rw [hrn] at hres hrq
  generalize bq L fol ⟨pl,n::t,l,dir⟩ n t=y at hres hrq hgo hstp
  obtain ⟨rd,r⟩:=y
  simp only [wkC,prC] at hstp
  have hwt:wtF (n::t)=n.length+1+wtF t:=rfl
  cases r with
  | err e =>
   subst hres
   obtain ⟨rfl,hle⟩:=hlast
   have hst2:=hstp _ hrq
   refine kw0 ?_
   refine aO rfl rfl (fun hb=>?_) (fun hb=>?_)
   case refine_2=>exact absurd (by omega) hb
   refine qw0 ?_
   refine ao nmd [] hng (by kernel_rfl) fun hf C S K hC1 hC hS hK=>?_;simp (disch:=first|omega|assumption) only [go_sem,Oid.ab hpp,Oid.aa hpp,hpN,hO]
   refine hC _ _ _ (dy.pn (hst2 _ (ar rfl hp) (hap _ _ (by omega)) (fun h=>hpp (Oid.ae h)) (hO.sub _ _)) rfl) (by simp only [List.mem_cons,forall_eq_or_imp];exact ⟨by simp (disch:=first|omega|assumption) only [go_sem,Oid.ab hpp,Oid.aa hpp,hpN,hO],by simp (disch:=first|omega|assumption) only [go_sem,Oid.ab hpp,Oid.aa hpp,hpN,hO],(by first|exact nbu _|exact nbA (by simp [hpN,hO.mem]) _)⟩) (fun _ _ h=>h.elim) ?_
   rintro _ _ ⟨rfl,rfl⟩
   simp only [stM,stU]
   refine cC rfl (iL ?_ ?_)
   ·simp (disch:=first|omega|assumption) only [go_sem,Oid.ab hpp,Oid.aa hpp,hpN,hO,cW]
   ·rw [cW];exact nbu _
  | go w' =>
   obtain ⟨G2,hq1,hq2⟩:=aZ hrq
   have hst2:=hstp _ hq1
   obtain ⟨⟨g1,g2⟩,g3⟩:=hgo w' rd rfl
   have hwk':wkW w' = wtF w'.todo+(8 - w'.links) * 302:=rfl
   simp only at g1 g2
   refine kw0 ?_
   refine aO rfl rfl (fun hb=>?_) (fun hb=>?_)
   case refine_2=>exact absurd (by omega) hb
   refine qw0 ?_
   refine ao nmd [] hng (by kernel_rfl) fun hf C S K hC1 hC hS hK=>?_;simp (disch:=first|omega|assumption) only [go_sem,Oid.ab hpp,Oid.aa hpp,hpN,hO]
   refine hC1 _ (dy.ok (hst2 _ (ar rfl hp) (hap _ _ (by omega)) (fun h=>hpp (Oid.ae h)) (hO.sub _ _)) rfl) (by simp only [List.mem_cons,forall_eq_or_imp];exact ⟨by simp (disch:=first|omega|assumption) only [go_sem,Oid.ab hpp,Oid.aa hpp,hpN,hO],by simp (disch:=first|omega|assumption) only [go_sem,Oid.ab hpp,Oid.aa hpp,hpN,hO],(by first|exact nbu _|exact nbA (by simp [hpN,hO.mem]) _)⟩) ?_
   simp only [stM,stU]
   simp (disch:=first|omega|assumption) only [go_sem,Oid.ab hpp,Oid.aa hpp,hpN,hO,cW]
   refine hK ?_;clear hK hS hC hC1 K S C hf
   (try ((first|refine zn ?_|refine ze ?_|refine zk ?_);with_reducible (constructor;repeat constructor));try refine zl ?_)
   exact ⟨_,_,by omega,fun _ _ h=>h,w',_,_,rfl,by omega,by omega,g3,by omega,hres,hq2⟩
end Go.Proofs.YtfbnaalhioogoaaGreatDoor
namespace Go.Proofs.YtfbnaalhioogoaaGreatDoor
open Go Go.Ab
set_option maxRecDepth 20000
set_option maxHeartbeats 4000000
theorem bG {α β:Type} (r:Rds) (a:α) (f:α→Rds × Rs β):aV (r,.go a) f=(r++(f a).1,(f a).2):=rfl
theorem e8 {β:Type} {L:PL} {place:Str} {f:Unit→Rds × Rs β} (h:bO place (aF L (aN place))=0):aV (b7 L place ()) f=([(aN place,false)]++(f ()).1,(f ()).2):=by
 simp only [b7,h,not_true_eq_false,if_false];rfl
theorem fc {β:Type} {L:PL} {place:Str} {f:Unit→Rds × Rs β} (h:¬ bO place (aF L (aN place))=0):aV (b7 L place ()) f=([(aN place,false)],.err (bO place (aF L (aN place)))):=by
 simp only [b7,h,not_false_eq_true,if_true];rfl
structure KL (L:PL):Prop where
 so:aU ltB L
 lk:jh L
 da:∀ n,(aF L n).l.length≤4000000
def Hn (fP:FuncId) (o:Oid) (N:List Oid):Pts→(Oid→ah)→(Oid→ah)→Prop
 | [],F,F'=>F=F'
 | q::l,F,F'=>∃ F1,(∀ p,p.mono=false→aW p N→aj Tryz.prog fP [.ptr o 0,.str q.1,q.2.av] (Oid.under p) ⟨bk (N,F),.tuple [],sb N F1⟩)∧Hn fP o N l F1 F'
abbrev PP (st:Oid) (N:List Oid):=Hn 23 st N
abbrev PR (r:Oid) (M:List Oid):=Hn 46 r M
section
variable {pp st:Oid} {N:List Oid} {F F1 F2:Oid→ah} {L:PL} (hK:KL L) {cwd:Str} (hc:cwd.length≤1000000) (um:Int) (hpN:pp ∉ N) {p:Oid} (hp:p.mono=false) (hpp:¬ Oid.under p pp) (hO:aW p N)
include hK hc hpN hp hpp hO
theorem fB (path:Str) (hpath:path.length≤140737488355328) (fol:Bool) (hA:RP st N L (bS L cwd path fol).1 F F1) :
  dy 107 [.ptr pp 0,.str path,.bool fol] (Oid.under p) ((pp,prC st cwd um)::bk (N,F)) (fdR (bS L cwd path fol).2) (sb N F1):=by
 have hf:=fun F' h p hp hpp hO=>kX (pp:=pp) (st:=st) (N:=N) (F:=F) (F':=F') hK.so hK.lk hK.da path cwd um fol hpN hc hpath h p hp hpp hO
 unfold bS at hA ⊢
 generalize findF L cwd path fol=y at hf hA ⊢
 obtain ⟨rd,r⟩:=y
 unfold prC at hf ⊢
 cases r with
 | err e =>
  have hf':=hf _ hA
  refine gB (n:=23) (rs:=[.tmp 6,.cell 7 56]) Tryz.func107 rfl rfl (by decide) rfl rfl rfl ?_;rintro x rfl hrd hng
  rw [aB]
  refine kr0 ?_
  refine ao nmd [] hng (by kernel_rfl) fun hf C S K hC1 hC hS hK=>?_;simp (disch:=first|omega|assumption) only [go_sem,Oid.ab hpp,Oid.aa hpp,hpN,hO]
  refine hC _ _ _ (dy.pn (hf' _ (ar rfl hp) (fun h=>hpp (Oid.ae h)) (hO.sub _ _)) rfl) (by simp only [List.mem_cons,forall_eq_or_imp];exact ⟨by simp (disch:=first|omega|assumption) only [go_sem,Oid.ab hpp,Oid.aa hpp,hpN,hO],(by first|exact nbu _|exact nbA (by simp [hpN,hO.mem]) _)⟩) (fun _ _ h=>h.elim) ?_
  rintro _ _ ⟨rfl,rfl⟩
  exact cC rfl (iL ks0 (by first|exact nbu _|exact nbA (by simp [hpN,hO.mem]) _))
 | go a =>
  obtain ⟨F0,hA1,hA2⟩:=aZ hA
  obtain rfl:F0=F1:=hA2
  have hf':=hf _ hA1
  obtain ⟨pl,ek,em,el⟩:=a
  simp only [aV,fdR,Bits.av] at hf' ⊢
  refine gB (n:=23) (rs:=[.tmp 6,.cell 7 56]) Tryz.func107 rfl rfl (by decide) rfl rfl rfl ?_;rintro x rfl hrd hng
  rw [aB]
  refine kr0 ?_
  refine kr1 hf' ?_
  by_cases c1:ek=0
  ·refine ao nmd [] hng (by kernel_rfl) fun hf C S K hC1 hC hS hK=>?_;simp (disch:=first|omega|assumption) only [go_sem,Oid.ab hpp,Oid.aa hpp,hpN,hO,c1,decide_true,decide_false,ne_eq,not_true_eq_false,not_false_eq_true]
   refine hC _ _ _ (bl 10 _) (fun _ h=>by cases h) (fun _ _ h=>h.elim) ?_
   rintro _ _ ⟨rfl,rfl⟩
   exact cC (by simp only [c1,if_true]) (iL (by show _=some _;simp (disch:=first|omega|assumption) only [go_sem,Oid.ab hpp,Oid.aa hpp,hpN,hO]) (by first|exact nbu _|exact nbA (by simp [hpN,hO.mem]) _))
  ·refine kr .o c1 (cq (bd 10 _) trivial) ?_
   refine kd (.d [] [] [6,7]) trivial trivial ?_
   refine aA (rb (v:=.tuple [.str pl,.agg [.int .i64 ek,.int .i64 em,.str el]]) ks0 (by simp only [c1,if_false]) (iL (by show _=some _;simp (disch:=first|omega|assumption) only [go_sem,Oid.ab hpp,Oid.aa hpp,hpN,hO]) (by first|exact nbu _|exact nbA (by simp [hpN,hO.mem]) _)))
omit hK hc in
theorem ji (place:Str) (hpl:place.length≤140737488355328) (hA:RP st N L [(aN place,false)] F F1) :
  dy 43 [.ptr pp 0,.str place] (Oid.under p) ((pp,prC st cwd um)::bk (N,F)) (if bO place (aF L (aN place))=0 then .go (.tuple []) else .err (bO place (aF L (aN place)))) (sb N F1):=by
 obtain ⟨_,hA,rfl⟩:=hA
 rename_i F1
 have hA':∀ p,p.mono=false→aW p N→aj Tryz.prog 37 [.ptr st 0,.str (aN place)] (Oid.under p) ⟨bk (N,F),(aF L (aN place)).av,sb N F1⟩:=hA
 have hab:=fun p=>tc place hpl p
 generalize aF L (aN place)=B at hA' ⊢
 generalize aN place=A at hA' hab
 obtain ⟨ek,em,el⟩:=B
 simp only [Bits.av] at hA'
 unfold prC
 refine gB (n:=24) (rs:=[]) Tryz.func43 rfl rfl (by decide) rfl rfl rfl ?_;rintro x rfl hrd hng
 rw [aB]
 refine kd (.d [(3,5),(3,7),(5,7),(6,7)] [] [1,4]) trivial (cq (hab _) (cq hA' trivial)) ?_
 by_cases c1:place=[]
 ·refine ao nmd [] hng (by kernel_rfl) fun hf C S K hC1 hC hS hK=>?_;simp (disch:=first|omega|assumption) only [go_sem,Oid.ab hpp,Oid.aa hpp,hpN,hO,c1,decide_true,decide_false,ne_eq,not_true_eq_false,not_false_eq_true]
  refine hC _ _ _ (bl 18 _) (fun _ h=>by cases h) (fun _ _ h=>h.elim) ?_
  rintro _ _ ⟨rfl,rfl⟩
  exact cC (by simp [bO,c1]) (iL (by show _=some _;simp (disch:=first|omega|assumption) only [go_sem,Oid.ab hpp,Oid.aa hpp,hpN,hO]) (by first|exact nbu _|exact nbA (by simp [hpN,hO.mem]) _))
 refine kr .o c1 (cq (bd 18 _) trivial) ?_
 by_cases c2:ek=2
 case neg =>
  refine ao nmd [] hng (by kernel_rfl) fun hf C S K hC1 hC hS hK=>?_;simp (disch:=first|omega|assumption) only [go_sem,Oid.ab hpp,Oid.aa hpp,hpN,hO,c2,decide_true,decide_false,ne_eq,not_true_eq_false,not_false_eq_true]
  refine hC _ _ _ (bl 10 _) (fun _ h=>by cases h) (fun _ _ h=>h.elim) ?_
  rintro _ _ ⟨rfl,rfl⟩
  exact cC (by simp [bO,c1,c2]) (iL (by show _=some _;simp (disch:=first|omega|assumption) only [go_sem,Oid.ab hpp,Oid.aa hpp,hpN,hO]) (by first|exact nbu _|exact nbA (by simp [hpN,hO.mem]) _))
 refine kr .o c2 (cq (bd 10 _) trivial) ?_
 by_cases c3:dG em 3=3
 case neg =>
  refine ao nmd [] hng (by kernel_rfl) fun hf C S K hC1 hC hS hK=>?_;simp (disch:=first|omega|assumption) only [go_sem,Oid.ab hpp,Oid.aa hpp,hpN,hO,c3,decide_true,decide_false,ne_eq,not_true_eq_false,not_false_eq_true]
  refine hC _ _ _ (bl 18 _) (fun _ h=>by cases h) (fun _ _ h=>h.elim) ?_
  rintro _ _ ⟨rfl,rfl⟩
  exact cC (by simp [bO,c1,c2,c3]) (iL (by show _=some _;simp (disch:=first|omega|assumption) only [go_sem,Oid.ab hpp,Oid.aa hpp,hpN,hO]) (by first|exact nbu _|exact nbA (by simp [hpN,hO.mem]) _))
 refine kr .o c3 (cq (bd 18 _) trivial) ?_
 exact bV (kV (v:=.tuple []) rfl (by simp [bO,c1,c2,c3]) (iL (by show _=some _;simp (disch:=first|omega|assumption) only [go_sem,Oid.ab hpp,Oid.aa hpp,hpN,hO]) (by first|exact nbu _|exact nbA (by simp [hpN,hO.mem]) _)))
end
end Go.Proofs.YtfbnaalhioogoaaGreatDoor
namespace Go.Proofs.YtfbnaalhioogoaaGreatDoor
open Go Go.Ab
set_option maxRecDepth 20000
set_option maxHeartbeats 4000000
def rdS:Rs Str→Str
 | .err _=>[]
 | .go s=>s
def rdL:Rs (List Str)→List Str
 | .err _=>[]
 | .go l=>l
def rdB:Rs (Str × Bits)→Str × Bits
 | .err _=>([],Bits.no)
 | .go a=>a
def rdV (r:Rs Str):AV:=.tuple [.str (rdS r),.int .i64 (aD r)]
def lsV (r:Rs (List Str)):AV:=.tuple [.list 1 ((rdL r).map AV.str),.int .i64 (aD r)]
def fnV (r:Rs (Str × Bits)):AV:=.tuple [.str (rdB r).1,.agg [.int .i64 (rdB r).2.k,.int .i64 (rdB r).2.m,.str (rdB r).2.l],.int .i64 (aD r)]
def cdN (cwd:Str):Rs Str→Str
 | .err _=>cwd
 | .go a=>a
section
variable {pp st:Oid} {N:List Oid} {F F1 F2:Oid→ah} {L:PL} (hK:KL L) {cwd:Str} (hc:cwd.length≤1000000) (um:Int) (hpN:pp ∉ N) {p:Oid} (hp:p.mono=false) (hpp:¬ Oid.under p pp) (hO:aW p N)
include hK hc in
theorem cj (path:Str) (fol:Bool):∀ a,(findF L cwd path fol).2 = .go a→a.1.length≤140737488355328:=fun a h=>by
 have:=((ij hK.so hK.lk cwd path fol).2.2 a h).1;omega
include hK hc in
theorem ez (path:Str) (fol:Bool):∀ a,(bS L cwd path fol).2 = .go a→a.1.length≤140737488355328:=fun a h=>by
 have hb:=cj hK hc path fol
 unfold bS at h
 generalize findF L cwd path fol=y at hb h
 obtain ⟨rd,r⟩:=y
 cases r with
 | err e=>cases h
 | go b =>
  simp only [aV] at h
  split at h
  ·cases h
  ·cases h;exact hb _ rfl
include hK hc hpN hp hpp hO
theorem tf (path:Str) (hpath:path.length≤140737488355328) (hA:RP st N L (dn L cwd path).1 F F1) (hP:PP st N (bT (dn L cwd path).2) F1 F2) :
  aj Tryz.prog 86 [.ptr pp 0,.str path] (Oid.under p) ⟨(pp,prC st cwd um)::bk (N,F),.int .i64 (aD (dn L cwd path).2),sb N F2⟩:=by
 have hf:=fun F' h p hp hpp hO=>fB (pp:=pp) (st:=st) (N:=N) (F:=F) (F1:=F') hK hc um hpN (p:=p) hp hpp hO path hpath false h
 have hlen:=ez hK hc path false
 unfold dn at hA hP ⊢
 generalize bS L cwd path false=y at hf hlen hA hP ⊢
 obtain ⟨rd,r⟩:=y
 unfold prC at hf ⊢
 refine nV (n:=27) (rs:=[.cell 4 28]) Tryz.func86 rfl rfl (by decide) rfl rfl rfl ?_;rintro x rfl hrd hng
 rw [aB]
 refine kr0 ?_
 refine eM hng hrd rfl rfl rfl (by kernel_rfl) (show after _ _ _ _ _ _ ⟨_,_,_,[.call (.func 39) [] [.ptr (.sub 0 0 x.p) 0]]⟩ from ?_)
 (try ((first|refine zn ?_|refine ze ?_|refine zk ?_);with_reducible (constructor;repeat constructor));try refine zl ?_)
 cases r with
 | err e =>
  obtain rfl:F1=F2:=hP
  have hf':=hf _ hA
  exact kp0 trivial trivial hf'
 | go a =>
  obtain ⟨F0,hA1,hA2⟩:=aZ hA
  have hf':=hf _ hA1
  obtain ⟨pl,ek,em,el⟩:=a
  have hpl:=hlen _ rfl
  simp only [aV,fdR,Bits.av] at hf' hA2 hP hpl ⊢
  generalize hX:(if ek=2 then (([],.err 14):Rds × Rs Pts) else b7 L pl [(pl,Bits.no)])=X at hA2 hP ⊢
  refine kr1 hf' ?_
  by_cases c1:ek=2
  ·rw [if_pos c1] at hX
   subst hX
   obtain rfl:F0=F1:=hA2
   obtain rfl:F0=F2:=hP
   exact kp0 c1 trivial (bl 14 _)
  rw [if_neg c1] at hX
  subst hX
  refine kr .o c1 (cq (bd 14 _) trivial) ?_
  have hr:=fun p hp hpp hO=>ji (pp:=pp) (st:=st) (N:=N) (F:=F0) (F1:=F1) (L:=L) (cwd:=cwd) um hpN (p:=p) hp hpp hO pl hpl hA2
  simp only [b7] at hP ⊢
  generalize bO pl (aF L (aN pl))=re at hr hP ⊢
  unfold prC at hr
  by_cases c2:re=0
  case neg =>
   rw [if_pos c2] at hP ⊢
   simp only [if_neg c2] at hr
   obtain rfl:F1=F2:=hP
   exact kp0 trivial trivial hr
  rw [if_neg (fun h=>h c2)] at hP ⊢
  simp only [if_pos c2] at hr
  obtain ⟨_,hput,rfl⟩:=hP
  simp only [Bits.av,Bits.no] at hput
  refine kr1 hr ?_
  refine kr1 hput ?_
  refine kw0 ?_
  exact kz0
end
end Go.Proofs.YtfbnaalhioogoaaGreatDoor
namespace Go.Proofs.YtfbnaalhioogoaaGreatDoor
open Go Go.Ab
set_option maxRecDepth 20000
set_option maxHeartbeats 4000000
section
variable {pp st:Oid} {N:List Oid} {F F1 F2:Oid→ah} {L:PL} (hK:KL L) {cwd:Str} (hc:cwd.length≤1000000) (um:Int) (hpN:pp ∉ N) {p:Oid} (hp:p.mono=false) (hpp:¬ Oid.under p pp) (hO:aW p N)
include hK hc hpN hp hpp hO
theorem rj (path:Str) (hpath:path.length≤140737488355328) (hA:RP st N L (cL L cwd path).1 F F1) :
  aj Tryz.prog 38 [.ptr pp 0,.str path] (Oid.under p) ⟨(pp,prC st cwd um)::bk (N,F),rdV (cL L cwd path).2,sb N F1⟩:=by
 have hf:=fun F' h p hp hpp hO=>fB (pp:=pp) (st:=st) (N:=N) (F:=F) (F1:=F') hK hc um hpN (p:=p) hp hpp hO path hpath true h
 have hlen:=ez hK hc path true
 unfold cL at hA ⊢
 generalize bS L cwd path true=y at hf hlen hA ⊢
 obtain ⟨rd,r⟩:=y
 unfold prC at hf ⊢
 refine nV (n:=25) (rs:=[.tmp 4,.cell 5 28]) Tryz.func38 rfl rfl (by decide) rfl rfl rfl ?_;rintro x rfl hrd hng
 rw [aB]
 refine kr0 ?_
 refine eM hng hrd rfl rfl rfl (by kernel_rfl) (show after _ _ _ _ _ _ ⟨_,_,_,[.call (.func 39) [] [.ptr (.sub 0 1 x.p) 0]]⟩ from ?_)
 (try ((first|refine zn ?_|refine ze ?_|refine zk ?_);with_reducible (constructor;repeat constructor));try refine zl ?_)
 cases r with
 | err e =>
  have hf':=hf _ hA
  exact kp1 trivial trivial hf'
 | go a =>
  obtain ⟨F0,hA1,hA2⟩:=aZ hA
  have hf':=hf _ hA1
  obtain ⟨pl,ek,em,el⟩:=a
  have hpl:=hlen _ rfl
  simp only [bG,fdR,Bits.av] at hf' hA2 hpl ⊢
  generalize hX:((if ek=2 then .err 14 else if dG em 4=0 then .err 18 else .go el):Rs Str)=X at ⊢
  refine kr1 hf' ?_
  obtain rfl:F0=F1:=hA2
  have hA2:F0=F0:=rfl
  by_cases c1:ek=2
  ·rw [if_pos c1] at hX
   subst hX
   exact kp1 c1 trivial (bl 14 _)
  rw [if_neg c1] at hX
  refine kr .o c1 (cq (bd 14 _) trivial) ?_
  by_cases c2:dG em 4=0
  ·rw [if_pos c2] at hX
   subst hX
   exact kp1 c2 trivial (bl 18 _)
  rw [if_neg c2] at hX
  subst hX
  refine kr .o c2 (cq (bd 18 _) trivial) ?_
  refine kw0 ?_
  exact kz1
theorem uL (path:Str) (hpath:path.length≤140737488355328) (hA:RP st N L (dH L cwd path).1 F F1) :
  aj Tryz.prog 139 [.ptr pp 0,.str path] (Oid.under p) ⟨(pp,prC st cwd um)::bk (N,F),rdV (dH L cwd path).2,sb N F1⟩:=by
 have hf:=fun F' h p hp hpp hO=>fB (pp:=pp) (st:=st) (N:=N) (F:=F) (F1:=F') hK hc um hpN (p:=p) hp hpp hO path hpath false h
 have hlen:=ez hK hc path false
 unfold dH at hA ⊢
 generalize bS L cwd path false=y at hf hlen hA ⊢
 obtain ⟨rd,r⟩:=y
 unfold prC at hf ⊢
 refine nV (n:=20) (rs:=[.tmp 4,.cell 5 28]) Tryz.func139 rfl rfl (by decide) rfl rfl rfl ?_;rintro x rfl hrd hng
 rw [aB]
 refine kr0 ?_
 refine eM hng hrd rfl rfl rfl (by kernel_rfl) (show after _ _ _ _ _ _ ⟨_,_,_,[.call (.func 39) [] [.ptr (.sub 0 1 x.p) 0]]⟩ from ?_)
 (try ((first|refine zn ?_|refine ze ?_|refine zk ?_);with_reducible (constructor;repeat constructor));try refine zl ?_)
 cases r with
 | err e =>
  have hf':=hf _ hA
  exact kp1 trivial trivial hf'
 | go a =>
  obtain ⟨F0,hA1,hA2⟩:=aZ hA
  have hf':=hf _ hA1
  obtain ⟨pl,ek,em,el⟩:=a
  have hpl:=hlen _ rfl
  simp only [bG,fdR,Bits.av] at hf' hA2 hpl ⊢
  generalize hX:(if ¬ ek=3 then .err 19 else .go el:Rs Str)=X at ⊢
  refine kr1 hf' ?_
  obtain rfl:F0=F1:=hA2
  have hA2:F0=F0:=rfl
  by_cases c1:ek=3
  case neg =>
   rw [if_pos c1] at hX
   subst hX
   exact kp1 c1 trivial (bl 19 _)
  rw [if_neg (fun h=>h c1)] at hX
  subst hX
  refine kr .o c1 (cq (bd 19 _) trivial) ?_
  refine kw0 ?_
  exact kz1
theorem Ho (path:Str) (hpath:path.length≤140737488355328) (hA:RP st N L (iK L cwd path).1 F F1) :
  aj Tryz.prog 136 [.ptr pp 0,.str path] (Oid.under p) ⟨(pp,prC st cwd um)::bk (N,F),lsV (iK L cwd path).2,sb N F1⟩:=by
 have hf:=fun F' h p hp hpp hO=>fB (pp:=pp) (st:=st) (N:=N) (F:=F) (F1:=F') hK hc um hpN (p:=p) hp hpp hO path hpath true h
 have hlen:=ez hK hc path true
 unfold iK at hA ⊢
 generalize bS L cwd path true=y at hf hlen hA ⊢
 obtain ⟨rd,r⟩:=y
 unfold prC at hf ⊢
 refine nV (n:=29) (rs:=[.tmp 4,.cell 5 28]) Tryz.func136 rfl rfl (by decide) rfl rfl rfl ?_;rintro x rfl hrd hng
 rw [aB]
 refine kr0 ?_
 refine ga 4 1 rfl ?_
 refine eM hng hrd rfl rfl rfl (by kernel_rfl) (show after _ _ _ _ _ _ ⟨_,_,_,[.call (.func 39) [] [.ptr (.sub 0 1 x.p) 0]]⟩ from ?_)
 (try ((first|refine zn ?_|refine ze ?_|refine zk ?_);with_reducible (constructor;repeat constructor));try refine zl ?_)
 cases r with
 | err e =>
  have hf':=hf _ hA
  exact kp1 trivial trivial hf'
 | go a =>
  obtain ⟨F0,hA1,hA2⟩:=aZ hA
  have hf':=hf _ hA1
  obtain ⟨pl,ek,em,el⟩:=a
  have hpl:=hlen _ rfl
  simp only [bG,fdR,Bits.av] at hf' hA2 hpl ⊢
  generalize hX:(if ¬ ek=2 then (([],.err 15):Rds × Rs (List Str)) else if dG em 4=0 then ([],.err 18) else ([(pl,true)],.go (aP L pl)))=X at hA2 ⊢
  refine kr1 hf' ?_
  by_cases c1:ek=2
  case neg =>
   rw [if_pos c1] at hX
   subst hX
   obtain rfl:F0=F1:=hA2
   exact kp1 c1 trivial (bl 15 _)
  rw [if_neg (fun h=>h c1)] at hX
  refine kr .o c1 (cq (bd 15 _) trivial) ?_
  by_cases c2:dG em 4=0
  ·rw [if_pos c2] at hX
   subst hX
   obtain rfl:F0=F1:=hA2
   exact kp1 c2 trivial (bl 18 _)
  rw [if_neg c2] at hX
  subst hX
  refine kr .o c2 (cq (bd 18 _) trivial) ?_
  obtain ⟨_,hnm,rfl⟩:=hA2
  rename_i F1
  have hnm':∀ p,p.mono=false→aW p N→aj Tryz.prog 171 [.ptr st 0,.str pl] (Oid.under p) ⟨bk (N,F0),.list 1 ((aP L pl).map AV.str),sb N F1⟩:=hnm
  generalize aP L pl=NL at hnm' ⊢
  refine kr1 hnm' ?_
  refine kw0 ?_
  exact kz1
theorem E2 (path:Str) (hpath:path.length≤140737488355328) (fol:Bool) (hA:RP st N L (findF L cwd path fol).1 F F1) :
  aj Tryz.prog 135 [.ptr pp 0,.str path,.bool fol] (Oid.under p) ⟨(pp,prC st cwd um)::bk (N,F),fnV (findF L cwd path fol).2,sb N F1⟩:=by
 have hf:=fun F' h p hp hpp hO=>kX (pp:=pp) (st:=st) (N:=N) (F:=F) (F':=F') hK.so hK.lk hK.da path cwd um fol hpN hc hpath h p hp hpp hO
 have hlen:=cj hK hc path fol
 generalize findF L cwd path fol=y at hf hlen hA ⊢
 obtain ⟨rd,r⟩:=y
 unfold prC at hf ⊢
 refine nV (n:=18) (rs:=[.tmp 6,.cell 7 56,.cell 8 28]) Tryz.func135 rfl rfl (by decide) rfl rfl rfl ?_;rintro x rfl hrd hng
 rw [aB]
 refine kr0 ?_
 refine eM hng hrd rfl rfl rfl (by kernel_rfl) (show after _ _ _ _ _ _ ⟨_,_,_,[.call (.func 39) [] [.ptr (.sub 0 2 x.p) 0]]⟩ from ?_)
 (try ((first|refine zn ?_|refine ze ?_|refine zk ?_);with_reducible (constructor;repeat constructor));try refine zl ?_)
 cases r with
 | err e =>
  have hf':=hf _ hA
  refine ao nmd [] hng (by kernel_rfl) fun hf C S K hC1 hC hS hK=>?_;simp (disch:=first|omega|assumption) only [go_sem,Oid.ab hpp,Oid.aa hpp,hpN,hO]
  refine hC _ _ _ (dy.pn (hf' _ (ar rfl hp) (fun h=>hpp (Oid.ae h)) (hO.sub _ _)) rfl) (by simp only [List.mem_cons,forall_eq_or_imp];exact ⟨by simp (disch:=first|omega|assumption) only [go_sem,Oid.ab hpp,Oid.aa hpp,hpN,hO],(by first|exact nbu _|exact nbA (by simp [hpN,hO.mem]) _)⟩) (fun _ _ h=>h.elim) ?_
  rintro _ _ ⟨rfl,rfl⟩
  simp only [fnV,rdB,Bits.no]
  exact kx2
 | go a =>
  have hf':=hf _ hA
  obtain ⟨pl,ek,em,el⟩:=a
  simp only [fdR,Bits.av] at hf'
  refine kr1 hf' ?_
  refine kd (.d [] [] [0,6,7,8]) trivial trivial ?_
  refine kw0 ?_
  exact kz2
end
end Go.Proofs.YtfbnaalhioogoaaGreatDoor
namespace Go.Proofs.YtfbnaalhioogoaaGreatDoor
open Go Go.Ab
set_option maxRecDepth 20000
set_option maxHeartbeats 4000000
section
variable {pp st:Oid} {N:List Oid} {F F1 F2:Oid→ah} {L:PL} (hK:KL L) {cwd:Str} (hc:cwd.length≤1000000) (um:Int) (hpN:pp ∉ N) {p:Oid} (hp:p.mono=false) (hpp:¬ Oid.under p pp) (hO:aW p N)
include hK hc hpN hp hpp hO
theorem Bv (path:Str) (hpath:path.length≤140737488355328) (e:Bits) (hA:RP st N L (eJ L cwd path e).1 F F1) (hP:PP st N (bT (eJ L cwd path e).2) F1 F2) :
  aj Tryz.prog 169 [.ptr pp 0,.str path,e.av] (Oid.under p) ⟨(pp,prC st cwd um)::bk (N,F),.int .i64 (aD (eJ L cwd path e).2),sb N F2⟩:=by
 have hf:=fun F' h p hp hpp hO=>kX (pp:=pp) (st:=st) (N:=N) (F:=F) (F':=F') hK.so hK.lk hK.da path cwd um false hpN hc hpath h p hp hpp hO
 have hlen:=cj hK hc path false
 obtain ⟨ak,am,al⟩:=e
 unfold eJ at hA hP ⊢
 generalize findF L cwd path false=y at hf hlen hA hP ⊢
 obtain ⟨rd,r⟩:=y
 unfold prC at hf ⊢
 simp only [Bits.av]
 refine nV (n:=29) (rs:=[.cell 6 28]) Tryz.func169 rfl rfl (by decide) rfl rfl rfl ?_;rintro x rfl hrd hng
 rw [aB]
 refine kr0 ?_
 refine eM hng hrd rfl rfl rfl (by kernel_rfl) (show after _ _ _ _ _ _ ⟨_,_,_,[.call (.func 39) [] [.ptr (.sub 0 1 x.p) 0]]⟩ from ?_)
 (try ((first|refine zn ?_|refine ze ?_|refine zk ?_);with_reducible (constructor;repeat constructor));try refine zl ?_)
 cases r with
 | err e =>
  obtain rfl:F1=F2:=hP
  have hf':=hf _ hA
  exact kp1 trivial trivial hf'
 | go a =>
  obtain ⟨F0,hA1,hA2⟩:=aZ hA
  have hf':=hf _ hA1
  obtain ⟨pl,ek,em,el⟩:=a
  have hpl:=hlen _ rfl
  simp only [bG,fdR,Bits.av] at hf' hA2 hP hpl ⊢
  generalize hX:(if ¬ ek=0 then (([],.err 11):Rds × Rs Pts) else b7 L pl [(pl,⟨ak,am,al⟩)])=X at hA2 hP ⊢
  refine kr1 hf' ?_
  by_cases c1:ek=0
  case neg =>
   rw [if_pos c1] at hX
   subst hX
   obtain rfl:F0=F1:=hA2
   obtain rfl:F0=F2:=hP
   exact kp1 c1 trivial (bl 11 _)
  rw [if_neg (fun h=>h c1)] at hX
  subst hX
  refine kr .o c1 (cq (bd 11 _) trivial) ?_
  have hr:=fun p hp hpp hO=>ji (pp:=pp) (st:=st) (N:=N) (F:=F0) (F1:=F1) (L:=L) (cwd:=cwd) um hpN (p:=p) hp hpp hO pl hpl hA2
  simp only [b7] at hP ⊢
  generalize bO pl (aF L (aN pl))=re at hr hP ⊢
  unfold prC at hr
  by_cases c2:re=0
  case neg =>
   rw [if_pos c2] at hP ⊢
   simp only [if_neg c2] at hr
   obtain rfl:F1=F2:=hP
   exact kp1 trivial trivial hr
  rw [if_neg (fun h=>h c2)] at hP ⊢
  simp only [if_pos c2] at hr
  obtain ⟨_,hput,rfl⟩:=hP
  simp only [Bits.av] at hput
  refine kr1 hr ?_
  refine kd (.d [] [] [0,6]) trivial (cq hput trivial) ?_
  refine kw0 ?_
  exact kz1
theorem v7 (path:Str) (hpath:path.length≤140737488355328) (mode:Int) (hA:RP st N L (bM L cwd path mode).1 F F1) (hP:PP st N (bT (bM L cwd path mode).2) F1 F2) :
  aj Tryz.prog 92 [.ptr pp 0,.str path,.int .i64 mode] (Oid.under p) ⟨(pp,prC st cwd um)::bk (N,F),.int .i64 (aD (bM L cwd path mode).2),sb N F2⟩:=by
 have hf:=fun F' h p hp hpp hO=>fB (pp:=pp) (st:=st) (N:=N) (F:=F) (F1:=F') hK hc um hpN (p:=p) hp hpp hO path hpath true h
 have hlen:=ez hK hc path true
 unfold bM at hA hP ⊢
 generalize bS L cwd path true=y at hf hlen hA hP ⊢
 obtain ⟨rd,r⟩:=y
 unfold prC at hf ⊢
 refine nV (n:=34) (rs:=[.cell 6 28]) Tryz.func92 rfl rfl (by decide) rfl rfl rfl ?_;rintro x rfl hrd hng
 rw [aB]
 refine kr0 ?_
 refine eM hng hrd rfl rfl rfl (by kernel_rfl) (show after _ _ _ _ _ _ ⟨_,_,_,[.call (.func 39) [] [.ptr (.sub 0 0 x.p) 0]]⟩ from ?_)
 (try ((first|refine zn ?_|refine ze ?_|refine zk ?_);with_reducible (constructor;repeat constructor));try refine zl ?_)
 cases r with
 | err e =>
  obtain rfl:F1=F2:=hP
  have hf':=hf _ hA
  exact kp0 trivial trivial hf'
 | go a =>
  obtain ⟨F0,hA1,hA2⟩:=aZ hA
  have hf':=hf _ hA1
  obtain ⟨pl,ek,em,el⟩:=a
  have hpl:=hlen _ rfl
  simp only [bG,fdR,Bits.av] at hf' hA2 hP hpl ⊢
  generalize hX:(if ¬ (0≤mode∧mode≤7) then .err 1 else if pl=[] then .err 18 else .go [(pl,⟨ek,mode,el⟩)]:Rs Pts)=X at hP ⊢
  refine kr1 hf' ?_
  obtain rfl:F0=F1:=hA2
  have hA2:F0=F0:=rfl
  by_cases c1:0≤mode∧mode≤7
  case neg =>
   rw [if_pos c1] at hX
   subst hX
   obtain rfl:F0=F2:=hP
   by_cases c0:0≤mode
   ·have c7:¬ mode≤7:=fun h=>c1 ⟨c0,h⟩
    refine ao nmd [(2,17)] hng (by kernel_rfl) fun hf C S K hC1 hC hS hK=>?_;simp (disch:=first|omega|assumption) only [go_sem,Oid.ab hpp,Oid.aa hpp,hpN,hO,c0,c7,decide_true,decide_false,ne_eq,not_true_eq_false,not_false_eq_true]
    refine hC _ _ _ (bl 1 _) (fun _ h=>by cases h) (fun _ _ h=>h.elim) ?_
    rintro _ _ ⟨rfl,rfl⟩
    exact kx0
   ·refine ao nmd [(2,17)] hng (by kernel_rfl) fun hf C S K hC1 hC hS hK=>?_;simp (disch:=first|omega|assumption) only [go_sem,Oid.ab hpp,Oid.aa hpp,hpN,hO,c0,decide_true,decide_false,ne_eq,not_true_eq_false,not_false_eq_true]
    refine hC _ _ _ (bl 1 _) (fun _ h=>by cases h) (fun _ _ h=>h.elim) ?_
    rintro _ _ ⟨rfl,rfl⟩
    exact kx0
  rw [if_neg (fun h=>h c1)] at hX
  obtain ⟨c0,c7⟩:=c1
  refine kr (.d [] [(2,17)] []) (ai c0 c7) (cq (bd 1 _) trivial) ?_
  by_cases c2:pl=[]
  ·rw [if_pos c2] at hX
   subst hX
   obtain rfl:F0=F2:=hP
   exact kp0 c2 trivial (bl 18 _)
  rw [if_neg c2] at hX
  subst hX
  refine kr .o c2 (cq (bd 18 _) trivial) ?_
  obtain ⟨_,hput,rfl⟩:=hP
  simp only [Bits.av] at hput
  refine kr0 ?_
  refine kd (.d [] [] [0,6]) trivial (cq hput trivial) ?_
  refine kw0 ?_
  exact kz0
theorem v8 (path:Str) (hpath:path.length≤140737488355328) (hA:RP st N L (eL L cwd path).1 F F1) (hP:PP st N (bT (eL L cwd path).2) F1 F2) :
  aj Tryz.prog 88 [.ptr pp 0,.str path] (Oid.under p) ⟨(pp,prC st cwd um)::bk (N,F),.int .i64 (aD (eL L cwd path).2),sb N F2⟩:=by
 have hf:=fun F' h p hp hpp hO=>fB (pp:=pp) (st:=st) (N:=N) (F:=F) (F1:=F') hK hc um hpN (p:=p) hp hpp hO path hpath false h
 have hlen:=ez hK hc path false
 unfold eL at hA hP ⊢
 generalize bS L cwd path false=y at hf hlen hA hP ⊢
 obtain ⟨rd,r⟩:=y
 unfold prC at hf ⊢
 refine nV (n:=47) (rs:=[.cell 4 28]) Tryz.func88 rfl rfl (by decide) rfl rfl rfl ?_;rintro x rfl hrd hng
 rw [aB]
 refine kr0 ?_
 refine eM hng hrd rfl rfl rfl (by kernel_rfl) (show after _ _ _ _ _ _ ⟨_,_,_,[.call (.func 39) [] [.ptr (.sub 0 0 x.p) 0]]⟩ from ?_)
 (try ((first|refine zn ?_|refine ze ?_|refine zk ?_);with_reducible (constructor;repeat constructor));try refine zl ?_)
 cases r with
 | err e =>
  obtain rfl:F1=F2:=hP
  have hf':=hf _ hA
  exact kp0 trivial trivial hf'
 | go a =>
  obtain ⟨F0,hA1,hA2⟩:=aZ hA
  have hf':=hf _ hA1
  obtain ⟨pl,ek,em,el⟩:=a
  have hpl:=hlen _ rfl
  simp only [bG,fdR,Bits.av] at hf' hA2 hP hpl ⊢
  generalize hX:(if ¬ ek=2 then (([],.err 15):Rds × Rs Pts) else if pl=cwd∨pl=[] then ([],.err 18) else aV ([(pl,true)],if ¬ aP L pl=[] then .err 16 else .go ()) fun _=>b7 L pl [(pl,Bits.no)])=X at hA2 hP ⊢
  refine kr1 hf' ?_
  by_cases c1:ek=2
  case neg =>
   rw [if_pos c1] at hX
   subst hX
   obtain rfl:F0=F1:=hA2
   obtain rfl:F0=F2:=hP
   exact kp0 c1 trivial (bl 15 _)
  rw [if_neg (fun h=>h c1)] at hX
  refine kr .o c1 (cq (bd 15 _) trivial) ?_
  by_cases c2:pl=cwd∨pl=[]
  ·rw [if_pos c2] at hX
   subst hX
   obtain rfl:F0=F1:=hA2
   obtain rfl:F0=F2:=hP
   by_cases c3:pl=cwd
   ·refine ao nmd [(6,23)] hng (by kernel_rfl) fun hf C S K hC1 hC hS hK=>?_;simp (disch:=first|omega|assumption) only [go_sem,Oid.ab hpp,Oid.aa hpp,hpN,hO,c3,decide_true,decide_false,ne_eq,not_true_eq_false,not_false_eq_true]
    refine hC _ _ _ (bl 18 _) (fun _ h=>by cases h) (fun _ _ h=>h.elim) ?_
    rintro _ _ ⟨rfl,rfl⟩
    exact kx0
   ·have c4:pl=[]:=c2.resolve_left c3
    subst c4
    refine ao nmd [(6,23)] hng (by kernel_rfl) fun hf C S K hC1 hC hS hK=>?_;simp (disch:=first|omega|assumption) only [go_sem,Oid.ab hpp,Oid.aa hpp,hpN,hO,c3,decide_true,decide_false,ne_eq,not_true_eq_false,not_false_eq_true]
    refine hC _ _ _ (bl 18 _) (fun _ h=>by cases h) (fun _ _ h=>h.elim) ?_
    rintro _ _ ⟨rfl,rfl⟩
    exact kx0
  rw [if_neg c2] at hX
  rw [not_or] at c2
  obtain ⟨c3,c4⟩:=c2
  refine ao nmd [(6,23)] hng (by kernel_rfl) fun hf C S K hC1 hC hS hK=>?_;simp (disch:=first|omega|assumption) only [go_sem,Oid.ab hpp,Oid.aa hpp,hpN,hO,c3,c4,decide_true,decide_false,ne_eq,not_true_eq_false,not_false_eq_true]
  refine hC1 _ (bd 18 _) (fun _ h=>by cases h) ?_
  simp (disch:=first|omega|assumption) only [go_sem,Oid.ab hpp,Oid.aa hpp,hpN,hO]
  refine hK ?_;clear hK hS hC hC1 K S C hf
  (try ((first|refine zn ?_|refine ze ?_|refine zk ?_);with_reducible (constructor;repeat constructor));try refine zl ?_)
  subst hX
  have hnms:∃ F3,(∀ p,p.mono=false→aW p N→aj Tryz.prog 171 [.ptr st 0,.str pl] (Oid.under p) ⟨bk (N,F0),.list 1 ((aP L pl).map AV.str),sb N F3⟩) ∧
    match (if ¬ aP L pl=[] then .err 16 else .go ():Rs Unit) with
    | .err e=>F3=F1∧(aV ([(pl,true)],(if ¬ aP L pl=[] then .err 16 else .go ():Rs Unit)) fun _=>b7 L pl [(pl,Bits.no)]).2 = .err e
    | .go _=>RP st N L [(aN pl,false)] F3 F1∧(aV ([(pl,true)],(if ¬ aP L pl=[] then .err 16 else .go ():Rs Unit)) fun _=>b7 L pl [(pl,Bits.no)]).2=(b7 L pl [(pl,Bits.no)]).2:=by
   generalize (if ¬ aP L pl=[] then .err 16 else .go ():Rs Unit)=z at hA2 ⊢
   cases z with
   | err e=>obtain ⟨F3,k1,k2⟩:=hA2;exact ⟨F3,k1,k2,rfl⟩
   | go u=>obtain ⟨F3,k1,k2⟩:=hA2;exact ⟨F3,k1,k2,rfl⟩
  obtain ⟨F3,hnm,hz⟩:=hnms
  generalize aP L pl=NL at hnm hz hP ⊢
  by_cases c5:NL=[]
  case neg =>
   rw [if_pos c5] at hz
   obtain ⟨rfl,hz⟩:=hz
   rw [if_pos c5] at hP ⊢
   rw [hz] at hP ⊢
   obtain rfl:F3=F2:=hP
   have e5:¬ (NL.length:Int)=0:=fun h=>c5 (List.eq_nil_of_length_eq_zero (by omega))
   refine ao nmd [] hng (by kernel_rfl) fun hf C S K hC1 hC hS hK=>?_;simp (disch:=first|omega|assumption) only [go_sem,Oid.ab hpp,Oid.aa hpp,hpN,hO,List.length_map]
   refine hC1 _ (hnm _ (ar rfl hp) (hO.sub _ _)) (by first|exact nbu _|exact nbA (by simp [hpN,hO.mem]) _) ?_
   simp (disch:=first|omega|assumption) only [go_sem,Oid.ab hpp,Oid.aa hpp,hpN,hO,List.length_map,e5,decide_true,decide_false,ne_eq,not_true_eq_false,not_false_eq_true]
   refine hC _ _ _ (bl 16 _) (fun _ h=>by cases h) (fun _ _ h=>h.elim) ?_
   rintro _ _ ⟨rfl,rfl⟩
   exact kx0
  rw [if_neg (fun h=>h c5)] at hz
  obtain ⟨hA3,hz⟩:=hz
  rw [if_neg (fun h=>h c5)] at hP ⊢
  rw [hz] at hP ⊢
  subst c5
  refine kr .o trivial (cq hnm (cq (bd 16 _) trivial)) ?_
  have hr:=fun p hp hpp hO=>ji (pp:=pp) (st:=st) (N:=N) (F:=F3) (F1:=F1) (L:=L) (cwd:=cwd) um hpN (p:=p) hp hpp hO pl hpl hA3
  simp only [b7] at hP ⊢
  generalize bO pl (aF L (aN pl))=re at hr hP ⊢
  unfold prC at hr
  by_cases c6:re=0
  case neg =>
   rw [if_pos c6] at hP ⊢
   simp only [if_neg c6] at hr
   obtain rfl:F1=F2:=hP
   exact kp0 trivial trivial hr
  rw [if_neg (fun h=>h c6)] at hP ⊢
  simp only [if_pos c6] at hr
  obtain ⟨_,hput,rfl⟩:=hP
  simp only [Bits.av,Bits.no] at hput
  refine kr1 hr ?_
  refine kr1 hput ?_
  refine kw0 ?_
  exact kz0
end
end Go.Proofs.YtfbnaalhioogoaaGreatDoor
namespace Go.Proofs.YtfbnaalhioogoaaGreatDoor
open Go Go.Ab
set_option maxRecDepth 20000
set_option maxHeartbeats 4000000
section
variable {pp st:Oid} {N:List Oid} {F F1 F2:Oid→ah} {L:PL} (hK:KL L) {cwd:Str} (hc:cwd.length≤1000000) (um:Int) (hpN:pp ∉ N) {p:Oid} (hp:p.mono=false) (hpp:¬ Oid.under p pp) (hO:aW p N)
include hK hc hpN hp hpp hO
theorem Bw (path:Str) (hpath:path.length≤140737488355328) (to':Str) (hto:to'.length≤140737488355328) (hA:RP st N L (dQ L cwd path to').1 F F1) (hP:PP st N (bT (dQ L cwd path to').2) F1 F2) :
  aj Tryz.prog 90 [.ptr pp 0,.str path,.str to'] (Oid.under p) ⟨(pp,prC st cwd um)::bk (N,F),.int .i64 (aD (dQ L cwd path to').2),sb N F2⟩:=by
 have hf:=fun F' h p hp hpp hO=>fB (pp:=pp) (st:=st) (N:=N) (F:=F) (F1:=F') hK hc um hpN (p:=p) hp hpp hO path hpath false h
 have hlen:=ez hK hc path false
 have hf2:=fun F0 F' h p hp hpp hO=>kX (pp:=pp) (st:=st) (N:=N) (F:=F0) (F':=F') hK.so hK.lk hK.da to' cwd um false hpN hc hto h p hp hpp hO
 have hlen2:=cj hK hc to' false
 have hsf:=fun p=>eH to' (by omega) p
 unfold dQ at hA hP ⊢
 generalize bS L cwd path false=y at hf hlen hA hP ⊢
 obtain ⟨rd,r⟩:=y
 unfold prC at hf ⊢
 generalize findF L cwd to' false=y2 at hf2 hlen2 hA hP ⊢
 obtain ⟨rd2,r2⟩:=y2
 unfold prC at hf2
 refine nV (n:=63) (rs:=[.cell 6 28]) Tryz.func90 rfl rfl (by decide) rfl rfl rfl ?_;rintro x rfl hrd hng
 rw [aB]
 refine kr0 ?_
 refine eM hng hrd rfl rfl rfl (by kernel_rfl) (show after _ _ _ _ _ _ ⟨_,_,_,[.call (.func 39) [] [.ptr (.sub 0 0 x.p) 0]]⟩ from ?_)
 (try ((first|refine zn ?_|refine ze ?_|refine zk ?_);with_reducible (constructor;repeat constructor));try refine zl ?_)
 cases r with
 | err e =>
  obtain rfl:F1=F2:=hP
  have hf':=hf _ hA
  exact kp0 trivial trivial hf'
 | go a =>
  obtain ⟨F0,hA1,hA2⟩:=aZ hA
  have hf':=hf _ hA1
  obtain ⟨pl,ek,em,el⟩:=a
  have hpl:=hlen _ rfl
  simp only [bG,fdR,Bits.av] at hf' hA2 hP hpl ⊢
  refine kr1 hf' ?_
  by_cases c1:ek=2
  ·rw [if_pos c1] at hA2 hP ⊢
   obtain rfl:F0=F1:=hA2
   obtain rfl:F0=F2:=hP
   exact kp0 c1 trivial (bl 14 _)
  rw [if_neg c1] at hA2 hP ⊢
  refine kr .o c1 (cq (bd 14 _) trivial) ?_
  cases r2 with
  | err e =>
   obtain rfl:F1=F2:=hP
   have hf2':=hf2 _ _ hA2
   exact kp0 trivial trivial hf2'
  | go b =>
   obtain ⟨F3,hB1,hB2⟩:=aZ hA2
   have hf2':=hf2 _ _ hB1
   obtain ⟨pl2,ek2,em2,el2⟩:=b
   have hpl2:=hlen2 _ rfl
   simp only [bG,fdR,Bits.av] at hf2' hB2 hP hpl2 ⊢
   refine kr1 hf2' ?_
   by_cases c2:ek2=2
   ·rw [if_pos c2] at hB2 hP ⊢
    obtain rfl:F3=F1:=hB2
    obtain rfl:F3=F2:=hP
    exact kp0 c2 trivial (bl 14 _)
   rw [if_neg c2] at hB2 hP ⊢
   refine kr .o c2 (cq (bd 14 _) trivial) ?_
   generalize cK to' = es at hsf hB2 hP ⊢
   by_cases c3:ek2=0∧es=true
   ·rw [if_pos c3] at hB2 hP ⊢
    obtain ⟨c4,rfl⟩:=c3
    obtain rfl:F3=F1:=hB2
    obtain rfl:F3=F2:=hP
    refine ao nmd [(3,34)] hng (by kernel_rfl) fun hf C S K hC1 hC hS hK=>?_;simp (disch:=first|omega|assumption) only [go_sem,Oid.ab hpp,Oid.aa hpp,hpN,hO,c4,decide_true,decide_false,ne_eq,not_true_eq_false,not_false_eq_true]
    refine hC1 _ (hsf _) (fun _ h=>by cases h) ?_
    simp (disch:=first|omega|assumption) only [go_sem,Oid.ab hpp,Oid.aa hpp,hpN,hO,decide_true,decide_false,ne_eq,not_true_eq_false,not_false_eq_true]
    refine hC _ _ _ (bl 15 _) (fun _ h=>by cases h) (fun _ _ h=>h.elim) ?_
    rintro _ _ ⟨rfl,rfl⟩
    exact kx0
   rw [if_neg c3] at hB2 hP ⊢
   refine cz [0,6,7,8,9] (fun s'=>∃ c':Nat,s' = ⟨[(0,.ptr pp 0),(6,.ptr (.sub 0 0 x.p) 0),(7,.str pl),(8,.ptr (.sub 2 6 x.p) 0),(9,.str pl2)],Mem.blk [(pp,.cells [.ptr st 0,.str cwd,.int .i64 um]),(.sub 0 0 x.p,.cells [.int .i64 0]),(.sub 2 6 x.p,.cells [.int .i64 ek,.int .i64 em,.str el]),(.sub 4 6 x.p,.cells [.int .i64 ek2,.int .i64 em2,.str el2])] [(N,F3)],c',[.call (.func 39) [] [.ptr (.sub 0 0 x.p) 0]]⟩∧4 < c') ?_ ?_
   ·by_cases c4:ek2=0
    ·have hes:es=false:=by
      cases es with
      | false=>rfl
      | true=>exact absurd ⟨c4,rfl⟩ c3
     subst hes
     refine ao nmd [(3,34)] hng (by kernel_rfl) fun hf C S K hC1 hC hS hK=>?_;simp (disch:=first|omega|assumption) only [go_sem,Oid.ab hpp,Oid.aa hpp,hpN,hO,c4,decide_true,decide_false,ne_eq,not_true_eq_false,not_false_eq_true]
     refine hC1 _ (hsf _) (fun _ h=>by cases h) ?_
     simp (disch:=first|omega|assumption) only [go_sem,Oid.ab hpp,Oid.aa hpp,hpN,hO,decide_true,decide_false,ne_eq,not_true_eq_false,not_false_eq_true]
     refine hC1 _ (bd 15 _) (fun _ h=>by cases h) ?_
     simp (disch:=first|omega|assumption) only [go_sem,Oid.ab hpp,Oid.aa hpp,hpN,hO]
     refine hK ?_;clear hK hS hC hC1 K S C hf
     exact aL ⟨_,by rw [c4];rfl,by omega⟩
    ·refine ao nmd [(3,34)] hng (by kernel_rfl) fun hf C S K hC1 hC hS hK=>?_;simp (disch:=first|omega|assumption) only [go_sem,Oid.ab hpp,Oid.aa hpp,hpN,hO,c4,decide_true,decide_false,ne_eq,not_true_eq_false,not_false_eq_true]
     refine hC1 _ (bd 15 _) (fun _ h=>by cases h) ?_
     simp (disch:=first|omega|assumption) only [go_sem,Oid.ab hpp,Oid.aa hpp,hpN,hO]
     refine hK ?_;clear hK hS hC hC1 K S C hf
     exact aL ⟨_,rfl,by omega⟩
   rintro s' ⟨c',rfl,hc'⟩
   (try ((first|refine zn ?_|refine ze ?_|refine zk ?_);with_reducible (constructor;repeat constructor));try refine zl ?_)
   by_cases c9:bO pl (aF L (aN pl))=0
   case neg =>
    rw [fc c9] at hB2 hP ⊢
    have hr:=fun p hp hpp hO=>ji (pp:=pp) (st:=st) (N:=N) (F:=F3) (F1:=F1) (L:=L) (cwd:=cwd) um hpN (p:=p) hp hpp hO pl hpl hB2
    simp only [if_neg c9] at hr
    generalize bO pl (aF L (aN pl))=re at hr hP ⊢
    unfold prC at hr
    obtain rfl:F1=F2:=hP
    exact kp0 trivial trivial hr
   rw [e8 c9] at hB2 hP ⊢
   obtain ⟨F4,hC1',hC2'⟩:=aZ hB2
   have hr:=fun p hp hpp hO=>ji (pp:=pp) (st:=st) (N:=N) (F:=F3) (F1:=F4) (L:=L) (cwd:=cwd) um hpN (p:=p) hp hpp hO pl hpl hC1'
   simp only [if_pos c9] at hr
   unfold prC at hr
   refine kr1 hr ?_
   clear hr
   have hr:=fun p hp hpp hO=>ji (pp:=pp) (st:=st) (N:=N) (F:=F4) (F1:=F1) (L:=L) (cwd:=cwd) um hpN (p:=p) hp hpp hO pl2 hpl2 hC2'
   simp only [b7] at hP ⊢
   generalize bO pl2 (aF L (aN pl2))=re at hr hP ⊢
   unfold prC at hr
   by_cases c10:re=0
   case neg =>
    rw [if_pos c10] at hP ⊢
    simp only [if_neg c10] at hr
    obtain rfl:F1=F2:=hP
    exact kp0 trivial trivial hr
   rw [if_neg (fun h=>h c10)] at hP ⊢
   simp only [if_pos c10] at hr
   refine kr1 hr ?_
   refine kw0 ?_
   by_cases c11:pl=pl2
   ·rw [if_pos c11] at hP
    obtain rfl:F1=F2:=hP
    refine aO rfl rfl (fun hb=>?_) (fun hb=>?_)
    ·exact absurd c11 hb
    ·refine kw0 ?_
     exact kz0
   rw [if_neg c11] at hP
   obtain ⟨F5,hput1,F6,hput2,rfl⟩:=hP
   simp only [Bits.av,Bits.no] at hput1 hput2
   refine aO rfl rfl (fun hb=>?_) (fun hb=>?_)
   case refine_2=>exact absurd hb (fun h=>h c11)
   refine kr1 hput1 ?_
   refine kd (.d [] [] [0,6]) trivial (cq hput2 trivial) ?_
   refine kw0 ?_
   exact kz0
end
end Go.Proofs.YtfbnaalhioogoaaGreatDoor
namespace Go.Proofs.YtfbnaalhioogoaaGreatDoor
open Go Go.Ab
set_option maxRecDepth 20000
set_option maxHeartbeats 4000000
section
variable {pp st:Oid} {N:List Oid} {F F1 F2:Oid→ah} {L:PL} (hK:KL L) {cwd:Str} (hc:cwd.length≤1000000) (um:Int) (hpN:pp ∉ N) {p:Oid} (hp:p.mono=false) (hpp:¬ Oid.under p pp) (hO:aW p N)
include hK hc hpN hp hpp hO
theorem mA (path:Str) (hpath:path.length≤140737488355328) (data:Str) (hdata:data.length≤140737488355328) (more:Bool) (hA:RP st N L (b9 L cwd um path data more).1 F F1) (hP:PP st N (bT (b9 L cwd um path data more).2) F1 F2) :
  aj Tryz.prog 12 [.ptr pp 0,.str path,.str data,.bool more] (Oid.under p) ⟨(pp,prC st cwd um)::bk (N,F),.int .i64 (aD (b9 L cwd um path data more).2),sb N F2⟩:=by
 have hf:=fun F' h p hp hpp hO=>kX (pp:=pp) (st:=st) (N:=N) (F:=F) (F':=F') hK.so hK.lk hK.da path cwd um true hpN hc hpath h p hp hpp hO
 have hlen:=cj hK hc path true
 have hsf:=fun p=>eH path (by omega) p
 have hda:=hK.da
 have hdl:∀ a,(findF L cwd path true).2 = .go a→a.2.l.length≤4000000:=fun a h=>by
  rw [((ij hK.so hK.lk cwd path true).2.2 a h).2];exact hda _
 unfold b9 at hA hP ⊢
 generalize findF L cwd path true=y at hf hlen hdl hA hP ⊢
 obtain ⟨rd,r⟩:=y
 unfold prC at hf ⊢
 refine nV (n:=60) (rs:=[.cell 8 28]) Tryz.func12 rfl rfl (by decide) rfl rfl rfl ?_;rintro x rfl hrd hng
 rw [aB]
 refine kr0 ?_
 refine eM hng hrd rfl rfl rfl (by kernel_rfl) (show after _ _ _ _ _ _ ⟨_,_,_,[.call (.func 39) [] [.ptr (.sub 0 0 x.p) 0]]⟩ from ?_)
 (try ((first|refine zn ?_|refine ze ?_|refine zk ?_);with_reducible (constructor;repeat constructor));try refine zl ?_)
 cases r with
 | err e =>
  obtain rfl:F1=F2:=hP
  have hf':=hf _ hA
  exact kp0 trivial trivial hf'
 | go a =>
  obtain ⟨F0,hA1,hA2⟩:=aZ hA
  have hf':=hf _ hA1
  obtain ⟨pl,ek,em,el⟩:=a
  have hpl:=hlen _ rfl
  have hel:=hdl _ rfl
  simp only [bG,fdR,Bits.av] at hf' hA2 hP hpl hel ⊢
  refine kr1 hf' ?_
  by_cases c1:ek=2
  ·rw [if_pos c1] at hA2 hP ⊢
   obtain rfl:F0=F1:=hA2
   obtain rfl:F0=F2:=hP
   exact kp0 c1 trivial (bl 14 _)
  rw [if_neg c1] at hA2 hP ⊢
  refine kr .o c1 (cq (bd 14 _) trivial) ?_
  refine kw0 ?_
  refine cz [0,2,3,8,9,10] (fun s'=>∃ (c':Nat) (e':Bits),s' = ⟨[(0,.ptr pp 0),(2,.str data),(3,.bool more),(8,.ptr (.sub 0 0 x.p) 0),(9,.str pl),(10,.ptr (.sub 2 6 x.p) 0)],Mem.blk [(pp,.cells [.ptr st 0,.str cwd,.int .i64 um]),(.sub 0 0 x.p,.cells [.int .i64 0]),(.sub 2 6 x.p,.cells [.int .i64 e'.k,.int .i64 e'.m,.str e'.l])] [(N,F1)],c',[.call (.func 39) [] [.ptr (.sub 0 0 x.p) 0]]⟩∧2 < c'∧e'.l.length≤4000000 ∧
    (if ek=0 then (if cK path=true then (([],.err 14):Rds × Rs Pts) else aV (b7 L pl ()) fun _=>([],dm pl ⟨1,bJ 6 um,[]⟩ more data)) else if dG em 2=0 then ([],.err 18) else ([],dm pl ⟨ek,em,el⟩ more data)).2=dm pl e' more data) ?_ ?_
  ·refine aO rfl rfl (fun hb=>?_) (fun hb=>?_)
   ·rw [if_pos hb] at hA2 hP ⊢
    subst hb
    generalize cK path=es at hsf hA2 hP ⊢
    (try ((first|refine zn ?_|refine ze ?_|refine zk ?_);with_reducible (constructor;repeat constructor));try refine zl ?_)
    cases es with
    | true =>
     rw [if_pos rfl] at hA2 hP ⊢
     obtain rfl:F0=F1:=hA2
     obtain rfl:F0=F2:=hP
     exact kp0 trivial (cq (hsf _) trivial) (bl 14 _)
    | false =>
     rw [if_neg Bool.false_ne_true] at hA2 hP ⊢
     refine kr .o trivial (cq (hsf _) (cq (bd 14 _) trivial)) ?_
     by_cases c9:bO pl (aF L (aN pl))=0
     case neg =>
      rw [fc c9] at hA2 hP ⊢
      have hr:=fun p hp hpp hO=>ji (pp:=pp) (st:=st) (N:=N) (F:=F0) (F1:=F1) (L:=L) (cwd:=cwd) um hpN (p:=p) hp hpp hO pl hpl hA2
      simp only [if_neg c9] at hr
      generalize bO pl (aF L (aN pl))=re at hr hP ⊢
      unfold prC at hr
      obtain rfl:F1=F2:=hP
      exact kp0 trivial trivial hr
     rw [e8 c9] at hA2 hP ⊢
     obtain ⟨F4,hC1',hC2'⟩:=aZ hA2
     obtain rfl:F4=F1:=hC2'
     have hr:=fun p hp hpp hO=>ji (pp:=pp) (st:=st) (N:=N) (F:=F0) (F1:=F4) (L:=L) (cwd:=cwd) um hpN (p:=p) hp hpp hO pl hpl hC1'
     simp only [if_pos c9] at hr
     unfold prC at hr
     refine kr1 hr ?_
     refine kw0 ?_
     exact aL ⟨_,⟨1,bJ 6 um,[]⟩,rfl,by omega,by simp,rfl⟩
   ·rw [if_neg hb] at hA2 hP ⊢
    (try ((first|refine zn ?_|refine ze ?_|refine zk ?_);with_reducible (constructor;repeat constructor));try refine zl ?_)
    by_cases c2:dG em 2=0
    ·rw [if_pos c2] at hA2 hP ⊢
     obtain rfl:F0=F1:=hA2
     obtain rfl:F0=F2:=hP
     exact kp0 c2 trivial (bl 18 _)
    rw [if_neg c2] at hA2 hP ⊢
    obtain rfl:F0=F1:=hA2
    refine kr .o c2 (cq (bd 18 _) trivial) ?_
    exact aL ⟨_,⟨ek,em,el⟩,rfl,by omega,hel,rfl⟩
  rintro s' ⟨c',e',rfl,hc',hel',hres⟩
  rw [hres] at hP ⊢
  obtain ⟨k',m',l'⟩:=e'
  simp only at hel' ⊢
  unfold dm at hP ⊢
  refine kr0 ?_
  refine cz [0,2,8,9,10] (fun s'=>∃ c':Nat,s' = ⟨[(0,.ptr pp 0),(2,.str (l7 ⟨k',m',l'⟩ more data)),(8,.ptr (.sub 0 0 x.p) 0),(9,.str pl),(10,.ptr (.sub 2 6 x.p) 0)],Mem.blk [(pp,.cells [.ptr st 0,.str cwd,.int .i64 um]),(.sub 0 0 x.p,.cells [.int .i64 0]),(.sub 2 6 x.p,.cells [.int .i64 k',.int .i64 m',.str l'])] [(N,F1)],c',[.call (.func 39) [] [.ptr (.sub 0 0 x.p) 0]]⟩∧2 < c') ?_ ?_
  ·cases more with
   | true =>
    refine kw0 ?_
    exact aL ⟨_,rfl,by omega⟩
   | false =>
    refine kw0 ?_
    exact aL ⟨_,rfl,by omega⟩
  clear hc' c'
  rintro s' ⟨c',rfl,hc'⟩
  generalize l7 ⟨k',m',l'⟩ more data=D at hP ⊢
  (try ((first|refine zn ?_|refine ze ?_|refine zk ?_);with_reducible (constructor;repeat constructor));try refine zl ?_)
  by_cases c5:100000 < D.length
  ·rw [if_pos c5] at hP ⊢
   obtain rfl:F1=F2:=hP
   have e5:¬ (D.length:Int)≤100000:=by omega
   exact kp0 e5 trivial (bl 2 _)
  rw [if_neg c5] at hP ⊢
  have e5:(D.length:Int)≤100000:=by omega
  obtain ⟨_,hput,rfl⟩:=hP
  simp only [Bits.av] at hput
  refine kr .o e5 (cq (bd 2 _) trivial) ?_
  refine kr0 ?_
  refine kd (.d [] [] [0,8]) trivial (cq hput trivial) ?_
  refine kw0 ?_
  exact kz0
end
end Go.Proofs.YtfbnaalhioogoaaGreatDoor
namespace Go.Proofs.YtfbnaalhioogoaaGreatDoor
open Go Go.Ab
set_option maxRecDepth 20000
set_option maxHeartbeats 4000000
section
variable {p pp q:Oid} {o o':ah} {N:List Oid} {F G:Oid→ah} {fr:List (Nat × AV)} {m:Mem} {c:Nat} {z e:Int} {val:AV} {rs:List ResultVar}
theorem kf (hu:¬ Oid.under (.sub c 0 p) q) (hq:m q=some (.cells [.int .i64 z])) (h1:eV Tryz.prog (m.set q (some (.cells [.int .i64 e]))) fr rs=some val)
  (h3:m pp=some o') (h4:∀ x,x ∈ bk (N,G)→m x.1=some x.2) (hqp:¬ pp=q) (hqN:q ∉ N) :
  pS Tryz.prog p rs ((pp,o)::bk (N,F)) (fun v u=>v=val∧u=(pp,some o')::sb N G) (fun _ _=>False) (.panic (oP e)) ⟨fr,m,c,[.call (.func 39) [] [.ptr q 0]]⟩ :=
 ⟨_,_,_,_,rfl,kW q z _ hu,fun x hx=>by rw [List.mem_singleton.1 hx];exact hq,_,⟨e,rfl,rfl⟩,val,_,h1,⟨rfl,rfl⟩,dF (A0:=[(pp,o)]) (U:=[(pp,some o')]) (fun x hx w h=>by
  rw [List.mem_singleton.1 hx] at h ⊢
  show (m.set q _) pp=_
  simp only [Mem.set,if_neg hqp];rw [← h];exact h3) (fun x hx h=>by
  rw [List.mem_singleton.1 hx] at h
  exact absurd rfl (h _ (List.mem_singleton.2 rfl))) fun x hx=>by
  show (m.set q _) x.1=_
  simp only [Mem.set]
  rw [if_neg fun e:x.1=q=>hqN (e ▸ (bR.1 hx).1)];exact h4 x hx⟩
end
section
variable {pp st:Oid} {N:List Oid} {F F1 F2:Oid→ah} {L:PL} (hK:KL L) {cwd:Str} (hc:cwd.length≤1000000) (um:Int) (hpN:pp ∉ N) {p:Oid} (hp:p.mono=false) (hpp:¬ Oid.under p pp) (hO:aW p N)
include hK hc hpN hp hpp hO
theorem Et (path:Str) (hpath:path.length≤140737488355328) (hA:RP st N L (cF L cwd path).1 F F1) :
  aj Tryz.prog 94 [.ptr pp 0,.str path] (Oid.under p) ⟨(pp,prC st cwd um)::bk (N,F),.int .i64 (aD (cF L cwd path).2),(pp,some (prC st (cdN cwd (cF L cwd path).2) um))::sb N F1⟩:=by
 have hf:=fun F' h p hp hpp hO=>fB (pp:=pp) (st:=st) (N:=N) (F:=F) (F1:=F') hK hc um hpN (p:=p) hp hpp hO path hpath true h
 have hlen:=ez hK hc path true
 unfold cF at hA ⊢
 generalize bS L cwd path true=y at hf hlen hA ⊢
 obtain ⟨rd,r⟩:=y
 unfold prC at hf ⊢
 refine nV (n:=26) (rs:=[.cell 4 28]) Tryz.func94 rfl rfl (by decide) rfl rfl rfl ?_;rintro x rfl hrd hng
 rw [aB]
 refine kr0 ?_
 refine eM hng hrd rfl rfl rfl (by kernel_rfl) (show after _ _ _ _ _ _ ⟨_,_,_,[.call (.func 39) [] [.ptr (.sub 0 0 x.p) 0]]⟩ from ?_)
 (try ((first|refine zn ?_|refine ze ?_|refine zk ?_);with_reducible (constructor;repeat constructor));try refine zl ?_)
 cases r with
 | err e =>
  have hf':=hf _ hA
  refine ao nmd [] hng (by kernel_rfl) fun hf C S K hC1 hC hS hK=>?_;simp (disch:=first|omega|assumption) only [go_sem,Oid.ab hpp,Oid.aa hpp,hpN,hO]
  refine hC _ _ _ (dy.pn (hf' _ (ar rfl hp) (fun h=>hpp (Oid.ae h)) (hO.sub _ _)) rfl) (by simp only [List.mem_cons,forall_eq_or_imp];exact ⟨by simp (disch:=first|omega|assumption) only [go_sem,Oid.ab hpp,Oid.aa hpp,hpN,hO],(by first|exact nbu _|exact nbA (by simp [hpN,hO.mem]) _)⟩) (fun _ _ h=>h.elim) ?_
  rintro _ _ ⟨rfl,rfl⟩
  simp only [aV,cdN]
  exact kf (z:=0) (e:=_) (cM (by omega)).2.1 (by show _=some _;simp (disch:=first|omega|assumption) only [go_sem,Oid.ab hpp,Oid.aa hpp,hpN,hO]) (by simp (disch:=first|omega|assumption) only [go_sem,Oid.ab hpp,Oid.aa hpp,hpN,hO,aD,aV,bT,rdV,lsV,fnV,rdS,rdB,rdL]) (by show _=some _;(try simp only [cdN]);simp (disch:=first|omega|assumption) only [go_sem,Oid.ab hpp,Oid.aa hpp,hpN,hO]) (by first|exact nbu _|exact nbA (by simp [hpN,hO.mem]) _) ks0 hO.mem
 | go a =>
  obtain ⟨F0,hA1,hA2⟩:=aZ hA
  obtain rfl:F0=F1:=hA2
  have hf':=hf _ hA1
  obtain ⟨pl,ek,em,el⟩:=a
  simp only [bG,fdR,Bits.av] at hf' ⊢
  refine kr1 hf' ?_
  by_cases c1:ek=2
  case neg =>
   rw [if_pos c1]
   refine ao nmd [] hng (by kernel_rfl) fun hf C S K hC1 hC hS hK=>?_;simp (disch:=first|omega|assumption) only [go_sem,Oid.ab hpp,Oid.aa hpp,hpN,hO,c1,decide_true,decide_false,ne_eq,not_true_eq_false,not_false_eq_true]
   refine hC _ _ _ (bl 15 _) (fun _ h=>by cases h) (fun _ _ h=>h.elim) ?_
   rintro _ _ ⟨rfl,rfl⟩
   exact kf (z:=0) (e:=_) (cM (by omega)).2.1 (by show _=some _;simp (disch:=first|omega|assumption) only [go_sem,Oid.ab hpp,Oid.aa hpp,hpN,hO]) (by simp (disch:=first|omega|assumption) only [go_sem,Oid.ab hpp,Oid.aa hpp,hpN,hO,aD,aV,bT,rdV,lsV,fnV,rdS,rdB,rdL]) (by show _=some _;(try simp only [cdN]);simp (disch:=first|omega|assumption) only [go_sem,Oid.ab hpp,Oid.aa hpp,hpN,hO]) (by first|exact nbu _|exact nbA (by simp [hpN,hO.mem]) _) ks0 hO.mem
  rw [if_neg (fun h=>h c1)]
  refine kr .o c1 (cq (bd 15 _) trivial) ?_
  by_cases c2:dG em 1=0
  ·rw [if_pos c2]
   refine ao nmd [] hng (by kernel_rfl) fun hf C S K hC1 hC hS hK=>?_;simp (disch:=first|omega|assumption) only [go_sem,Oid.ab hpp,Oid.aa hpp,hpN,hO,c2,decide_true,decide_false,ne_eq,not_true_eq_false,not_false_eq_true]
   refine hC _ _ _ (bl 18 _) (fun _ h=>by cases h) (fun _ _ h=>h.elim) ?_
   rintro _ _ ⟨rfl,rfl⟩
   exact kf (z:=0) (e:=_) (cM (by omega)).2.1 (by show _=some _;simp (disch:=first|omega|assumption) only [go_sem,Oid.ab hpp,Oid.aa hpp,hpN,hO]) (by simp (disch:=first|omega|assumption) only [go_sem,Oid.ab hpp,Oid.aa hpp,hpN,hO,aD,aV,bT,rdV,lsV,fnV,rdS,rdB,rdL]) (by show _=some _;(try simp only [cdN]);simp (disch:=first|omega|assumption) only [go_sem,Oid.ab hpp,Oid.aa hpp,hpN,hO]) (by first|exact nbu _|exact nbA (by simp [hpN,hO.mem]) _) ks0 hO.mem
  rw [if_neg c2]
  refine kr .o c2 (cq (bd 18 _) trivial) ?_
  refine kw0 ?_
  refine aA (ye (z:=0) (cM (by omega)).2.1 (by show _=some _;simp (disch:=first|omega|assumption) only [go_sem,Oid.ab hpp,Oid.aa hpp,hpN,hO]) (by simp (disch:=first|omega|assumption) only [go_sem,Oid.ab hpp,Oid.aa hpp,hpN,hO,aD]) (by show _=some _;(try simp only [cdN]);simp (disch:=first|omega|assumption) only [go_sem,Oid.ab hpp,Oid.aa hpp,hpN,hO]) (by first|exact nbu _|exact nbA (by simp [hpN,hO.mem]) _))
theorem rk (path:Str) (hpath:path.length≤140737488355328) (hA:RP st N L (eK L cwd um path).1 F F1) (hP:PP st N (bT (eK L cwd um path).2) F1 F2) :
  aj Tryz.prog 82 [.ptr pp 0,.str path] (Oid.under p) ⟨(pp,prC st cwd um)::bk (N,F),.int .i64 (aD (eK L cwd um path).2),sb N F2⟩:=by
 have hm:=fun p hp hpp hO=>Bv (pp:=pp) (st:=st) (N:=N) (F:=F) (F1:=F1) (F2:=F2) hK hc um hpN (p:=p) hp hpp hO path hpath _ hA hP
 unfold eK at hA hP ⊢
 generalize aD (eJ L cwd path ⟨2,bJ 7 um,[]⟩).2=E at hm ⊢
 simp only [Bits.av] at hm
 unfold prC at hm ⊢
 refine aC (n:=14) (rs:=[.tmp 4]) Tryz.func82 rfl rfl (by decide) rfl rfl rfl ?_;rintro x rfl hrd hng
 rw [aB]
 refine kr0 ?_
 refine kr1 hm ?_
 refine aA (bI rfl (by show _=some _;simp (disch:=first|omega|assumption) only [go_sem,Oid.ab hpp,Oid.aa hpp,hpN,hO]) (by first|exact nbu _|exact nbA (by simp [hpN,hO.mem]) _))
theorem pT (path:Str) (hpath:path.length≤140737488355328) (target:Str) (ht:target.length≤140737488355328) (hA:RP st N L (cg L cwd target path).1 F F1) (hP:PP st N (bT (cg L cwd target path).2) F1 F2) :
  aj Tryz.prog 84 [.ptr pp 0,.str target,.str path] (Oid.under p) ⟨(pp,prC st cwd um)::bk (N,F),.int .i64 (aD (cg L cwd target path).2),sb N F2⟩:=by
 have hsf:=fun p=>eH path (by omega) p
 unfold cg at hA hP ⊢
 by_cases c1:target=[]∨200 < target.length
 ·rw [if_pos c1] at hA hP ⊢
  obtain rfl:F=F1:=hA
  obtain rfl:F=F2:=hP
  unfold prC
  refine aC (n:=23) (rs:=[.tmp 6]) Tryz.func84 rfl rfl (by decide) rfl rfl rfl ?_;rintro x rfl hrd hng
  rw [aB]
  refine kr0 ?_
  by_cases c2:target=[]
  ·refine kr (.d [] [(2,10)] []) c2 trivial ?_
   refine kw0 ?_
   refine aA (bI rfl (by show _=some _;simp (disch:=first|omega|assumption) only [go_sem,Oid.ab hpp,Oid.aa hpp,hpN,hO]) (by first|exact nbu _|exact nbA (by simp [hpN,hO.mem]) _))
  ·have e2:(200:Int) < (target.length:Int):=by have:=c1.resolve_left c2;omega
   refine kr (.d [] [(2,10)] []) (ai c2 e2) trivial ?_
   refine kw0 ?_
   refine aA (bI rfl (by show _=some _;simp (disch:=first|omega|assumption) only [go_sem,Oid.ab hpp,Oid.aa hpp,hpN,hO]) (by first|exact nbu _|exact nbA (by simp [hpN,hO.mem]) _))
 rw [if_neg c1] at hA hP ⊢
 rw [not_or] at c1
 obtain ⟨c2,c3⟩:=c1
 have e2:¬ (200:Int) < (target.length:Int):=by omega
 generalize cK path=es at hsf hA hP ⊢
 cases es with
 | true =>
  rw [if_pos rfl] at hA hP ⊢
  obtain rfl:F=F1:=hA
  obtain rfl:F=F2:=hP
  unfold prC
  refine aC (n:=23) (rs:=[.tmp 6]) Tryz.func84 rfl rfl (by decide) rfl rfl rfl ?_;rintro x rfl hrd hng
  rw [aB]
  refine kr0 ?_
  refine kr (.d [] [(2,10)] []) (ai c2 e2) trivial ?_
  refine kw0 ?_
  refine kr1 (hsf _) ?_
  refine kw0 ?_
  refine aA (bI rfl (by show _=some _;simp (disch:=first|omega|assumption) only [go_sem,Oid.ab hpp,Oid.aa hpp,hpN,hO]) (by first|exact nbu _|exact nbA (by simp [hpN,hO.mem]) _))
 | false =>
  rw [if_neg Bool.false_ne_true] at hA hP ⊢
  have hm:=fun p hp hpp hO=>Bv (pp:=pp) (st:=st) (N:=N) (F:=F) (F1:=F1) (F2:=F2) hK hc um hpN (p:=p) hp hpp hO path hpath _ hA hP
  generalize aD (eJ L cwd path ⟨3,7,target⟩).2=E at hm ⊢
  simp only [Bits.av] at hm
  unfold prC at hm ⊢
  refine aC (n:=23) (rs:=[.tmp 6]) Tryz.func84 rfl rfl (by decide) rfl rfl rfl ?_;rintro x rfl hrd hng
  rw [aB]
  refine kr0 ?_
  refine kr (.d [] [(2,10)] []) (ai c2 e2) trivial ?_
  refine kw0 ?_
  refine kr1 (hsf _) ?_
  refine kw0 ?_
  refine kr1 hm ?_
  refine aA (bI rfl (by show _=some _;simp (disch:=first|omega|assumption) only [go_sem,Oid.ab hpp,Oid.aa hpp,hpN,hO]) (by first|exact nbu _|exact nbA (by simp [hpN,hO.mem]) _))
omit hK hpN in
theorem Ih:aj Tryz.prog 167 [.ptr pp 0] (Oid.under p) ⟨[(pp,prC st cwd um)],.str (Bm cwd),[]⟩:=by
 unfold prC Bm
 cases cwd with
 | nil =>
  refine aC (n:=15) (rs:=[.tmp 2]) Tryz.func167 rfl rfl (by decide) rfl rfl rfl ?_;rintro x rfl hrd hng
  refine qr0 ?_
  refine qd (.d [] [] [2]) trivial trivial ?_
  refine aA (aY rfl ?_ ?_)
  ·intro q hq;cases hq
  ·intro q hq _;rw [List.mem_singleton.1 hq];simp [Mem.aq]
 | cons b cwd =>
  have e1:¬ (((cwd.length+1:Nat):Int) < 1):=by omega
  simp only [List.length_cons] at hc
  refine aC (n:=15) (rs:=[.tmp 2]) Tryz.func167 rfl rfl (by decide) rfl rfl rfl ?_;rintro x rfl hrd hng
  refine qr0 ?_
  refine qd (.d [] [] [2]) e1 trivial ?_
  refine aA (aY ?_ ?_ ?_)
  ·simp [eV,oF,zh,F]
  ·intro q hq;cases hq
  ·intro q hq _;rw [List.mem_singleton.1 hq];simp [Mem.aq]
end
end Go.Proofs.YtfbnaalhioogoaaGreatDoor
namespace Go.Proofs.YtfbnaalhioogoaaGreatDoor
open Go Go.Ab
set_option maxRecDepth 20000
set_option maxHeartbeats 4000000
structure Res where
 st:Int
 out:Str
 err:Str
 deriving DecidableEq
def Res.av (r:Res):AV:=.agg [.int .i64 r.st,.str r.out,.str r.err]
def fG (n:Str):Res:=⟨2,[],n++[58,32,117,115,97,103,101,10]⟩
def E3 (s:Str):Res:=⟨0,s,[]⟩
def Ii:Res:=⟨0,[],[]⟩
theorem Bx (s:Str) (hl:s.length≤4000000000) (p:Oid):aj Tryz.prog 153 [.str s] (Oid.under p) ⟨[],(fG s).av,[]⟩:=by
 refine aC (n:=6) (rs:=[.cell 2 45]) Tryz.func153 rfl rfl (by decide) rfl rfl rfl ?_;rintro x rfl hrd hng
 (repeat (first|(refine ax rfl rfl ?_)|(refine aw rfl rfl ?_)|(refine ao nmd [] hng (by kernel_rfl) fun hf C S K hC1 hC hS hK=>?_;simp (disch:=first|omega|assumption) only [go_sem];refine hK ?_;clear hK hS hC hC1 K S C hf)|((first|refine zn ?_|refine ze ?_|refine zk ?_);with_reducible (constructor;repeat constructor);try refine zl ?_)))
 exact aA (bg (by simp (disch:=first|omega|assumption) only [go_sem,Res.av,E3,Ii,fG]))
theorem yg (s:Str) (hl:s.length≤4000000000) (p:Oid):aj Tryz.prog 123 [.str s] (Oid.under p) ⟨[],(fG s).av,[]⟩:=by
 refine aC (n:=6) (rs:=[.cell 2 45]) Tryz.func123 rfl rfl (by decide) rfl rfl rfl ?_;rintro x rfl hrd hng
 (repeat (first|(refine ax rfl rfl ?_)|(refine aw rfl rfl ?_)|(refine ao nmd [] hng (by kernel_rfl) fun hf C S K hC1 hC hS hK=>?_;simp (disch:=first|omega|assumption) only [go_sem];refine hK ?_;clear hK hS hC hC1 K S C hf)|((first|refine zn ?_|refine ze ?_|refine zk ?_);with_reducible (constructor;repeat constructor);try refine zl ?_)))
 exact aA (bg (by simp (disch:=first|omega|assumption) only [go_sem,Res.av,E3,Ii,fG]))
theorem oQ (s t:Str) (hl:s.length≤9223372036854775807) (sp:Oid→Prop):aj Tryz.prog 210 [.str s,.str t] sp ⟨[],.str (Lib.trimSuffix s t),[]⟩ :=
 fp (by kernel_rfl) fun g args w ha _=>by
  obtain ⟨v,u,rfl,hv,hu⟩:=ha.two
  obtain ⟨b,rfl,hb⟩:=hv.bw
  obtain ⟨d,rfl,hd⟩:=hu.bw
  rw [kc hb,kc hd]
  refine (Tryz.strings_TrimSuffix ⟨s.toArray⟩ ⟨t.toArray⟩ w (by show s.toArray.size≤_;simpa using hl)).mono ?_
  rintro e w' ⟨rfl,rfl⟩
  exact ⟨_,rfl,.str _ _ rfl,rfl⟩
theorem rm (s:Str) (hl:s.length≤9223372036854775807) (sp:Oid→Prop):aj Tryz.prog 279 [.str s,.str [47]] sp ⟨[],.str (Lib.trimRightB s 47),[]⟩ :=
 fp (by kernel_rfl) fun g args w ha _=>by
  obtain ⟨v,u,rfl,hv,hu⟩:=ha.two
  obtain ⟨b,rfl,hb⟩:=hv.bw
  obtain ⟨d,rfl,hd⟩:=hu.bw
  rw [kc hb,kc hd]
  refine (Tryz.strings_TrimRight_one ⟨s.toArray⟩ 47 (by decide) w (by show s.toArray.size≤_;simpa using hl)).mono ?_
  rintro e w' ⟨rfl,rfl⟩
  exact ⟨_,rfl,.str _ _ rfl,rfl⟩
def dZ (s:Str):Nat→Nat
 | 0=>0
 | k+1=>if s.getD k 0=47 then dZ s k else k+1
theorem lE (s:Str):∀ k,dZ s k≤k
 | 0=>Nat.le_refl _
 | k+1=>by have:=lE s k;rw [dZ];split<;>omega
theorem jP (s:Str):∀ k j,dZ s k≤j→j < k→s.getD j 0=47
 | 0,_,_,h=>absurd h (Nat.not_lt_zero _)
 | k+1,j,h1,h2=>by
  rw [dZ] at h1
  split at h1
  ·rename_i he
   by_cases hj:j=k
   ·subst hj;exact he
   ·exact jP s k j h1 (by omega)
  ·omega
theorem pU (s:Str):∀ k,0 < dZ s k→¬ s.getD (dZ s k - 1) 0=47
 | 0,h=>absurd h (Nat.lt_irrefl _)
 | k+1,h=>by
  rw [dZ] at h ⊢
  split
  ·rename_i he;rw [if_pos he] at h;exact pU s k h
  ·rename_i he;exact he
theorem uM (s:Str):Lib.trimRightB s 47=s.take (dZ s s.length):=by
 refine Lib.trimRightB_take s 47 _ (lE _ _) (fun j b hj hb=>?_) (fun b h0 hb=>?_)
 ·obtain ⟨hj2,rfl⟩:=List.getElem?_eq_some_iff.1 hb
  have:=jP s _ j hj hj2
  rwa [List.getD_eq_getElem?_getD,hb,Option.getD_some] at this
 ·have:=pU s _ h0
  rwa [List.getD_eq_getElem?_getD,hb,Option.getD_some] at this
def pV (s:Str):Nat→Nat
 | 0=>0
 | 1=>1
 | k+2=>if s.getD (k+1) 0=47 then pV s (k+1) else k+2
theorem l9 (s:Str):∀ k,(0 < dZ s k∧pV s k=dZ s k)∨(dZ s k=0∧k=0)∨(dZ s k=0∧0 < k∧pV s k=1∧s.getD 0 0=47)
 | 0=>.inr (.inl ⟨rfl,rfl⟩)
 | 1=>by
  rw [dZ,pV]
  by_cases h:s.getD 0 0=47
  ·rw [if_pos h];exact .inr (.inr ⟨rfl,by omega,rfl,h⟩)
  ·rw [if_neg h];exact .inl ⟨by omega,rfl⟩
 | k+2=>by
  have ih:=l9 s (k+1)
  rw [dZ,pV]
  by_cases h:s.getD (k+1) 0=47
  ·rw [if_pos h,if_pos h]
   rcases ih with h1|h1|h1
   ·exact .inl h1
   ·omega
   ·exact .inr (.inr ⟨h1.1,by omega,h1.2.2⟩)
  ·rw [if_neg h,if_neg h];exact .inl ⟨by omega,rfl⟩
def iM (s:Str):Str:=s.take (pV s s.length)
theorem take_one {s:Str} (h0:0 < s.length):s.take 1=[s.getD 0 0]:=by
 cases s with
 | nil=>simp at h0
 | cons b s=>simp
theorem By (s:Str):iM s=if ¬ Lib.trimRightB s 47=[]∨s=[] then Lib.trimRightB s 47 else [47]:=by
 rw [uM];unfold iM
 have hl:=lE s s.length
 rcases l9 s s.length with ⟨h1,h2⟩|⟨h1,h2⟩|⟨h1,h2,h3,h4⟩
 ·rw [if_pos (.inl fun e=>by have:=congrArg List.length e;rw [List.length_take,List.length_nil] at this;omega),h2]
 ·have:s=[]:=List.eq_nil_of_length_eq_zero h2
  subst this;rfl
 ·rw [if_neg (fun hh=>hh.elim (fun h=>h (by rw [h1,List.take_zero])) (fun e=>by rw [e] at h2;simp at h2)),h3,take_one h2,h4]
theorem pW (s:Str):(iM s).length≤s.length:=by unfold iM;rw [List.length_take];omega
theorem Eu (s:Str) (hl:s.length≤4000000000) (p:Oid):aj Tryz.prog 234 [.str s] (Oid.under p) ⟨[],.str (iM s),[]⟩:=by
 rw [By]
 refine aC (n:=13) (rs:=[.tmp 2]) Tryz.func234 rfl rfl (by decide) rfl rfl rfl ?_;rintro x rfl hrd hng
 (repeat (first|(refine ax rfl rfl ?_)|(refine aw rfl rfl ?_)|(refine ao nmd [] hng (by kernel_rfl) fun hf C S K hC1 hC hS hK=>?_;simp (disch:=first|omega|assumption) only [go_sem];(repeat ((first|refine hC1 _ (rm s (by omega) _) (by simp (disch:=first|omega|assumption) only [go_sem]) ?_);simp (disch:=first|omega|assumption) only [go_sem]));refine hK ?_;clear hK hS hC hC1 K S C hf)|((first|refine zn ?_|refine ze ?_|refine zk ?_);with_reducible (constructor;repeat constructor);try refine zl ?_)))
 by_cases h0:Lib.trimRightB s 47=[]
 ·by_cases h1:s=[]
  ·rw [if_pos (.inr h1)]
   refine ao nmd [(2,8)] hng (by kernel_rfl) fun hf C S K hC1 hC hS hK=>?_;simp (disch:=first|omega|assumption) only [go_sem,h0,h1,decide_true,decide_false,ne_eq,not_true_eq_false,not_false_eq_true]
   (repeat' (first|(refine bt (fun hv=>?_) (fun hv=>?_)<;>(try simp only [zb1,zb2,zb3,zb4,zb5] at hv)<;>simp (disch:=first|omega|assumption) only [go_sem,hv,h0,h1,decide_true,decide_false,ne_eq,not_true_eq_false,not_false_eq_true])|(refine hK ?_;clear hK hS hC hC1 K S C hf)))
   all_goals first|exact absurd rfl hv|((repeat (first|(refine ax rfl rfl ?_)|(refine aw rfl rfl ?_)|(refine ao nmd [] hng (by kernel_rfl) fun hf C S K hC1 hC hS hK=>?_;simp (disch:=first|omega|assumption) only [go_sem];refine hK ?_;clear hK hS hC hC1 K S C hf)|((first|refine zn ?_|refine ze ?_|refine zk ?_);with_reducible (constructor;repeat constructor);try refine zl ?_)));exact aA (bp (congrArg AV.str (by subst h1;exact h0))))
  ·rw [if_neg (fun hh=>hh.elim (fun h=>h h0) h1)]
   refine ao nmd [(2,8)] hng (by kernel_rfl) fun hf C S K hC1 hC hS hK=>?_;simp (disch:=first|omega|assumption) only [go_sem,h0,h1,decide_true,decide_false,ne_eq,not_true_eq_false,not_false_eq_true]
   (repeat' (first|(refine bt (fun hv=>?_) (fun hv=>?_)<;>(try simp only [zb1,zb2,zb3,zb4,zb5] at hv)<;>simp (disch:=first|omega|assumption) only [go_sem,hv,h0,h1,decide_true,decide_false,ne_eq,not_true_eq_false,not_false_eq_true])|(refine hK ?_;clear hK hS hC hC1 K S C hf)))
   all_goals first|exact absurd rfl hv|((repeat (first|(refine ax rfl rfl ?_)|(refine aw rfl rfl ?_)|(refine ao nmd [] hng (by kernel_rfl) fun hf C S K hC1 hC hS hK=>?_;simp (disch:=first|omega|assumption) only [go_sem];refine hK ?_;clear hK hS hC hC1 K S C hf)|((first|refine zn ?_|refine ze ?_|refine zk ?_);with_reducible (constructor;repeat constructor);try refine zl ?_)));exact aA (bp rfl))
 ·rw [if_pos (.inl h0)]
  refine ao nmd [(2,8)] hng (by kernel_rfl) fun hf C S K hC1 hC hS hK=>?_;simp (disch:=first|omega|assumption) only [go_sem,h0,decide_true,decide_false,ne_eq,not_true_eq_false,not_false_eq_true]
  (repeat' (first|(refine bt (fun hv=>?_) (fun hv=>?_)<;>(try simp only [zb1,zb2,zb3,zb4,zb5] at hv)<;>simp (disch:=first|omega|assumption) only [go_sem,hv,h0,decide_true,decide_false,ne_eq,not_true_eq_false,not_false_eq_true])|(refine hK ?_;clear hK hS hC hC1 K S C hf)))
  all_goals first|exact absurd rfl hv|((repeat (first|(refine ax rfl rfl ?_)|(refine aw rfl rfl ?_)|(refine ao nmd [] hng (by kernel_rfl) fun hf C S K hC1 hC hS hK=>?_;simp (disch:=first|omega|assumption) only [go_sem];refine hK ?_;clear hK hS hC hC1 K S C hf)|((first|refine zn ?_|refine ze ?_|refine zk ?_);with_reducible (constructor;repeat constructor);try refine zl ?_)));exact aA (bp rfl))
def pX (s:Str):Str:=if iM s=[47] then [47] else (iM s).drop (dK (iM s) 47 (iM s).length+1).toNat
theorem yh (s:Str):(pX s).length≤s.length+1:=by
 have:=pW s
 unfold pX;split
 ·simp
 ·rw [List.length_drop];omega
theorem Ev (s:Str) (hl:s.length≤4000000000) (p:Oid):aj Tryz.prog 211 [.str s] (Oid.under p) ⟨[],.str (pX s),[]⟩:=by
 have hbl:=pW s
 have hk:=nC (iM s) 47 (iM s).length
 refine aC (n:=13) (rs:=[.tmp 2]) Tryz.func211 rfl rfl (by decide) rfl rfl rfl ?_;rintro x rfl hrd hng
 (repeat (first|(refine ax rfl rfl ?_)|(refine aw rfl rfl ?_)|(refine ao nmd [] hng (by kernel_rfl) fun hf C S K hC1 hC hS hK=>?_;simp (disch:=first|omega|assumption) only [go_sem];(repeat ((first|refine hC1 _ (Eu s hl _) (by simp (disch:=first|omega|assumption) only [go_sem]) ?_);simp (disch:=first|omega|assumption) only [go_sem]));refine hK ?_;clear hK hS hC hC1 K S C hf)|((first|refine zn ?_|refine ze ?_|refine zk ?_);with_reducible (constructor;repeat constructor);try refine zl ?_)))
 refine aO rfl rfl (fun hb=>?_) (fun hb=>?_)
 ·(repeat (first|(refine ax rfl rfl ?_)|(refine aw rfl rfl ?_)|(refine ao nmd [] hng (by kernel_rfl) fun hf C S K hC1 hC hS hK=>?_;simp (disch:=first|omega|assumption) only [go_sem];refine hK ?_;clear hK hS hC hC1 K S C hf)|((first|refine zn ?_|refine ze ?_|refine zk ?_);with_reducible (constructor;repeat constructor);try refine zl ?_)))
  exact aA (bp (congrArg AV.str (hb.trans (by rw [pX,if_pos hb]))))
 ·(repeat (first|(refine ax rfl rfl ?_)|(refine aw rfl rfl ?_)|(refine ao nmd [] hng (by kernel_rfl) fun hf C S K hC1 hC hS hK=>?_;simp (disch:=first|omega|assumption) only [go_sem];(repeat ((first|refine hC1 _ (nD (iM s) 47 (by omega) _) (by simp (disch:=first|omega|assumption) only [go_sem]) ?_);simp (disch:=first|omega|assumption) only [go_sem]));refine hK ?_;clear hK hS hC hC1 K S C hf)|((first|refine zn ?_|refine ze ?_|refine zk ?_);with_reducible (constructor;repeat constructor);try refine zl ?_)))
  exact aA (bp (congrArg AV.str (by rw [pX,if_neg hb])))
end Go.Proofs.YtfbnaalhioogoaaGreatDoor
namespace Go.Proofs.YtfbnaalhioogoaaGreatDoor
open Go Go.Ab
set_option maxRecDepth 20000
set_option maxHeartbeats 4000000
def I0:List ME:=[⟨.str [99,97,116],.fn (.func 54) [] [],0⟩,⟨.str [99,112],.fn (.func 55) [] [],1⟩,⟨.str [109,118],.fn (.func 56) [] [],2⟩,⟨.str [108,110],.fn (.func 57) [] [],3⟩,⟨.str [114,109],.fn (.func 58) [] [],4⟩,⟨.str [109,107,100,105,114],.fn (.func 59) [] [],5⟩,⟨.str [114,109,100,105,114],.fn (.func 60) [] [],6⟩,⟨.str [116,111,117,99,104],.fn (.func 61) [] [],7⟩,⟨.str [99,104,109,111,100],.fn (.func 62) [] [],8⟩,⟨.str [108,115],.fn (.func 63) [] [],9⟩,⟨.str [116,101,115,116],.fn (.func 64) [] [],10⟩,⟨.str [91],.fn (.func 65) [] [],11⟩,⟨.str [99,109,112],.fn (.func 66) [] [],12⟩,⟨.str [116,101,101],.fn (.func 67) [] [],13⟩,⟨.str [114,101,97,100,108,105,110,107],.fn (.func 68) [] [],14⟩]
def TM (n:Nat):List ME:=I0.take n
theorem Ij:cU (.str [99,97,116]) (.fn (.func 54) [] []) 0 []=TM 1:=by kernel_rfl
theorem Ik:cn (.str [99,97,116]) []=false:=by kernel_rfl
theorem Il:cU (.str [99,112]) (.fn (.func 55) [] []) 1 (TM 1)=TM 2:=by kernel_rfl
theorem Im:cn (.str [99,112]) (TM 1)=false:=by kernel_rfl
theorem Io:cU (.str [109,118]) (.fn (.func 56) [] []) 2 (TM 2)=TM 3:=by kernel_rfl
theorem Ip:cn (.str [109,118]) (TM 2)=false:=by kernel_rfl
theorem Iq:cU (.str [108,110]) (.fn (.func 57) [] []) 3 (TM 3)=TM 4:=by kernel_rfl
theorem Ir:cn (.str [108,110]) (TM 3)=false:=by kernel_rfl
theorem Iu:cU (.str [114,109]) (.fn (.func 58) [] []) 4 (TM 4)=TM 5:=by kernel_rfl
theorem Iv:cn (.str [114,109]) (TM 4)=false:=by kernel_rfl
theorem Iw:cU (.str [109,107,100,105,114]) (.fn (.func 59) [] []) 5 (TM 5)=TM 6:=by kernel_rfl
theorem Ix:cn (.str [109,107,100,105,114]) (TM 5)=false:=by kernel_rfl
theorem Iy:cU (.str [114,109,100,105,114]) (.fn (.func 60) [] []) 6 (TM 6)=TM 7:=by kernel_rfl
theorem Iz:cn (.str [114,109,100,105,114]) (TM 6)=false:=by kernel_rfl
theorem IA:cU (.str [116,111,117,99,104]) (.fn (.func 61) [] []) 7 (TM 7)=TM 8:=by kernel_rfl
theorem IB:cn (.str [116,111,117,99,104]) (TM 7)=false:=by kernel_rfl
theorem IC:cU (.str [99,104,109,111,100]) (.fn (.func 62) [] []) 8 (TM 8)=TM 9:=by kernel_rfl
theorem ID:cn (.str [99,104,109,111,100]) (TM 8)=false:=by kernel_rfl
theorem IE:cU (.str [108,115]) (.fn (.func 63) [] []) 9 (TM 9)=TM 10:=by kernel_rfl
theorem IF:cn (.str [108,115]) (TM 9)=false:=by kernel_rfl
theorem Hp:cU (.str [116,101,115,116]) (.fn (.func 64) [] []) 10 (TM 10)=TM 11:=by kernel_rfl
theorem Hq:cn (.str [116,101,115,116]) (TM 10)=false:=by kernel_rfl
theorem Hr:cU (.str [91]) (.fn (.func 65) [] []) 11 (TM 11)=TM 12:=by kernel_rfl
theorem Hs:cn (.str [91]) (TM 11)=false:=by kernel_rfl
theorem Ht:cU (.str [99,109,112]) (.fn (.func 66) [] []) 12 (TM 12)=TM 13:=by kernel_rfl
theorem Hu:cn (.str [99,109,112]) (TM 12)=false:=by kernel_rfl
theorem Hv:cU (.str [116,101,101]) (.fn (.func 67) [] []) 13 (TM 13)=TM 14:=by kernel_rfl
theorem Hw:cn (.str [116,101,101]) (TM 13)=false:=by kernel_rfl
theorem Hx:cU (.str [114,101,97,100,108,105,110,107]) (.fn (.func 68) [] []) 14 (TM 14)=TM 15:=by kernel_rfl
theorem Hy:cn (.str [114,101,97,100,108,105,110,107]) (TM 14)=false:=by kernel_rfl
def dz (pp:Oid) (nm inp:Str) (r:Res):ah:=.cells [.ptr pp 0,.str nm,.str inp,.int .i64 r.st,.str r.out,.str r.err]
def UtP (pp st:Oid) (cwd:Str) (um:Int) (N:List Oid) (F F':Oid→ah) (fu:Nat) (nm inp:Str) (args:List Str) (r r':Res):Prop :=
 ∀ q p,p.mono=false→q ∉ N→¬ q=pp→¬ Oid.under p q→¬ Oid.under p pp→aW p N →
  aj Tryz.prog fu [.ptr q 0,.list 1 (args.map AV.str)] (Oid.under p) ⟨(q,dz pp nm inp r)::(pp,prC st cwd um)::bk (N,F),.tuple [],(q,some (dz pp nm inp r'))::sb N F'⟩
theorem eN {pp st:Oid} {cwd:Str} {um:Int} {N:List Oid} {F F':Oid→ah} (nm:Str) (args:List Str) (t:Str) (fu:Nat) (hh:cn (.str nm) (TM 15)=true) (hv:gJ (.str nm) .nilFn (TM 15) = .fn (.func fu) [] []) (r':Res)
  (hU:UtP pp st cwd um N F F' fu nm t args ⟨0,[],[]⟩ r') (hpN:pp ∉ N) (p:Oid) (hp:p.mono=false) (hpp:¬ Oid.under p pp) (hO:aW p N) :
  aj Tryz.prog 20 [.ptr pp 0,.list 1 ((nm::args).map AV.str),.str t] (Oid.under p) ⟨(pp,prC st cwd um)::bk (N,F),.tuple [r'.av,.bool true],sb N F'⟩:=by
 obtain ⟨st',out',err'⟩:=r'
 have hU':=fun q p hp h1 h2 h3 h4 h5=>hU q p hp h1 h2 h3 h4 h5
 unfold UtP dz prC at hU'
 unfold prC
 simp only at hU'
 refine aC (n:=49) (rs:=[.cell 6 45,.tmp 7]) Tryz.func20 rfl rfl (by decide) rfl rfl rfl ?_;rintro x rfl hrd hng
 rw [aB]
 refine kr0 ?_
 refine ao nmd [] hng (by kernel_rfl) fun hf C S K hC1 hC hS hK=>?_;simp (disch:=first|omega|assumption) only [go_sem,Nat.reduceAdd,Bool.false_eq_true,if_false,Ij,Ik,Il,Im,Io,Ip,Iq,Ir,Iu,Iv,Iw,Ix,Iy,Iz,IA,IB,IC,ID,IE,IF,Hp,Hq,Hr,Hs,Ht,Hu,Hv,Hw,Hx,Hy]
 refine hK ?_;clear hK hS hC hC1 K S C hf
 refine kw (ai hh hv) ?_
 refine ao nmd [] hng (by kernel_rfl) fun hf C S K hC1 hC hS hK=>?_;simp (disch:=first|omega|assumption) only [go_sem,Oid.ab hpp,Oid.aa hpp,hpN,hO]
 refine hC1 _ (hU' (.sub 5 6 x.p) _ (ar rfl hp) hO.mem (fun e=>hpp (e ▸ Oid.ae (Oid.ay _))) (fun h=>by have:=(Oid.apart h (Oid.ay _)).1;omega) (fun h=>hpp (Oid.ae h)) (hO.sub _ _)) (by simp only [List.mem_cons,forall_eq_or_imp];exact ⟨by simp (disch:=first|omega|assumption) only [go_sem,Oid.ab hpp,Oid.aa hpp,hpN,hO],by simp (disch:=first|omega|assumption) only [go_sem,Oid.ab hpp,Oid.aa hpp,hpN,hO],(by first|exact nbu _|exact nbA (by simp [hpN,hO.mem]) _)⟩) ?_
 simp (disch:=first|omega|assumption) only [go_sem,Oid.ab hpp,Oid.aa hpp,hpN,hO]
 refine hK ?_;clear hK hS hC hC1 K S C hf
 refine kw0 ?_
 exact aA (bI (by simp (disch:=first|omega|assumption) only [go_sem,Res.av,Oid.ab hpp,Oid.aa hpp,hpN,hO]) (by show _=some _;simp (disch:=first|omega|assumption) only [go_sem,Oid.ab hpp,Oid.aa hpp,hpN,hO]) (by first|exact nbu _|exact nbA (by simp [hpN,hO.mem]) _))
end Go.Proofs.YtfbnaalhioogoaaGreatDoor
namespace Go.Proofs.YtfbnaalhioogoaaGreatDoor
open Go Go.Ab
set_option maxRecDepth 20000
set_option maxHeartbeats 4000000
def jj (nm path:Str) (e:Int):Str:=nm++[58,32]++path++[58,32,101,114,114,111,114,32]++Lib.itoa e++[10]
def Res.add (r:Res) (nm path:Str) (e:Int):Res:=if e=0 then r else ⟨1,r.out,r.err++jj nm path e⟩
theorem tg (r:Res) (nm path:Str):r.add nm path 0=r:=if_pos rfl
theorem E4 (r:Res) (nm path:Str) {e:Int} (h:¬ e=0):r.add nm path e=⟨1,r.out,r.err++jj nm path e⟩:=if_neg h
theorem jl {q pp:Oid} {oq o a:ah} {N:List Oid} {f g:Oid→ah} {m:Mem} (hqp:¬ q=pp) (hq:m q=some o) (hp:m pp=some a) (h4:∀ x,x ∈ bk (N,g)→m x.1=some x.2) :
  ∀ i o',((Mem.of ((q,oq)::(pp,a)::bk (N,f))).aJ ((q,some o)::sb N g)) i=some o'→m i=some o' :=
 dF (A0:=[(q,oq),(pp,a)]) (U:=[(q,some o)]) (fun x h o' h'=>by
  rw [List.mem_singleton.1 h] at h' ⊢
  rw [← Option.some.inj h'];exact hq) (fun x h hn=>by
  simp only [List.mem_cons,List.not_mem_nil,or_false] at h
  rcases h with rfl|rfl
  ·exact absurd rfl (hn _ (List.mem_singleton.2 rfl))
  ·exact hp) h4
theorem kY {pp:Oid} (nm inp:Str) (r:Res) (path:Str) (e:Int) (hnm:nm.length≤4000000000) (hpl:path.length≤4000000000) (hre:r.err.length≤1000000000000) (he:-9223372036854775808≤e∧e≤9223372036854775807) (q p:Oid) (hp:p.mono=false) (hq:¬ Oid.under p q) :
  aj Tryz.prog 130 [.ptr q 0,.str path,.int .i64 e] (Oid.under p) ⟨[(q,dz pp nm inp r)],.tuple [],[(q,some (dz pp nm inp (r.add nm path e)))]⟩:=by
 obtain ⟨st,out,err⟩:=r
 have hI:=fun p hp=>iw e he.1 he.2 p hp
 have hil:=Lib.itoa_length_le e he.1 he.2
 simp only at hre
 by_cases h0:e=0
 ·subst h0
  rw [tg]
  unfold dz
  refine aC (n:=33) (rs:=[]) Tryz.func130 rfl rfl (by decide) rfl rfl rfl ?_;rintro x rfl hrd hng
  refine qw (uu hq) ?_
  refine bV (bX rfl ?_ ?_)
  ·simp (disch:=first|omega|assumption) only [go_sem]
   exact fun _ h=>h
  ·simp (disch:=first|omega|assumption) only [go_sem]
   exact fun h=>absurd trivial h
 ·rw [E4 _ _ _ h0]
  unfold dz jj
  refine aC (n:=33) (rs:=[]) Tryz.func130 rfl rfl (by decide) rfl rfl rfl ?_;rintro x rfl hrd hng
  (try ((first|refine zn ?_|refine ze ?_|refine zk ?_);with_reducible (constructor;repeat constructor));try refine zl ?_)
  refine qr (.d [] [] []) h0 trivial ?_
  refine qw (uu hq) ?_
  refine qd (.d [(4,14),(8,14)] [] [0]) (uu hq) (cq (hI _) trivial) ?_
  refine qw0 ?_
  refine bV (bX rfl ?_ ?_)
  ·simp (disch:=first|omega|assumption) only [go_sem]
   exact fun _ h=>h
  ·simp (disch:=first|omega|assumption) only [go_sem]
   exact fun h=>absurd trivial h
theorem yi {pp:Oid} (nm inp:Str) (r:Res) (hn:nm.length≤4000000000) (q p:Oid) (hq:¬ Oid.under p q) :
  aj Tryz.prog 131 [.ptr q 0] (Oid.under p) ⟨[(q,dz pp nm inp r)],.tuple [],[(q,some (dz pp nm inp (fG nm)))]⟩:=by
 obtain ⟨st,out,err⟩:=r
 have hU:=fun p=>Bx nm hn p
 unfold dz
 unfold fG Res.av at hU
 unfold fG
 refine aC (n:=10) (rs:=[]) Tryz.func131 rfl rfl (by decide) rfl rfl rfl ?_;rintro x rfl hrd hng
 (repeat (first|(refine ax rfl rfl ?_)|(refine aw rfl rfl ?_)|(refine ao nmd [] hng (by kernel_rfl) fun hf C S K hC1 hC hS hK=>?_;simp (disch:=first|omega|assumption) only [go_sem,Oid.ab hq,Oid.aa hq];(repeat ((first|refine hC1 _ (hU _) (by simp (disch:=first|omega|assumption) only [go_sem]) ?_);simp (disch:=first|omega|assumption) only [go_sem]));refine hK ?_;clear hK hS hC hC1 K S C hf)|((first|refine zn ?_|refine ze ?_|refine zk ?_);with_reducible (constructor;repeat constructor);try refine zl ?_)))
 refine bV (bX rfl ?_ ?_)
 ·simp (disch:=first|omega|assumption) only [go_sem]
  exact fun _ h=>h
 ·simp (disch:=first|omega|assumption) only [go_sem]
  exact fun h=>absurd trivial h
def wa (x:Rs (Str × Bits)) (fr to':Str):Str:=if aD x=0∧(rdB x).2.k=2 then Lib.trimSuffix to' [47]++[47]++pX fr else to'
end Go.Proofs.YtfbnaalhioogoaaGreatDoor
namespace Go.Proofs.YtfbnaalhioogoaaGreatDoor
open Go Go.Ab
set_option maxRecDepth 20000
set_option maxHeartbeats 4000000
theorem yj (s:Str):(Lib.trimSuffix s [47]).length≤s.length:=by
 unfold Lib.trimSuffix
 split
 ·rw [List.length_take];omega
 ·exact Nat.le_refl _
theorem uN {q pp:Oid} {o a:ah} {N:List Oid} {f g:Oid→ah} {m:Mem} (hq:m q=some o) (hp:m pp=some a) (h4:∀ x,x ∈ bk (N,g)→m x.1=some x.2) :
  ∀ i o',((Mem.of ((q,o)::(pp,a)::bk (N,f))).aJ (sb N g)) i=some o'→m i=some o' :=
 dF (A0:=[(q,o),(pp,a)]) (U:=[]) (fun x h=>by cases h) (fun x h _=>by
  simp only [List.mem_cons,List.not_mem_nil,or_false] at h
  rcases h with rfl|rfl
  ·exact hq
  ·exact hp) h4
section
variable {pp st:Oid} {N:List Oid} {F F1 F2 F3 F4:Oid→ah} {L:PL} (hK:KL L) {cwd:Str} (hc:cwd.length≤1000000) (um:Int) (hpN:pp ∉ N)
include hK hc hpN
theorem yk (nm inp:Str) (r:Res) (fr to':Str) (hfr:fr.length≤4000000000) (hto:to'.length≤4000000000) (hA:RP st N L (findF L cwd to' true).1 F F1) (q p:Oid) (hp:p.mono=false) (hqN:q ∉ N) (hqp:¬ q=pp) (hq:¬ Oid.under p q) (hpp:¬ Oid.under p pp) (hO:aW p N) :
  aj Tryz.prog 132 [.ptr q 0,.str fr,.str to'] (Oid.under p) ⟨(q,dz pp nm inp r)::(pp,prC st cwd um)::bk (N,F),.str (wa (findF L cwd to' true).2 fr to'),sb N F1⟩:=by
 have hF:=fun p hp hpp hO=>E2 (pp:=pp) (st:=st) hK hc um hpN (p:=p) hp hpp hO to' (by omega) true hA
 have hqp':¬ pp=q:=fun e=>hqp e.symm
 have hB:=fun p=>Ev fr hfr p
 have hT:=fun sp=>oQ to' [47] (by omega) sp
 have htl:=yj to'
 have hbl:=yh fr
 unfold wa
 unfold fnV at hF
 clear hA
 generalize aD (findF L cwd to' true).2=E at hF ⊢
 generalize rdB (findF L cwd to' true).2=B at hF ⊢
 obtain ⟨pl,ek,em,el⟩:=B
 obtain ⟨st',out,err⟩:=r
 simp only at hF ⊢
 unfold prC at hF ⊢
 unfold dz
 refine aC (n:=34) (rs:=[.tmp 6]) Tryz.func132 rfl rfl (by decide) rfl rfl rfl ?_;rintro x rfl hrd hng
 rw [dw]
 (try ((first|refine zn ?_|refine ze ?_|refine zk ?_);with_reducible (constructor;repeat constructor));try refine zl ?_)
 refine ao nmd [] hng (by kernel_rfl) fun hf C S K hC1 hC hS hK=>?_;simp (disch:=first|omega|assumption) only [go_sem,Oid.ab hq,Oid.aa hq,Oid.ab hpp,Oid.aa hpp,hpN,hqN,hqp,hqp',hO]
 refine hK ?_;clear hK hS hC hC1 K S C hf
 (try ((first|refine zn ?_|refine ze ?_|refine zk ?_);with_reducible (constructor;repeat constructor));try refine zl ?_)
 refine ao nmd [] hng (by kernel_rfl) fun hf C S K hC1 hC hS hK=>?_;simp (disch:=first|omega|assumption) only [go_sem,Oid.ab hq,Oid.aa hq,Oid.ab hpp,Oid.aa hpp,hpN,hqN,hqp,hqp',hO]
 refine hC1 _ (hF _ (ar rfl hp) (fun h=>hpp (Oid.ae h)) (hO.sub _ _)) (by simp only [List.mem_cons,forall_eq_or_imp];exact ⟨by simp (disch:=first|omega|assumption) only [go_sem,Oid.ab hq,Oid.aa hq,Oid.ab hpp,Oid.aa hpp,hpN,hqN,hqp,hqp',hO],(by first|exact nbu _|exact nbA (by simp [hpN,hqN,hO.mem]) _)⟩) ?_
 simp (disch:=first|omega|assumption) only [go_sem,Oid.ab hq,Oid.aa hq,Oid.ab hpp,Oid.aa hpp,hpN,hqN,hqp,hqp',hO]
 refine hK ?_;clear hK hS hC hC1 K S C hf
 (try ((first|refine zn ?_|refine ze ?_|refine zk ?_);with_reducible (constructor;repeat constructor));try refine zl ?_)
 by_cases hE:E=0
 case neg =>
  rw [if_neg (fun h=>hE h.1)]
  refine ao nmd [(2,22)] hng (by kernel_rfl) fun hf C S K hC1 hC hS hK=>?_;simp (disch:=first|omega|assumption) only [go_sem,Oid.ab hq,Oid.aa hq,Oid.ab hpp,Oid.aa hpp,hpN,hqN,hqp,hqp',hO,hE,decide_true,decide_false,ne_eq,not_true_eq_false,not_false_eq_true]
  refine hK ?_;clear hK hS hC hC1 K S C hf
  (repeat (first|(refine ax rfl rfl ?_)|(refine aw rfl rfl ?_)|(refine ao nmd [] hng (by kernel_rfl) fun hf C S K hC1 hC hS hK=>?_;simp (disch:=first|omega|assumption) only [go_sem,Oid.ab hq,Oid.aa hq,Oid.ab hpp,Oid.aa hpp,hpN,hqN,hqp,hqp',hO];refine hK ?_;clear hK hS hC hC1 K S C hf)|((first|refine zn ?_|refine ze ?_|refine zk ?_);with_reducible (constructor;repeat constructor);try refine zl ?_)))
  refine aA (bh (.str to') _ (by simp (disch:=first|omega|assumption) only [go_sem]) ⟨rfl,rfl⟩ (uN (by show _=some _;simp (disch:=first|omega|assumption) only [go_sem,Oid.ab hq,Oid.aa hq,Oid.ab hpp,Oid.aa hpp,hpN,hqN,hqp,hqp',hO]) (by show _=some _;simp (disch:=first|omega|assumption) only [go_sem,Oid.ab hq,Oid.aa hq,Oid.ab hpp,Oid.aa hpp,hpN,hqN,hqp,hqp',hO]) (by first|exact nbu _|exact nbA (by simp [hpN,hqN,hO.mem]) _)))
 subst hE
 by_cases hk:ek=2
 case neg =>
  rw [if_neg (fun h=>hk h.2)]
  refine ao nmd [(2,22)] hng (by kernel_rfl) fun hf C S K hC1 hC hS hK=>?_;simp (disch:=first|omega|assumption) only [go_sem,Oid.ab hq,Oid.aa hq,Oid.ab hpp,Oid.aa hpp,hpN,hqN,hqp,hqp',hO,hk,eq_self,decide_true,decide_false,ne_eq,not_true_eq_false,not_false_eq_true]
  refine hK ?_;clear hK hS hC hC1 K S C hf
  (repeat (first|(refine ax rfl rfl ?_)|(refine aw rfl rfl ?_)|(refine ao nmd [] hng (by kernel_rfl) fun hf C S K hC1 hC hS hK=>?_;simp (disch:=first|omega|assumption) only [go_sem,Oid.ab hq,Oid.aa hq,Oid.ab hpp,Oid.aa hpp,hpN,hqN,hqp,hqp',hO];refine hK ?_;clear hK hS hC hC1 K S C hf)|((first|refine zn ?_|refine ze ?_|refine zk ?_);with_reducible (constructor;repeat constructor);try refine zl ?_)))
  refine aA (bh (.str to') _ (by simp (disch:=first|omega|assumption) only [go_sem]) ⟨rfl,rfl⟩ (uN (by show _=some _;simp (disch:=first|omega|assumption) only [go_sem,Oid.ab hq,Oid.aa hq,Oid.ab hpp,Oid.aa hpp,hpN,hqN,hqp,hqp',hO]) (by show _=some _;simp (disch:=first|omega|assumption) only [go_sem,Oid.ab hq,Oid.aa hq,Oid.ab hpp,Oid.aa hpp,hpN,hqN,hqp,hqp',hO]) (by first|exact nbu _|exact nbA (by simp [hpN,hqN,hO.mem]) _)))
 subst hk
 rw [if_pos ⟨rfl,rfl⟩]
 refine ao nmd [(2,22)] hng (by kernel_rfl) fun hf C S K hC1 hC hS hK=>?_;simp (disch:=first|omega|assumption) only [go_sem,Oid.ab hq,Oid.aa hq,Oid.ab hpp,Oid.aa hpp,hpN,hqN,hqp,hqp',hO,eq_self,decide_true,decide_false,ne_eq,not_true_eq_false,not_false_eq_true]
 refine hK ?_;clear hK hS hC hC1 K S C hf
 (repeat (first|(refine ax rfl rfl ?_)|(refine aw rfl rfl ?_)|(refine ao nmd [] hng (by kernel_rfl) fun hf C S K hC1 hC hS hK=>?_;simp (disch:=first|omega|assumption) only [go_sem,Oid.ab hq,Oid.aa hq,Oid.ab hpp,Oid.aa hpp,hpN,hqN,hqp,hqp',hO];refine hK ?_;clear hK hS hC hC1 K S C hf)|((first|refine zn ?_|refine ze ?_|refine zk ?_);with_reducible (constructor;repeat constructor);try refine zl ?_)))
 refine ao nmd [] hng (by kernel_rfl) fun hf C S K hC1 hC hS hK=>?_;simp (disch:=first|omega|assumption) only [go_sem,Oid.ab hq,Oid.aa hq,Oid.ab hpp,Oid.aa hpp,hpN,hqN,hqp,hqp',hO]
 refine hC1 _ (hT _) (fun _ h=>by cases h) ?_
 simp (disch:=first|omega|assumption) only [go_sem,Oid.ab hq,Oid.aa hq,Oid.ab hpp,Oid.aa hpp,hpN,hqN,hqp,hqp',hO]
 refine hC1 _ (hB _) (fun _ h=>by cases h) ?_
 simp (disch:=first|omega|assumption) only [go_sem,Oid.ab hq,Oid.aa hq,Oid.ab hpp,Oid.aa hpp,hpN,hqN,hqp,hqp',hO]
 refine hK ?_;clear hK hS hC hC1 K S C hf
 (repeat (first|(refine ax rfl rfl ?_)|(refine aw rfl rfl ?_)|(refine ao nmd [] hng (by kernel_rfl) fun hf C S K hC1 hC hS hK=>?_;simp (disch:=first|omega|assumption) only [go_sem,Oid.ab hq,Oid.aa hq,Oid.ab hpp,Oid.aa hpp,hpN,hqN,hqp,hqp',hO];refine hK ?_;clear hK hS hC hC1 K S C hf)|((first|refine zn ?_|refine ze ?_|refine zk ?_);with_reducible (constructor;repeat constructor);try refine zl ?_)))
 refine aA (bh (.str _) _ (by simp (disch:=first|omega|assumption) only [go_sem]) ⟨rfl,rfl⟩ (uN (by show _=some _;simp (disch:=first|omega|assumption) only [go_sem,Oid.ab hq,Oid.aa hq,Oid.ab hpp,Oid.aa hpp,hpN,hqN,hqp,hqp',hO]) (by show _=some _;simp (disch:=first|omega|assumption) only [go_sem,Oid.ab hq,Oid.aa hq,Oid.ab hpp,Oid.aa hpp,hpN,hqN,hqp,hqp',hO]) (by first|exact nbu _|exact nbA (by simp [hpN,hqN,hO.mem]) _)))
theorem IG (nm inp:Str) (r:Res) (hnm:nm.length≤4000000000) (hre:r.err.length≤1000000000000) (a b s:Str) (ha:a.length≤4000000000) (hb:b.length≤2000000000) (hs:s.length≤4000000000) (h1:RP st N L (findF L cwd b true).1 F F1) (h2:RP st N L (cL L cwd a).1 F1 F2) (hr0:aD (cL L cwd a).2=0) (hrs:rdS (cL L cwd a).2=s) (to':Str) (hto:wa (findF L cwd b true).2 a b=to') (htl:to'.length≤4000000000)
  (h3:RP st N L (b9 L cwd um to' s false).1 F2 F3) (h4:PP st N (bT (b9 L cwd um to' s false).2) F3 F4) (he2:-9223372036854775808≤aD (b9 L cwd um to' s false).2∧aD (b9 L cwd um to' s false).2≤9223372036854775807) :
  UtP pp st cwd um N F F4 55 nm inp [a,b] r (r.add nm to' (aD (b9 L cwd um to' s false).2)):=by
 unfold UtP;intro q p hp hqN hqp hq hpp hO;have hqp':¬ pp=q:=fun e=>hqp e.symm
 have hT:=fun p hp h3 h4 h5=>yk hK hc um hpN nm inp r a b ha (by omega) h1 q p hp hqN hqp h3 h4 h5
 rw [hto] at hT
 have hR:=fun p hp hpp hO=>rj (pp:=pp) (st:=st) hK hc um hpN (p:=p) hp hpp hO a (by omega) h2
 have hW:=fun p hp hpp hO=>mA (pp:=pp) (st:=st) hK hc um hpN (p:=p) hp hpp hO to' (by omega) s (by omega) false h3 h4
 have hX:=fun p hp hq=>kY (pp:=pp) nm inp r to' (aD (b9 L cwd um to' s false).2) hnm htl hre he2 q p hp hq
 unfold rdV at hR
 rw [hr0,hrs] at hR
 clear h1 h2 h3 h4 he2 hr0 hrs hto
 generalize r.add nm to' (aD (b9 L cwd um to' s false).2)=r' at hX ⊢
 generalize aD (b9 L cwd um to' s false).2=E at hW hX
 obtain ⟨st',out,err⟩:=r
 obtain ⟨st2,out2,err2⟩:=r'
 unfold prC at hT hR hW ⊢
 unfold dz at hT hX ⊢
 refine aC (n:=49) (rs:=[]) Tryz.func55 rfl rfl (by decide) rfl rfl rfl ?_;rintro x rfl hrd hng
 rw [dw]
 (repeat (first|(refine ax rfl rfl ?_)|(refine aw rfl rfl ?_)|(refine ao nmd [] hng (by kernel_rfl) fun hf C S K hC1 hC hS hK=>?_;simp (disch:=first|omega|assumption) only [go_sem,Oid.ab hq,Oid.aa hq,Oid.ab hpp,Oid.aa hpp,hpN,hqN,hqp,hqp',hO];refine hK ?_;clear hK hS hC hC1 K S C hf)|((first|refine zn ?_|refine ze ?_|refine zk ?_);with_reducible (constructor;repeat constructor);try refine zl ?_)))
 refine bY nmd [] [] mixed hng (by kernel_rfl) [0,1,4] fun hf C S K hC hS hK=>?_;simp (disch:=first|omega|assumption) only [go_sem,Oid.ab hq,Oid.aa hq,Oid.ab hpp,Oid.aa hpp,hpN,hqN,hqp,hqp',hO]
 refine hC _ (hT _ (ar rfl hp) (fun h=>hq (Oid.ae h)) (fun h=>hpp (Oid.ae h)) (hO.sub _ _)) (by simp only [List.mem_cons,forall_eq_or_imp];exact ⟨by simp (disch:=first|omega|assumption) only [go_sem,Oid.ab hq,Oid.aa hq,Oid.ab hpp,Oid.aa hpp,hpN,hqN,hqp,hqp',hO],by simp (disch:=first|omega|assumption) only [go_sem,Oid.ab hq,Oid.aa hq,Oid.ab hpp,Oid.aa hpp,hpN,hqN,hqp,hqp',hO],(by first|exact nbu _|exact nbA (by simp [hpN,hqN,hO.mem]) _)⟩) ?_
 simp (disch:=first|omega|assumption) only [go_sem,Oid.ab hq,Oid.aa hq,Oid.ab hpp,Oid.aa hpp,hpN,hqN,hqp,hqp',hO]
 (first|refine hK (aH rfl) ?_|refine hK (by simp (disch:=first|omega|assumption) only [go_sem,List.reverse_cons,List.reverse_nil,ne_eq,not_false_eq_true,implies_true]) ?_);clear hK hS hC K S C hf
 (try ((first|refine zn ?_|refine ze ?_|refine zk ?_);with_reducible (constructor;repeat constructor));try refine zl ?_)
 refine bY nmd [] [] mixed hng (by kernel_rfl) [0,1,4,5,6] fun hf C S K hC hS hK=>?_;simp (disch:=first|omega|assumption) only [go_sem,Oid.ab hq,Oid.aa hq,Oid.ab hpp,Oid.aa hpp,hpN,hqN,hqp,hqp',hO]
 refine hC _ (hR _ (ar rfl hp) (fun h=>hpp (Oid.ae h)) (hO.sub _ _)) (by simp only [List.mem_cons,forall_eq_or_imp];exact ⟨by simp (disch:=first|omega|assumption) only [go_sem,Oid.ab hq,Oid.aa hq,Oid.ab hpp,Oid.aa hpp,hpN,hqN,hqp,hqp',hO],(by first|exact nbu _|exact nbA (by simp [hpN,hqN,hO.mem]) _)⟩) ?_
 simp (disch:=first|omega|assumption) only [go_sem,Oid.ab hq,Oid.aa hq,Oid.ab hpp,Oid.aa hpp,hpN,hqN,hqp,hqp',hO]
 (first|refine hK (aH rfl) ?_|refine hK (by simp (disch:=first|omega|assumption) only [go_sem,List.reverse_cons,List.reverse_nil,ne_eq,not_false_eq_true,implies_true]) ?_);clear hK hS hC K S C hf
 (repeat (first|(refine ax rfl rfl ?_)|(refine aw rfl rfl ?_)|(refine ao nmd [] hng (by kernel_rfl) fun hf C S K hC1 hC hS hK=>?_;simp (disch:=first|omega|assumption) only [go_sem];refine hK ?_;clear hK hS hC hC1 K S C hf)|((first|refine zn ?_|refine ze ?_|refine zk ?_);with_reducible (constructor;repeat constructor);try refine zl ?_)))
 refine ao nmd [] hng (by kernel_rfl) fun hf C S K hC1 hC hS hK=>?_;simp (disch:=first|omega|assumption) only [go_sem,Oid.ab hq,Oid.aa hq,Oid.ab hpp,Oid.aa hpp,hpN,hqN,hqp,hqp',hO]
 refine hC1 _ (hW _ (ar rfl hp) (fun h=>hpp (Oid.ae h)) (hO.sub _ _)) (by simp only [List.mem_cons,forall_eq_or_imp];exact ⟨by simp (disch:=first|omega|assumption) only [go_sem,Oid.ab hq,Oid.aa hq,Oid.ab hpp,Oid.aa hpp,hpN,hqN,hqp,hqp',hO],(by first|exact nbu _|exact nbA (by simp [hpN,hqN,hO.mem]) _)⟩) ?_
 simp (disch:=first|omega|assumption) only [go_sem,Oid.ab hq,Oid.aa hq,Oid.ab hpp,Oid.aa hpp,hpN,hqN,hqp,hqp',hO]
 refine hC1 _ (hX _ (ar rfl hp) (fun h=>hq (Oid.ae h))) (by simp (disch:=first|omega|assumption) only [go_sem,Oid.ab hq,Oid.aa hq,Oid.ab hpp,Oid.aa hpp,hpN,hqN,hqp,hqp',hO]) ?_
 simp (disch:=first|omega|assumption) only [go_sem,Oid.ab hq,Oid.aa hq,Oid.ab hpp,Oid.aa hpp,hpN,hqN,hqp,hqp',hO]
 refine hK ?_;clear hK hS hC hC1 K S C hf
 exact bV (bB (.tuple []) _ rfl ⟨rfl,rfl⟩ (jl hqp (by simp (disch:=first|omega|assumption) only [go_sem,Oid.ab hq,Oid.aa hq,Oid.ab hpp,Oid.aa hpp,hpN,hqN,hqp,hqp',hO]) (by show _=some _;simp (disch:=first|omega|assumption) only [go_sem,Oid.ab hq,Oid.aa hq,Oid.ab hpp,Oid.aa hpp,hpN,hqN,hqp,hqp',hO]) (by first|exact nbu _|exact nbA (by simp [hpN,hqN,hO.mem]) _)))
end
end Go.Proofs.YtfbnaalhioogoaaGreatDoor
