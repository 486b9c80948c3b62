/- A part of the proof: the texts S1, FwL, LaidT, SXT, S2, S2b, S6a, S7, S8, S3, S4, S5, S6, S9, S10, S11, S12, S13, S14, FwP, FwM, K0, S16, S17, S23, Del, KA, FwK, FwV, S24, S25, S15, S26, FwN, Z1, Z2, Z3, Z4, one behind the other. -/
import Derived.Test.YtngffmnomciogaaGreatDoorPTc
import Derived.Lib.LaidTab
import Derived.Deep.DeepHandedRow
import Derived.Test.YtngffmnomciogaaGreatDoorRows
import Derived.Test.YtngffmnomciogaaGreatDoorCards
import Derived.Test.YtngffmnomciogaaGreatDoorTie
import Derived.Lib.AtoiAllCases
import Derived.Shelf.Strconv.AtoiAll
import Derived.Lib.ItoaMem
import Derived.Lib.ItoaLen
import Derived.Lib.AtoiTie
import Derived.Sort.Row
import Derived.Shelf.SlicesE.DeleteFunc
import Derived.Test.YtngffmnomciogaaGreatDoorProg
import Derived.WalkKit
import Derived.BigQuiet
import Derived.Deep.QuietTactic
import Derived.Laws.Externs
import Derived.Laws.BitsLemmas
import Derived.Tactics
import Derived.Tactics2
import Derived.KernelRfl
set_option linter.unusedVariables false
set_option linter.unusedSimpArgs false
set_option linter.unusedSectionVars false
namespace Go.Proofs.YtngffmnomciogaaGreatDoor
open Go Go.Ab Go.RowKit
def iC (g:Gh):Prop:=(∃ v,g.com 1 0=some v∧(v = .nilIface∨∃ t p,v = .iface t p))∧∃ v,g.com 2 0=some v∧(v = .nilIface∨∃ t p,v = .iface t p)
theorem iC.mono {g g':Gh} (h:Gh.le g g'):iC g→iC g':=fun ⟨⟨v,h3,h4⟩,u,h5,h6⟩=>⟨⟨v,h.2.1 _ _ _ h3,h4⟩,u,h.2.1 _ _ _ h5,h6⟩
instance Aw:Laid Tryz.prog where
 facts g:=g.row 3=some 20∧(∀ j z,Lib.pow10Tab[j]? = some z→g.com 3 j=some (.int .u64 z))∧(∃ m,g.com 0 0=some (.int .i64 m))∧iC g
 mono h:=fun ⟨h1,h2,⟨m,h7⟩,h8⟩=>⟨h.2.2 _ _ h1,fun j z hz=>h.2.1 _ _ _ (h2 j z hz),⟨m,h.2.1 _ _ _ h7⟩,iC.mono h h8⟩
theorem aab {g:Gh} {w:World} (h:kf Tryz.prog g w):Lib.TabIs Tryz.prog w "internal/strconv.uint64pow10" .u64 Lib.pow10Tab:=by
 obtain ⟨h1,h2,_⟩:=h.facts
 obtain ⟨c,t,fz,h3,h4⟩:=h.rows 3 20 h1
 have hn:Tryz.prog.globalNamed "internal/strconv.uint64pow10" = some 3:=by kernel_rfl
 simp only [Lib.TabIs,World.var?,hn,Option.bind_some,h3]
 congr 1
 apply Array.ext
 ·rw [h4];rfl
 ·intro j h5 h6
  have h7:j < Lib.pow10Tab.length:=by simpa using h6
  have h8:=h.com 3 j _ (h2 j _ (List.getElem?_eq_getElem h7))
  simp only [World.cell?,h3,Option.isSome_none,Bool.false_eq_true,if_false,Array.getElem?_eq_getElem h5,Option.some.injEq] at h8
  simpa using h8
theorem gu (n:Int) (h0:-9223372036854775808≤n) (h1:n≤9223372036854775807) (p:Oid) (hp:p.mono=false):aq Tryz.prog 156 [.int .i64 n] (Oid.under p) ⟨[],.str (Lib.itoa n),[]⟩ :=
 jK (by kernel_rfl) hp fun g args w ha ht=>by
  obtain ⟨v,rfl,hv⟩:=ha.one
  rw [hv.bd]
  refine (Tryz.strconv_Itoa n h0 h1 w (aab ht)).mono ?_
  rintro e w' ⟨rfl,k,os,rfl⟩
  exact ⟨_,rfl,.str _ _ rfl,⟨rfl,rfl,rfl,by simp [Sort.grow,World.drewN],fun b hb=>by simp only [Sort.grow,World.drewN];rw [Array.getElem?_append_left hb]⟩⟩
theorem Ax (q:Oid) (v:AV) (sp:Oid→Prop):aq Tryz.prog 155 [.ptr (.ty 112 q) 0] sp ⟨[(.ty 112 q,.cells [.nilPtr,v])],.tuple [],[(.ty 112 q,some (.cells [.ptr (.ty 112 q) 0,v]))]⟩ :=
 ⟨by kernel_rfl,fun x g args w m hm hn ha hs hx=>by
  obtain ⟨u,rfl,hu⟩:=ha.one
  obtain ⟨b,rfl,hb⟩:=hu.dZ
  have hmid:=hn (.ty 112 q,.cells [.nilPtr,v]) (by simp)
  obtain ⟨b',h1,h2,h3,h4⟩:=hm.gN hmid hb
  rw [hb] at h1;simp only [Option.some.injEq] at h1;subst h1
  obtain ⟨c,t,fz,c1,c2,c3,c4⟩:=h4
  obtain ⟨c',fz',h5⟩:=hm.typs 112 q b hb
  rw [c1] at h5;simp only [Option.some.injEq,Obj.cells.injEq] at h5
  obtain ⟨_,rfl,_⟩:=h5
  have hsz:c.size=2:=c2
  have k0:=c4 0 (by simp)
  have k1:=c4 1 (by simp)
  simp only [List.getD_cons_zero,List.getD_cons_succ] at k0 k1
  have k0':=k0.dq
  have hlt:b < w.heap.size:=(Array.getElem?_eq_some_iff.1 c1).1
  have hg0:c[0]? = some (.pointer none):=by
   rw [Array.getD_eq_getD_getElem?] at k0'
   rw [Array.getElem?_eq_getElem (by omega)] at k0' ⊢
   simpa using k0'
  have hf:¬ (fz.1≤0∧0 < fz.2):=c3 0 (by omega)
  refine (la b w (by simp [World.cell?,c1,hg0]) (by simp [World.shape?,c1,hsz]) (by
   obtain ⟨lo,hi⟩:=fz
   simp only [World.frozen?,c1]
   simp only at hf
   by_cases h:lo≤0
   ·have:¬ 0 < hi:=fun h'=>hf ⟨h,h'⟩
    simp [this]
   ·simp [h])).mono ?_
  rintro e w' ⟨rfl,rfl⟩
  have hnew:(w.setCell ⟨b,0,none⟩ (.pointer (some ⟨b,0,none⟩))).heap[b]? = some (.cells (c.setIfInBounds 0 (.pointer (some ⟨b,0,none⟩))) 112 fz):=by simp [World.setCell,Array.getElem?_modify,c1]
  refine ⟨g,_,rfl,Gh.le_refl g,fun _ _=>rfl,.tuple _ _ rfl (fun j hj=>absurd hj (Nat.not_lt_zero _)),?_⟩
  refine hm.fS (o:=.cells [.ptr (.ty 112 q) 0,v]) (w':=w.setCell ⟨b,0,none⟩ (.pointer (some ⟨b,0,none⟩))) hmid hb rfl rfl ⟨rfl,Nat.le_refl _⟩ (by simp [World.setCell]) (fun k hk _=>Below.heap_setCell w ⟨b,0,none⟩ _ k hk) (fun r hr=>?_) (fun c9 t9 fz9 h9=>?_) ?_
  ·obtain ⟨c',t',fz',h6,h7⟩:=hm.rows b r hr
   rw [c1] at h6;simp only [Option.some.injEq,Obj.cells.injEq] at h6
   obtain ⟨rfl,rfl,rfl⟩:=h6
   exact ⟨_,_,_,hnew,by simp [h7]⟩
  ·rw [c1] at h9;simp only [Option.some.injEq,Obj.cells.injEq] at h9
   obtain ⟨rfl,rfl,rfl⟩:=h9
   exact ⟨_,_,hnew⟩
  ·refine ⟨_,_,_,hnew,by simp [hsz],fun j hj=>c3 j (by simpa using hj),fun j hj=>?_⟩
   have hj2:j < 2:=hj
   match j,hj2 with
   | 0,_ =>
    simp only [List.getD_cons_zero,Array.getD_eq_getD_getElem?]
    rw [Array.getElem?_setIfInBounds_self_of_lt (by omega)]
    exact .ptr _ 0 b hb
   | 1,_ =>
    simp only [List.getD_cons_succ,List.getD_cons_zero,Array.getD_eq_getD_getElem?]
    rw [Array.getElem?_setIfInBounds_ne (by omega),← Array.getD_eq_getD_getElem?]
    exact k1⟩
theorem RC (q:Oid) (v:AV) (sp:Oid→Prop):aq Tryz.prog 155 [.ptr q 0] sp ⟨[(q,.cells [.ptr q 0,v])],.tuple [],[]⟩ :=
 ⟨by kernel_rfl,fun x g args w m hm hn ha hs hx=>by
  obtain ⟨u,rfl,hu⟩:=ha.one
  obtain ⟨b,rfl,hb⟩:=hu.dZ
  have hmid:=hn (q,.cells [.ptr q 0,v]) (by simp)
  obtain ⟨b',h1,h2,h3,h4⟩:=hm.gN hmid hb
  rw [hb] at h1;simp only [Option.some.injEq] at h1;subst h1
  obtain ⟨c,t,fz,c1,c2,c3,c4⟩:=h4
  have hsz:c.size=2:=c2
  have k0:=c4 0 (by simp)
  simp only [List.getD_cons_zero] at k0
  obtain ⟨b2,k0',hb2⟩:=k0.dZ
  rw [hb] at hb2;simp only [Option.some.injEq] at hb2;subst hb2
  have hg0:c[0]? = some (.pointer (some ⟨b,0,none⟩)):=by
   rw [Array.getD_eq_getD_getElem?] at k0'
   rw [Array.getElem?_eq_getElem (by omega)] at k0' ⊢
   simpa using k0'
  refine (l5 b w (by simp [World.cell?,c1,hg0])).mono ?_
  rintro e w' ⟨rfl,rfl⟩
  exact ⟨g,_,rfl,Gh.le_refl g,fun _ _=>rfl,.tuple _ _ rfl (fun j hj=>absurd hj (Nat.not_lt_zero _)),hm⟩⟩
end Go.Proofs.YtngffmnomciogaaGreatDoor
namespace Go.Ab
open Go.ChangeShapes Go.WideShapes
section
variable {β:Type}
theorem law_lifted_row {C:Checked} [Laid C.prog] {os:Os} {f:FuncId} {fn:Func} {s:ChangeSpec} {F:Stop.Interp} {conds:List PathCond} {laid:List (String × DataW Unit)} {tb:TypeId} {H:Type} {enc:TypeId × Value→H} {ts:List TypeId} {B:β→List AV} {W:β→Prop}
  (own:ownKnob C.prog.godebug=none) (started:os.Started) (noInit:C.prog.inits.idxOf? f=none) (hfn:C.prog.funcs[f]? = some fn)
  (witness:∃ (w:World) (tape:Tape) (i:Input),w.os=os∧(w.forCall tape i).Shaped C.prog∧i.vars=[]∧Input.okWide C.prog (w.forCall tape i) .any w.heap.size f i ∧
   (OpenSpec.ofChange s).preRow enc C.prog fn conds false laid (w.forCall tape i).memory i.args∧({}:Assume).holds C.prog (lone (Frame.enter C.prog f i.args .normal) [] (w.forCall tape i)))
  (hl:laidOutB C.prog=true) (hz:∀ t e,t < C.prog.types.size→C.prog.underlying t=some (.slice e)→0 < C.prog.cellsOf e) (hp:fn.params.toList=ts) (hrB:(ts.all fun t=>C.prog.readableRec t && decide (t < C.prog.types.size))=true)
  (hrt:fn.resultTypes=#[tb]) (htb:C.prog.underlying tb=some .bool) (hv:s.vars=[]) (hs:∀ ds:List (DataW H),ds.length=ts.length→s.fn H ds={ results:=[.lit (.bool true)],args:=ds })
  (hA:RdA C.prog ts B W) (hc:∀ b,W b→aq C.prog f (B b) (Oid.under (.root C.prog.globals.size)) ⟨[],.bool true,[]⟩) (hLaid:∀ W:World,laidMetH C.prog laid W→W.ShapedOpen C.prog→Laid.facts C.prog (cM C.prog.globals.size W)) :
  ReturnsInHanded {} C os f .any ((OpenSpec.ofChange s).preRow enc C.prog fn conds false laid) (((OpenSpec.ofChange s).at F).post enc C.prog fn false true false false):=by
 have hr:∀ t ∈ ts,C.prog.readableRec t=true∧t < C.prog.types.size:=fun t ht=>by
  have:=List.all_eq_true.1 hrB t ht
  simpa using this
 refine returnsInHanded_of_row own started noInit hfn witness ?_
 intro w base args ds gs before hval hW _ _ hsz hlaid hopen _
 have hW:DataW.Whole enc C.prog fn.params.toList s.vars false w args.toList ds gs before:=hW
 have hsz:(DataW.weightsEach C.prog (fn.params.toList++s.plain.varTypes C.prog) (ds++gs)).all (· ≤ reachBytes)=true:=hsz
 have hW':=hW
 obtain ⟨p,q,hT,hV,rfl,hfz,hnd⟩:=hW
 rw [hv] at hV
 obtain ⟨rfl,rfl⟩:=trodVars_none hV
 have hlen:=gY hT
 rw [hp] at hT hlen
 have hvt:s.plain.varTypes C.prog=[]:=by
  have:s.plain.vars=[]:=hv
  unfold DataSpec.varTypes;rw [this];rfl
 rw [hvt,List.append_nil,List.append_nil,List.all_eq_true,hp] at hsz
 obtain ⟨b,k1,k2,k3⟩:=hA.rd (ng:=C.prog.globals.size) (fun j t v ht hv'=>hval j t v (by rw [← Array.getElem?_toList,hp];exact ht) (by rw [← Array.getElem?_toList];exact hv')) hT fun n hn=>by simpa using hsz n hn
 refine yX hl hz (by rw [hp];exact hr) hrt htb hv hW' (hs ds hlen) (avs:=B b) ⟨by simpa using k2,fun j hj=>?_⟩ (hc b k1) (hLaid _ hlaid hopen)
 have:=k3 j (by rw [k2];exact hj)
 simpa [List.getD_eq_getElem?_getD,Array.getD_eq_getD_getElem?] using this
end
theorem qY {ng:Nat} {P:Program} {W:World} {name:String} {k:IntKind} {zs:List Int} {g:Nat} (hg:P.globalNamed name=some g) (h:Lib.TabIs P W name k zs) :
  (cM ng W).row g=some zs.length∧∀ j z,zs[j]? = some z→(cM ng W).com g j=some (.int k z):=by
 simp only [Lib.TabIs,World.var?,hg,Option.bind_some] at h
 cases hw:W.heap[g]? with
 | none=>rw [hw] at h;cases h
 | some o =>
  rw [hw] at h
  cases o with
  | cells c t fz =>
   simp only [Option.some.injEq] at h
   subst h
   refine ⟨by simp [cM,hw],fun j z hz=>ke ?_ rfl⟩
   simp [World.cell?,hw,hz]
  | _=>cases h
theorem nL {ng:Nat} {P:Program} {W:World} {name nm:String} {d:DataW Unit} {g:Nat} {ti:TypeId} {ms:Array (String × TypeId)} (hg:P.globalNamed name=some g) (hty:(P.globals[g]?).map (·.type)=some ti) (hi:P.underlying ti=some (.interface ms))
  {l:List (String × DataW Unit)} (hm:(name,.iface nm d) ∈ l) (h:laidMet P l W):∃ v,(cM ng W).com g 0=some v∧(v = .nilIface∨∃ t p,v = .iface t p):=by
 obtain ⟨ps,hl,_,_⟩:=h
 have key:∀ {l:List (String × DataW Unit)} {ps:List MemPlace},DataW.LaidVars P W l ps→(name,.iface nm d) ∈ l→∃ t p,W.cell? ⟨g,0,none⟩=some (.iface t p):=by
  intro l
  induction l with
  | nil=>intro ps _ hm;cases hm
  | cons x r ih =>
   obtain ⟨n,e⟩:=x
   intro ps hl hm
   obtain ⟨g',t,cs,fuel,p,q,h1,h2,h3,h4,h5,_⟩:=hl
   rcases List.mem_cons.1 hm with hm|hm
   ·simp only [Prod.mk.injEq] at hm
    obtain ⟨rfl,rfl⟩:=hm
    rw [hg] at h1;simp only [Option.some.injEq] at h1;subst h1
    rw [hty] at h2;simp only [Option.some.injEq] at h2;subst h2
    obtain ⟨_,u,v,h6,_,_⟩:=iface_of_trod hi h4
    simp only [World.var?,hg,Option.bind_some] at h3
    cases hw:W.heap[g]? with
    | none=>rw [hw] at h3;cases h3
    | some o =>
     rw [hw] at h3
     cases o with
     | cells c t' fz =>
      simp only [Option.some.injEq] at h3
      subst h3
      refine ⟨u,v,?_⟩
      have h7:c[0]? = some (.iface u v):=by rw [← Array.getElem?_toList,h6];rfl
      simp [World.cell?,hw,h7]
     | _=>cases h3
   ·exact ih h5 hm
 obtain ⟨t,p,hc⟩:=key hl hm
 exact ⟨_,ke hc rfl,.inr ⟨t,p,rfl⟩⟩
theorem sI {P:Program} {W:World} {name:String} {k:IntKind} {zs:List Int} {g:Nat} {t e:TypeId} {n:Nat} (hg:P.globalNamed name=some g) (hty:(P.globals[g]?).map (·.type)=some t) (ht:P.underlying t=some (.array n e)) (he:P.underlying e=some (.int k)) (hce:P.cellsOf e=1) (hct:P.cellsOf t=n)
  {l:List (String × DataW Unit)} (hm:(name,Lib.tabData k zs) ∈ l) (h:laidMet P l W):Lib.TabIs P W name k zs:=by
 obtain ⟨ps,hl,h1,h2⟩:=h
 clear h1 h2
 induction l generalizing ps with
 | nil=>cases hm
 | cons x r ih =>
  obtain ⟨n',d⟩:=x
  obtain ⟨g',t',cs,fuel,p,q,h1,h2,h3,h4,h5,_⟩:=hl
  rcases List.mem_cons.1 hm with hm|hm
  ·simp only [Prod.mk.injEq] at hm
   obtain ⟨rfl,rfl⟩:=hm
   rw [hg] at h1;simp only [Option.some.injEq] at h1;subst h1
   rw [hty] at h2;simp only [Option.some.injEq] at h2;subst h2
   have:=Lib.cells_of_tab ht he hce hct h4
   show W.var? P name=_
   rw [h3,← this]
  ·exact ih hm q h5
end Go.Ab
namespace Go.Proofs.YtngffmnomciogaaGreatDoor
open Go Go.Ab Go.ChangeShapes Go.WideShapes Go.RowKit
set_option maxRecDepth 100000
def LL:List (String × DataW Unit):=[("math/bits.deBruijn32tab",Rows.laid_math_bits_deBruijn32tab),("math/bits.deBruijn64tab",Rows.laid_math_bits_deBruijn64tab),("internal/strconv.uint64pow10",Rows.laid_internal_strconv_uint64pow10),("unicode/utf8.acceptRanges",Rows.laid_unicode_utf8_acceptRanges),("strconv.ErrRange",Rows.laid_strconv_ErrRange),("strconv.ErrSyntax",Rows.laid_strconv_ErrSyntax),("unicode/utf8.first",Rows.laid_unicode_utf8_first)]
def sJ (c:Array Value):Obj→Obj
 | .cells _ t fz=>.cells c t fz
 | o=>o
def Ay (h:Array Obj):Array Obj:=(((((((h.modify 6 (sJ #[.int .u8 0,.int .u8 1,.int .u8 28,.int .u8 2,.int .u8 29,.int .u8 14,.int .u8 24,.int .u8 3,.int .u8 30,.int .u8 22,.int .u8 20,.int .u8 15,.int .u8 25,.int .u8 17,.int .u8 4,.int .u8 8,.int .u8 31,.int .u8 27,.int .u8 13,.int .u8 23,.int .u8 21,.int .u8 19,.int .u8 16,.int .u8 7,.int .u8 26,.int .u8 12,.int .u8 18,.int .u8 6,.int .u8 11,.int .u8 5,.int .u8 10,.int .u8 9])).modify 7 (sJ #[.int .u8 0,.int .u8 1,.int .u8 56,.int .u8 2,.int .u8 57,.int .u8 49,.int .u8 28,.int .u8 3,.int .u8 61,.int .u8 58,.int .u8 42,.int .u8 50,.int .u8 38,.int .u8 29,.int .u8 17,.int .u8 4,.int .u8 62,.int .u8 47,.int .u8 59,.int .u8 36,.int .u8 45,.int .u8 43,.int .u8 51,.int .u8 22,.int .u8 53,.int .u8 39,.int .u8 33,.int .u8 30,.int .u8 24,.int .u8 18,.int .u8 12,.int .u8 5,.int .u8 63,.int .u8 55,.int .u8 48,.int .u8 27,.int .u8 60,.int .u8 41,.int .u8 37,.int .u8 16,.int .u8 46,.int .u8 35,.int .u8 44,.int .u8 21,.int .u8 52,.int .u8 32,.int .u8 23,.int .u8 11,.int .u8 54,.int .u8 26,.int .u8 40,.int .u8 15,.int .u8 34,.int .u8 20,.int .u8 31,.int .u8 10,.int .u8 25,.int .u8 14,.int .u8 19,.int .u8 9,.int .u8 13,.int .u8 8,.int .u8 7,.int .u8 6])).modify 3 (sJ #[.int .u64 1,.int .u64 10,.int .u64 100,.int .u64 1000,.int .u64 10000,.int .u64 100000,.int .u64 1000000,.int .u64 10000000,.int .u64 100000000,.int .u64 1000000000,.int .u64 10000000000,.int .u64 100000000000,.int .u64 1000000000000,.int .u64 10000000000000,.int .u64 100000000000000,.int .u64 1000000000000000,.int .u64 10000000000000000,.int .u64 100000000000000000,.int .u64 1000000000000000000,.int .u64 10000000000000000000])).modify 5 (sJ #[.int .u8 128,.int .u8 191,.int .u8 160,.int .u8 191,.int .u8 128,.int .u8 159,.int .u8 144,.int .u8 191,.int .u8 128,.int .u8 143,.int .u8 0,.int .u8 0,.int .u8 0,.int .u8 0,.int .u8 0,.int .u8 0,.int .u8 0,.int .u8 0,.int .u8 0,.int .u8 0,.int .u8 0,.int .u8 0,.int .u8 0,.int .u8 0,.int .u8 0,.int .u8 0,.int .u8 0,.int .u8 0,.int .u8 0,.int .u8 0,.int .u8 0,.int .u8 0])).modify 2 (sJ #[.iface 267 (.pointer (some ⟨13,0,none⟩))])).modify 1 (sJ #[.iface 267 (.pointer (some ⟨14,0,none⟩))])).modify 4 (sJ ((Go.Pinned.utf8FirstZ.map fun (n:Nat)=>Value.int .u8 (n:Int)).toArray)))++#[.cells #[.string ⟨#[118,97,108,117,101,32,111,117,116,32,111,102,32,114,97,110,103,101]⟩] 269 (0,0),.cells #[.string ⟨#[105,110,118,97,108,105,100,32,115,121,110,116,97,120]⟩] 269 (0,0)]
noncomputable def laidWorld (os:Os):World:={ World.holding Tryz.prog os ⟨#[],#[],[]⟩ with heap:=Ay (World.holding Tryz.prog os ⟨#[],#[],[]⟩).heap }
theorem laid_met (os:Os) (args:Array Value):laidMet Tryz.prog LL ((laidWorld os).forCall (fun _ _=>0) ⟨#[],args,[]⟩).memory :=
 laidMet_of_run' 8 (by kernel_rfl) (by kernel_rfl)
theorem aac {W:World} (h:laidMetH Tryz.prog LL W):laidMet Tryz.prog LL W:=h
end Go.Proofs.YtngffmnomciogaaGreatDoor
namespace Go.Proofs.YtngffmnomciogaaGreatDoor
open Go Go.Ab
set_option maxRecDepth 100000
instance Sz:Laid Tryz.checked.prog:=Aw
theorem own:ownKnob Tryz.prog.godebug=none:=by kernel_rfl
theorem laidOut:laidOutB Tryz.prog=true:=by kernel_rfl
theorem full:∀ t e,t < Tryz.prog.types.size→Tryz.prog.underlying t=some (.slice e)→0 < Tryz.prog.cellsOf e:=slices_full_of _ (by kernel_rfl)
theorem Az {W:World} (h':laidMet Tryz.prog LL W):iC (cM Tryz.prog.globals.size W) :=
 ⟨nL (P:=Tryz.prog) (name := "strconv.ErrSyntax") (ti:=114) (by kernel_rfl) (by kernel_rfl) Tryz.underlying114 (l:=LL) (List.mem_cons_of_mem _ (List.mem_cons_of_mem _ (List.mem_cons_of_mem _ (List.mem_cons_of_mem _ (List.mem_cons_of_mem _ List.mem_cons_self))))) h',
  nL (P:=Tryz.prog) (name := "strconv.ErrRange") (ti:=114) (by kernel_rfl) (by kernel_rfl) Tryz.underlying114 (l:=LL) (List.mem_cons_of_mem _ (List.mem_cons_of_mem _ (List.mem_cons_of_mem _ (List.mem_cons_of_mem _ List.mem_cons_self)))) h'⟩
theorem laid_facts {W:World} (h:laidMetH Tryz.prog LL W) (ho:W.ShapedOpen Tryz.prog):Laid.facts Tryz.prog (cM Tryz.prog.globals.size W):=by
 have h':=aac h
 have ht:Lib.TabIs Tryz.prog W "internal/strconv.uint64pow10" .u64 Lib.pow10Tab :=
  sI (g:=3) (t:=263) (e:=230) (n:=20) (by kernel_rfl) (by kernel_rfl) (by kernel_rfl) (by kernel_rfl) (by kernel_rfl) (by kernel_rfl) (l:=LL) (List.mem_cons_of_mem _ (List.mem_cons_of_mem _ List.mem_cons_self)) h'
 have hn:Tryz.prog.globalNamed "internal/strconv.uint64pow10" = some 3:=by kernel_rfl
 obtain ⟨t1,t2⟩:=qY (ng:=Tryz.prog.globals.size) hn ht
 obtain ⟨m,hm⟩:=cell_of_shapedOpen_int (P:=Tryz.prog) (g:=0) (zero:=#[.int .i64 0]) (t:=3) ho (of_decide_eq_true (by kernel_rfl)) (by kernel_rfl) rfl (by kernel_rfl) (by kernel_rfl) Tryz.underlying3
 exact ⟨t1,t2,⟨m,ke hm rfl⟩,Az h'⟩
end Go.Proofs.YtngffmnomciogaaGreatDoor
namespace Go.Proofs.YtngffmnomciogaaGreatDoor
open Go Go.Ab
set_option maxRecDepth 20000
set_option maxHeartbeats 2000000
theorem SA {v:OpR}:gdR True v=v:=if_pos trivial
theorem oY {need:List (Oid × aj)} {upd:List (Oid × Option aj)} {m:Mem} (h1:∀ q,q ∈ upd→∀ o,q.2=some o→m q.1=some o) (h2:∀ q,q ∈ need→(∀ r,r ∈ upd→¬ r.1=q.1)→m q.1=some q.2) (i:Oid) (o:aj)
  (h:((Mem.of need).aF upd) i=some o):m i=some o:=by
 by_cases hk:∃ q ∈ upd,q.1=i
 ·obtain ⟨q',k1,k2,k3⟩:=gX (m:=Mem.of need) hk
  rw [k3] at h
  rw [← k2];exact h1 q' k1 o h
 ·rw [aT fun q hq e=>hk ⟨q,hq,e⟩] at h
  obtain ⟨q,k1,rfl,rfl⟩:=Mem.dy h
  exact h2 q k1 fun r hr e=>hk ⟨r,hr,e⟩
theorem aS {P:Program} {rs:List ResultVar} {need:List (Oid × aj)} {fr:List (Nat × AV)} {m:Mem} {c:Nat} {val:AV} {upd:List (Oid × Option aj)} (h1:fH P m fr rs=some val)
  (h2:∀ q,q ∈ upd→∀ o,q.2=some o→m q.1=some o) (h3:∀ q,q ∈ need→(∀ r,r ∈ upd→¬ r.1=q.1)→m q.1=some q.2):dJ P rs need (fun v u=>v=val∧u=upd) (fun _ _=>False) .ret ⟨fr,m,c,[]⟩ :=
 bm val upd h1 ⟨rfl,rfl⟩ (oY h2 h3)
theorem AA (q:Oid) (s:List UInt8) (hl:s.length≤140737488355328) (p:Oid) (hq:¬ Oid.under p (.ty 112 q)) :
  aq Tryz.prog 180 [.ptr (.ty 112 q) 0,.str s] (Oid.under p) ⟨[(.ty 112 q,.cells [.nilPtr,.nilSl])],.tuple [.int .i64 s.length,.nilIface],
   [(.ty 112 q,some (.cells [.ptr (.ty 112 q) 0,.sl (.ty 5 (.sub 2 6 p)) 1 s.length])),(.ty 5 (.sub 2 6 p),some (.arr 1 (s.map byA)))]⟩:=by
 refine aV (n:=19) (rs:=[.tmp 4,.tmp 5]) Tryz.func180 rfl rfl (by decide) rfl rfl rfl ?_;rintro x rfl hrd hng
 (repeat (first|(refine aB rfl rfl ?_)|(refine aC rfl rfl ?_)|(refine ay nmd [] hng (by kernel_rfl) fun hf C S K hC1 hC hS hK=>?_;simp (disch:=first|omega|assumption) only [go_sem];(repeat ((first|refine hC1 _ (Ax _ .nilSl _) (by simp (disch:=first|omega|assumption) only [go_sem]) ?_);simp (disch:=first|omega|assumption) only [go_sem]));refine hK ?_;clear hK hS hC hC1 K S C hf)|((first|refine zn ?_|refine ze ?_|refine zk ?_);with_reducible (constructor;repeat constructor);try refine zl ?_)))
 refine aE (aS rfl ?_ ?_)
 all_goals simp only [List.mem_cons,List.not_mem_nil,or_false,forall_eq_or_imp,forall_eq,Option.some.injEq,forall_eq',Mem.ao,eq_self,if_true,↓reduceIte,reduceCtorEq,implies_true,not_true_eq_false,false_imp_iff,true_and,and_true,false_and,and_false,imp_self,Oid.dK hq,Oid.eQ hq]
 rfl
theorem RE (q r:Oid) (s0 s:List UInt8) (hl:s0.length+s.length≤140737488355328) (p:Oid) (hq:¬ Oid.under p (.ty 112 q)) (hr:¬ Oid.under p (.ty 5 r)) :
  aq Tryz.prog 180 [.ptr (.ty 112 q) 0,.str s] (Oid.under p) ⟨[(.ty 112 q,.cells [.ptr (.ty 112 q) 0,.sl (.ty 5 r) 1 s0.length]),(.ty 5 r,.arr 1 (s0.map byA))],.tuple [.int .i64 s.length,.nilIface],
   [(.ty 112 q,some (.cells [.ptr (.ty 112 q) 0,.sl (.ty 5 (.sub 2 6 p)) 1 (s0++s).length])),(.ty 5 r,none),(.ty 5 (.sub 2 6 p),some (.arr 1 ((s0++s).map byA)))]⟩:=by
 have hr':(Oid.ty 5 r=Oid.ty 5 (.sub 2 6 p))=False:=Oid.dK hr _ _ _
 refine aV (n:=19) (rs:=[.tmp 4,.tmp 5]) Tryz.func180 rfl rfl (by decide) rfl rfl rfl ?_;rintro x rfl hrd hng
 (repeat (first|(refine aB rfl rfl ?_)|(refine aC rfl rfl ?_)|(refine ay nmd [] hng (by kernel_rfl) fun hf C S K hC1 hC hS hK=>?_;simp (disch:=first|omega|assumption) only [go_sem];(repeat ((first|refine hC1 _ (RC _ (.sl (.ty 5 r) 1 s0.length) _) (by simp (disch:=first|omega|assumption) only [go_sem]) ?_);simp (disch:=first|omega|assumption) only [go_sem]));refine hK ?_;clear hK hS hC hC1 K S C hf)|((first|refine zn ?_|refine ze ?_|refine zk ?_);with_reducible (constructor;repeat constructor);try refine zl ?_)))
 refine aE (aS rfl ?_ ?_)
 all_goals simp only [List.mem_cons,List.not_mem_nil,or_false,forall_eq_or_imp,forall_eq,Option.some.injEq,forall_eq',Mem.ao,eq_self,if_true,↓reduceIte,reduceCtorEq,implies_true,not_true_eq_false,false_imp_iff,true_and,and_true,false_and,and_false,imp_self,Oid.dK hq,Oid.eQ hq,Oid.dK hr,Oid.eQ hr,List.length_append,List.map_append]
 rfl
theorem wS (q r:Oid) (s:List UInt8) (h0:0 < s.length) (hl:s.length≤140737488355328) (p:Oid) :
  aq Tryz.prog 90 [.ptr (.ty 112 q) 0] (Oid.under p) ⟨[(.ty 112 q,.cells [.ptr (.ty 112 q) 0,.sl (.ty 5 r) 1 s.length]),(.ty 5 r,.arr 1 (s.map byA))],.str s,[(.ty 5 r,none)]⟩:=by
 refine aV (n:=14) (rs:=[.tmp 2]) Tryz.func90 rfl rfl (by decide) rfl rfl rfl ?_;rintro x rfl hrd hng
 refine qw0 ?_
 refine qd (.d [] [] [0,2]) trivial trivial ?_
 refine aE (aS rfl ?_ ?_)
 all_goals simp only [List.mem_cons,List.not_mem_nil,or_false,forall_eq_or_imp,forall_eq,Option.some.injEq,forall_eq',Mem.ao,eq_self,if_true,↓reduceIte,reduceCtorEq,implies_true,not_true_eq_false,false_imp_iff,true_and,and_true,false_and,and_false,imp_self]
theorem sK (q:Oid) (p:Oid) :
  aq Tryz.prog 90 [.ptr (.ty 112 q) 0] (Oid.under p) ⟨[(.ty 112 q,.cells [.nilPtr,.nilSl])],.str [],[]⟩:=by
 refine aV (n:=14) (rs:=[.tmp 2]) Tryz.func90 rfl rfl (by decide) rfl rfl rfl ?_;rintro x rfl hrd hng
 refine qw0 ?_
 refine cD nmd [] [] mixed hng (by kernel_rfl) [0,2] fun hf C S K hC hS hK=>?_;simp (disch:=first|omega|assumption) only [go_sem,SA]
 (first|refine hK (aJ rfl) ?_|refine hK (by simp (disch:=first|omega|assumption) only [go_sem,List.reverse_cons,List.reverse_nil,ne_eq,not_false_eq_true,implies_true]) ?_);clear hK hS hC K S C hf
 refine aE (aS rfl ?_ ?_)
 all_goals simp only [List.mem_cons,List.not_mem_nil,or_false,forall_eq_or_imp,forall_eq,Option.some.injEq,forall_eq',Mem.ao,eq_self,if_true,↓reduceIte,reduceCtorEq,implies_true,not_true_eq_false,false_imp_iff,true_and,and_true,false_and,and_false,imp_self]
end Go.Proofs.YtngffmnomciogaaGreatDoor
namespace Go.Proofs.YtngffmnomciogaaGreatDoor
open Go Go.Ab Go.RowKit
set_option maxRecDepth 20000
set_option maxHeartbeats 2000000
abbrev Str:=List UInt8
theorem ar {c i:Nat} {p:Oid} (hi:(i == 999983)=false) (hp:p.mono=false):(Oid.sub c i p).mono=false:=by rw [Oid.pS,hi,hp];rfl
def bu (s:Str):Int:=match Lib.atoiAll s with | .ok v=>v | .range=>Lib.atoiSat s|_=>0
def jL (s:Str):Bool:=match Lib.atoiAll s with | .ok _=>true|_=>false
def nO (s:Str):AV:=if jL s=true then .nilIface else .iface 216 .undef
theorem qZ (w:World) (e:TypeId) (s:ByteArray):Below w.heap.size w (Lib.bytesWorld w e s):=by
 unfold Lib.bytesWorld
 exact Lib.below_freeze ((Below.drew (Below.refl _ w)).alloc (Nat.le_refl _) _) (p:=⟨w.heap.size,_,none⟩) (Nat.le_refl _) _
theorem tK (s:Str) (hl:s.length≤281474976710656) (p:Oid) (hp:p.mono=false):aq Tryz.prog 159 [.str s] (Oid.under p) ⟨[],.tuple [.int .i64 (bu s),nO s],[]⟩ :=
 jK (by kernel_rfl) hp fun g args w ha ht=>by
  obtain ⟨v,rfl,hv⟩:=ha.one
  obtain ⟨b,rfl,hb⟩:=hv.bn
  obtain ⟨_,_,_,⟨v1,h1,h2⟩,v2,h3,h4⟩:=ht.facts
  have hsz:b.size=s.length:=by rw [← hb];simp
  have pair:∀ (x y:AV) (u v:Value),VR g x u→VR g y v→VR g (.tuple [x,y]) (.tuple #[u,v]):=fun x y u v hx hy=>.tuple _ _ rfl (fun j hj=>by
   match j,hj with
   | 0,_=>exact hx
   | 1,_=>exact hy)
  cases hc:Lib.atoiAll s with
  | ok n =>
   refine (Tryz.strconv_Atoi_ok b (by omega) n (by rw [hb];exact hc) w).mono ?_
   rintro e w' ⟨rfl,hw⟩
   refine ⟨_,rfl,pair _ _ _ _ ?_ ?_,?_⟩
   ·simp only [bu,hc];exact .int _ _
   ·simp only [nO,jL,hc,if_true];exact .nilIface
   ·rcases hw with rfl|⟨t,rfl⟩
    ·exact Below.refl _ _
    ·exact qZ _ _ _
  | range =>
   refine (Tryz.strconv_Atoi_range b (by omega) (by rw [hb];exact hc) v2 w (ht.com 2 0 _ h3) h4).mono ?_
   rintro e w' ⟨N,rfl,_,_,hw⟩
   refine ⟨_,rfl,pair _ _ _ _ ?_ ?_,hw⟩
   ·simp only [bu,hc,hb];exact .int _ _
   ·simp only [nO,jL,hc,Bool.false_eq_true,if_false];exact .iface _ _ _ (.unk _)
  | _ =>
   refine (Any.strconv_Atoi_syntax Tryz.l6 b (by omega) (by rw [hb];exact hc) v1 w (ht.com 1 0 _ h1) h2).mono ?_
   rintro e w' ⟨N,rfl,_,_,hw⟩
   refine ⟨_,rfl,pair _ _ _ _ ?_ ?_,hw⟩
   ·simp only [bu,hc];exact .int _ _
   ·simp only [nO,jL,hc,Bool.false_eq_true,if_false];exact .iface _ _ _ (.unk _)
def ew (s:Str):Bool:=jL s && decide (0≤bu s) && decide (s.length≤9) && decide (Lib.itoa (bu s)=s)
theorem oZ (s:Str):-9223372036854775808≤bu s∧bu s≤9223372036854775807:=by
 unfold bu
 split
 ·exact Lib.atoiAll_bounds (by assumption)
 ·unfold Lib.atoiSat;split<;>omega
 ·omega
theorem aad {s:Str} (h:jL s=false):ew s=false:=by simp [ew,h]
theorem aae {s:Str} (h:¬ 0≤bu s):ew s=false:=by simp [ew,h]
theorem AB {s:Str} (h:¬ s.length≤9):ew s=false:=by simp only [ew,decide_eq_false h,Bool.and_false,Bool.false_and]
theorem aaf {s:Str} (h:jL s=true) (h2:0≤bu s) (h3:s.length≤9):ew s=decide (Lib.itoa (bu s)=s):=by simp only [ew,h,decide_eq_true h2,decide_eq_true h3,Bool.true_and]
theorem wT (s:Str) (hl:s.length≤281474976710656) (p:Oid) (hp:p.mono=false):aq Tryz.prog 98 [.str s] (Oid.under p) ⟨[],.tuple [.int .i64 (bu s),.bool (ew s)],[]⟩:=by
 obtain ⟨hb1,hb2⟩:=oZ s
 cases hg:jL s with
 | true =>
  have hZ:∀ p:Oid,p.mono=false→aq Tryz.prog 159 [.str s] (Oid.under p) ⟨[],.tuple [.int .i64 (bu s),.nilIface],[]⟩:=fun p hp=>by have:=tK s hl p hp;rwa [nO,if_pos hg] at this
  refine aV (n:=29) (rs:=[.tmp 2,.tmp 3]) Tryz.func98 rfl rfl (by decide) rfl rfl rfl ?_;rintro x rfl hrd hng
  (repeat (first|(refine aB rfl rfl ?_)|(refine aC rfl rfl ?_)|(refine ay nmd [] hng (by kernel_rfl) fun hf C S K hC1 hC hS hK=>?_;simp (disch:=first|omega|assumption) only [go_sem];(repeat ((first|refine hC1 _ (hZ _ (ar rfl hp)) (by simp (disch:=first|omega|assumption) only [go_sem]) ?_);simp (disch:=first|omega|assumption) only [go_sem]));refine hK ?_;clear hK hS hC hC1 K S C hf)|((first|refine zn ?_|refine ze ?_|refine zk ?_);with_reducible (constructor;repeat constructor);try refine zl ?_)))
  refine ay nmd [(3,14),(7,18),(12,23)] hng (by kernel_rfl) fun hf C S K hC1 hC hS hK=>?_;simp (disch:=first|omega|assumption) only [go_sem]
  (repeat' (first|(refine bV (fun hv=>?_) (fun hv=>?_)<;>(try simp only [zb1,zb2,zb3,zb4,zb5] at hv)<;>simp (disch:=first|omega|assumption) only [go_sem,hv])|(refine hC1 _ (gu (bu s) hb1 hb2 _ (ar rfl hp)) (by simp (disch:=first|omega|assumption) only [go_sem]) ?_;simp (disch:=first|omega|assumption) only [go_sem])|(refine hK ?_;clear hK hS hC hC1 K S C hf)))
  ·(try ((first|refine zn ?_|refine ze ?_|refine zk ?_);with_reducible (constructor;repeat constructor));try refine zl ?_)
   exact aE (bz (by rw [aaf hg (by omega) (by omega)];rfl))
  ·(try ((first|refine zn ?_|refine ze ?_|refine zk ?_);with_reducible (constructor;repeat constructor));try refine zl ?_)
   exact aE (bz (by rw [AB (by omega)];rfl))
  ·(try ((first|refine zn ?_|refine ze ?_|refine zk ?_);with_reducible (constructor;repeat constructor));try refine zl ?_)
   exact aE (bz (by rw [aae hv];rfl))
 | false =>
  have hZ:∀ p:Oid,p.mono=false→aq Tryz.prog 159 [.str s] (Oid.under p) ⟨[],.tuple [.int .i64 (bu s),.iface 216 .undef],[]⟩:=fun p hp=>by have:=tK s hl p hp;rwa [nO,if_neg (by rw [hg];decide)] at this
  refine aV (n:=29) (rs:=[.tmp 2,.tmp 3]) Tryz.func98 rfl rfl (by decide) rfl rfl rfl ?_;rintro x rfl hrd hng
  (repeat (first|(refine aB rfl rfl ?_)|(refine aC rfl rfl ?_)|(refine ay nmd [] hng (by kernel_rfl) fun hf C S K hC1 hC hS hK=>?_;simp (disch:=first|omega|assumption) only [go_sem];(repeat ((first|refine hC1 _ (hZ _ (ar rfl hp)) (by simp (disch:=first|omega|assumption) only [go_sem]) ?_);simp (disch:=first|omega|assumption) only [go_sem]));refine hK ?_;clear hK hS hC hC1 K S C hf)|((first|refine zn ?_|refine ze ?_|refine zk ?_);with_reducible (constructor;repeat constructor);try refine zl ?_)))
  refine ay nmd [(3,14),(7,18),(12,23)] hng (by kernel_rfl) fun hf C S K hC1 hC hS hK=>?_;simp (disch:=first|omega|assumption) only [go_sem]
  (repeat' (first|(refine bV (fun hv=>?_) (fun hv=>?_)<;>(try simp only [zb1,zb2,zb3,zb4,zb5] at hv)<;>simp (disch:=first|omega|assumption) only [go_sem,hv])|(refine hC1 _ (gu (bu s) hb1 hb2 _ (ar rfl hp)) (by simp (disch:=first|omega|assumption) only [go_sem]) ?_;simp (disch:=first|omega|assumption) only [go_sem])|(refine hK ?_;clear hK hS hC hC1 K S C hf)))
  (try ((first|refine zn ?_|refine ze ?_|refine zk ?_);with_reducible (constructor;repeat constructor));try refine zl ?_)
  exact aE (bz (by rw [aad hg];rfl))
end Go.Proofs.YtngffmnomciogaaGreatDoor
namespace Go.Proofs.YtngffmnomciogaaGreatDoor
open Go Go.Ab
set_option maxRecDepth 20000
set_option maxHeartbeats 4000000
theorem fJ (n:Nat) (h:(n:Int)≤9223372036854775807):(Lib.decDigits n).length≤21:=by
 have:=Lib.itoa_length_le n (by omega) h;rwa [Lib.itoa_nonneg] at this
theorem acF (v:Option AV):gd True v=v:=if_pos trivial
theorem qQ (a b:Nat):(a:Int).tmod b=((a % b:Nat):Int):=by
 rw [Int.tmod_eq_emod_of_nonneg (by omega)];rfl
theorem kg (n:Nat) (hn:(n:Int)≤9223372036854775807):∀ p:Oid,aq Tryz.prog 241 [.int .i64 n] (Oid.under p) ⟨[],.str (Lib.decDigits n),[]⟩:=by
 induction n using Nat.strongRecOn with
 | ind n ih =>
  intro p
  have h10:(n:Int).tmod 10=((n % 10:Nat):Int):=qQ n 10
  have h11:(n:Int).tdiv 10=((n / 10:Nat):Int):=yW n 10
  have hw:(48+((n % 10:Nat):Int))≤57:=by omega
  have hd:IntKind.u8.wrap (48+((n % 10:Nat):Int))=((UInt8.ofNat (48+n % 10)).toNat:Int):=by
   rw [w8 (by omega) (by omega),UInt8.toNat_ofNat'];omega
  have hlen:=fJ (n / 10) (by omega)
  refine aV (n:=18) (rs:=[.tmp 2]) Tryz.func241 rfl rfl (by decide) rfl rfl rfl ?_;rintro x rfl hrd hng
  refine qr0 ?_
  refine ay nmd [] hng (by kernel_rfl) fun hf C S K hC1 hC hS hK=>?_;simp (disch:=first|omega|assumption) only [go_sem,h10,hd,acF]
  refine hK ?_;clear hK hS hC hC1 K S C hf
  refine qw0 ?_
  refine bs rfl rfl (fun hb=>?_) (fun hb=>?_)
  ·refine qw0 ?_
   exact aE (b6 (congrArg AV.str (by rw [Lib.decDigits,dif_pos (by omega)];congr 2;rw [Nat.mod_eq_of_lt (by omega)])))
  ·(try ((first|refine zn ?_|refine ze ?_|refine zk ?_);with_reducible (constructor;repeat constructor));try refine zl ?_)
   refine qr .o h11 (cq (ih (n / 10) (by omega) (by omega) _) trivial) ?_
   refine qw0 ?_
   exact aE (b6 (congrArg AV.str (by rw [Lib.decDigits.eq_def n,dif_neg (by omega)])))
end Go.Proofs.YtngffmnomciogaaGreatDoor
namespace Go.Proofs.YtngffmnomciogaaGreatDoor
open Go Go.Ab
theorem l7 (b:UInt8):∀ (t:Str) (a:Nat),Lib.decFrom a (t++[b])=(Lib.decFrom a t).bind fun v=>(Lib.digitVal b).map fun d=>v * 10+d
 | [],a=>by
  simp only [List.nil_append,Lib.decFrom,Option.bind_some]
  cases Lib.digitVal b<;>rfl
 | c::t,a=>by
  simp only [List.cons_append,Lib.decFrom]
  cases Lib.digitVal c with
  | none=>rfl
  | some d=>exact l7 b t _
theorem q7 {d:Nat} (h:d < 10):Lib.digitVal (UInt8.ofNat (48+d))=some d:=by
 have h1:(UInt8.ofNat (48+d)).toNat=48+d:=by rw [UInt8.toNat_ofNat'];omega
 rw [Lib.digitVal,h1,if_pos (by omega)];congr 1;omega
theorem wU {b:UInt8} {d:Nat} (h:Lib.digitVal b=some d):d < 10∧b=UInt8.ofNat (48+d):=by
 unfold Lib.digitVal at h
 split at h
 ·simp only [Option.some.injEq] at h
  refine ⟨by omega,UInt8.toNat_inj.1 ?_⟩
  rw [UInt8.toNat_ofNat'];omega
 ·cases h
theorem bG {n:Nat} (h:n < 10):Lib.decDigits n=[UInt8.ofNat (48+n)]:=by rw [Lib.decDigits,dif_pos h]
theorem dT {n:Nat} (h:¬ n < 10):Lib.decDigits n=Lib.decDigits (n / 10)++[UInt8.ofNat (48+n % 10)]:=by rw [Lib.decDigits.eq_def n,dif_neg h]
theorem kh (n:Nat):¬ Lib.decDigits n=[]:=by
 by_cases h:n < 10
 ·rw [bG h];simp
 ·rw [dT h];simp
theorem l8 (n:Nat):Lib.decFrom 0 (Lib.decDigits n)=some n:=by
 induction n using Nat.strongRecOn with
 | ind n ih =>
  by_cases h:n < 10
  ·rw [bG h,Lib.decFrom,q7 h];simp [Lib.decFrom]
  ·rw [dT h,l7,ih _ (by omega),q7 (by omega)]
   simp only [Option.bind_some,Option.map_some];congr 1;omega
theorem nP {t u:Str} (h:¬ t=[]):(t++u).getD 0 0=t.getD 0 0:=by
 cases t with
 | nil=>exact absurd rfl h
 | cons=>rfl
theorem kN (n:Nat):(Lib.decDigits n).getD 0 0=48→n=0:=by
 induction n using Nat.strongRecOn with
 | ind n ih =>
  intro h
  by_cases hs:n < 10
  ·rw [bG hs] at h
   have h1:=congrArg UInt8.toNat h
   simp only [List.getD_cons_zero] at h1
   rw [UInt8.toNat_ofNat'] at h1
   have:(48:UInt8).toNat=48:=rfl
   omega
  ·rw [dT hs,nP (kh _)] at h
   have:=ih (n / 10) (by omega) h
   omega
theorem wV:∀ (k:Nat) (s:Str) (n:Nat),s.length=k→¬ s=[]→¬ (s.getD 0 0=48∧1 < s.length)→Lib.decFrom 0 s=some n→Lib.decDigits n=s:=by
 intro k
 induction k with
 | zero=>intro s n hk hs;exact absurd (List.eq_nil_of_length_eq_zero hk) hs
 | succ k ih =>
  intro s n hk hs hc hd
  rcases List.eq_nil_or_concat s with rfl|⟨t,b,rfl⟩
  ·exact absurd rfl hs
  rw [List.concat_eq_append] at hk hs hc hd ⊢
  rw [l7] at hd
  simp only [Option.bind_eq_some_iff,Option.map_eq_some_iff] at hd
  obtain ⟨v,hv,d,hb,rfl⟩:=hd
  obtain ⟨hd10,rfl⟩:=wU hb
  by_cases ht:t=[]
  ·subst ht
   simp only [Lib.decFrom,Option.some.injEq] at hv
   subst hv
   rw [Nat.zero_mul,Nat.zero_add,bG hd10];rfl
  ·rw [nP ht] at hc
   simp only [List.length_append,List.length_cons,List.length_nil] at hc hk
   have hlt:=List.length_pos_iff.2 ht
   have:=ih t v (by omega) ht (fun h=>hc ⟨h.1,by omega⟩) hv
   have hv1:¬ v=0:=fun e=>by
    subst e
    rw [bG (by decide)] at this
    exact hc ⟨by rw [← this];rfl,by omega⟩
   rw [dT (by omega),show (v * 10+d) / 10=v by omega,show (v * 10+d) % 10=d by omega,this]
def gM (s:Str):Int:=if s=[]∨9 < s.length∨s.getD 0 0=48∧1 < s.length then -1 else match Lib.decFrom 0 s with|some n=>n|none=>-1
theorem jM (s:Str):ew s=decide (0≤gM s)∧(ew s=true→bu s=gM s):=by
 by_cases hl:s.length≤9
 ·have hsh:=Lib.atoiAll_short s (by omega)
  by_cases hg:ew s=true
  ·have h:=hg
   simp only [ew,Bool.and_eq_true,decide_eq_true_eq] at h
   obtain ⟨⟨⟨h1,h2⟩,_⟩,h4⟩:=h
   obtain ⟨n,hn⟩:=Int.eq_ofNat_of_zero_le h2
   rw [hn,Lib.itoa_nonneg] at h4
   have hR:gM s=n:=by
    rw [gM,if_neg,← h4,l8]
    rintro (h|h|⟨h,h'⟩)
    ·exact kh n (h4.trans h)
    ·omega
    ·rw [← h4] at h h'
     have:=kN n h
     subst this
     rw [bG (by decide)] at h'
     simp at h'
   rw [hg,hR]
   exact ⟨by simp,fun _=>hn⟩
  ·refine ⟨?_,fun h=>absurd h hg⟩
   have hgf:ew s=false:=by simpa using hg
   rw [hgf]
   symm
   rw [decide_eq_false_iff_not]
   intro h0
   apply hg
   unfold gM at h0
   split at h0
   ·omega
   ·rename_i hc
    split at h0
    ·rename_i n hd
     have hs:¬ s=[]:=fun e=>hc (.inl e)
     have hcan:=wV _ s n rfl hs (fun h=>hc (.inr (.inr h))) hd
     have hat:Lib.atoi s=some (n:Int):=by
      cases s with
      | nil=>exact absurd rfl hs
      | cons b r =>
       have hb:∃ d,Lib.digitVal b=some d:=by
        simp only [Lib.decFrom] at hd
        split at hd
        ·exact ⟨_,by assumption⟩
        ·cases hd
       obtain ⟨d,hbd⟩:=hb
       unfold Lib.digitVal at hbd
       split at hbd
       ·rename_i hr
        have h45:(b == 45)=false:=by rw [beq_eq_false_iff_ne];rintro rfl;exact absurd hr.1 (by decide)
        have h43:(b == 43)=false:=by rw [beq_eq_false_iff_ne];rintro rfl;exact absurd hr.1 (by decide)
        simp only [Lib.atoi,h45,h43,Lib.decNat,List.isEmpty_cons,hd,Bool.false_eq_true,if_false,Option.map_some]
       ·cases hbd
     rw [hat] at hsh
     have h1:Lib.atoiAll s = .ok (n:Int):=hsh
     have h2:bu s=n:=by simp only [bu,h1]
     simp only [ew,h2,jL,h1,Lib.itoa_nonneg,hcan,Bool.and_eq_true,decide_eq_true_eq]
     exact ⟨⟨⟨trivial,by omega⟩,hl⟩,trivial⟩
    ·omega
 ·have hR:gM s = -1:=by rw [gM,if_pos (.inr (.inl (by omega)))]
  rw [hR,AB hl]
  exact ⟨by decide,fun h=>by cases h⟩
end Go.Proofs.YtngffmnomciogaaGreatDoor
namespace Go.Proofs.YtngffmnomciogaaGreatDoor
open Go Go.Ab
set_option maxRecDepth 20000
set_option maxHeartbeats 4000000
end Go.Proofs.YtngffmnomciogaaGreatDoor
namespace Go.Proofs.YtngffmnomciogaaGreatDoor
open Go Go.Ab
set_option maxRecDepth 20000
set_option maxHeartbeats 2000000
def chunk (s:Str):Str:=Lib.itoa s.length++[58]++s++[44]
def b5:List Str→Str
 | []=>[]
 | s::l=>chunk s++b5 l
theorem kO (a b:List Str):b5 (a++b)=b5 a++b5 b:=by
 induction a with
 | nil=>rfl
 | cons s a ih=>simp only [List.cons_append,b5,ih,List.append_assoc]
theorem ki {l:List Str} {i:Nat} (h:i < l.length):b5 (l.take (i+1))=b5 (l.take i)++chunk (l.getD i default):=by
 rw [List.take_add_one,kO,List.getElem?_eq_getElem h,List.getD_eq_getElem?_getD,List.getElem?_eq_getElem h]
 simp [b5]
theorem gw {l:List Str} (i:Nat):(b5 (l.take i)).length≤(b5 l).length:=by
 conv=>rhs;rw [← List.take_append_drop i l,kO,List.length_append]
 omega
theorem dU (s:Str):(Lib.itoa s.length).length+1+s.length+1=(chunk s).length:=by simp only [chunk,List.length_append,List.length_cons,List.length_nil]
theorem sL (q:Oid) (s:Str) (hl:(chunk s).length≤140737488355328) (p:Oid) (hp:p.mono=false) (hq:¬ Oid.under p (.ty 112 q)) :
  aq Tryz.prog 273 [.ptr (.ty 112 q) 0,.str s] (Oid.under p) ⟨[(.ty 112 q,.cells [.nilPtr,.nilSl])],.ptr (.ty 112 q) 0,
   [(.ty 112 q,some (.cells [.ptr (.ty 112 q) 0,.sl (.ty 5 (.sub 2 6 (.sub 1 8 p))) 1 (chunk s).length])),(.ty 5 (.sub 2 6 (.sub 1 8 p)),some (.arr 1 ((chunk s).map byA)))]⟩:=by
 have hs:=dU s
 have hq':∀ c i,¬ Oid.under (.sub c i p) (.ty 112 q):=fun c i h=>hq (Oid.ae h)
 refine aV (n:=15) (rs:=[.tmp 4]) Tryz.func273 rfl rfl (by decide) rfl rfl rfl ?_;rintro x rfl hrd hng
 (repeat (first|(refine aB rfl rfl ?_)|(refine aC rfl rfl ?_)|(refine ay nmd [] hng (by kernel_rfl) fun hf C S K hC1 hC hS hK=>?_;simp (disch:=first|omega|assumption) only [go_sem];(repeat ((first|refine hC1 _ (gu s.length (by omega) (by omega) _ (ar rfl hp)) (by simp (disch:=first|omega|assumption) only [go_sem]) ?_|refine hC1 _ (AA q (chunk s) hl _ (hq' _ _)) (by simp (disch:=first|omega|assumption) only [go_sem]) ?_);simp (disch:=first|omega|assumption) only [go_sem]));refine hK ?_;clear hK hS hC hC1 K S C hf)|((first|refine zn ?_|refine ze ?_|refine zk ?_);with_reducible (constructor;repeat constructor);try refine zl ?_)))
 refine aE (aS rfl ?_ ?_)
 all_goals simp only [List.mem_cons,List.not_mem_nil,or_false,forall_eq_or_imp,forall_eq,Option.some.injEq,forall_eq',Mem.ao,eq_self,if_true,↓reduceIte,reduceCtorEq,implies_true,not_true_eq_false,false_imp_iff,true_and,and_true,false_and,and_false,imp_self,Oid.ty.injEq,Nat.reduceEqDiff]
theorem wW (q r:Oid) (s0 s:Str) (hl:s0.length+(chunk s).length≤140737488355328) (p:Oid) (hp:p.mono=false) (hq:¬ Oid.under p (.ty 112 q)) (hr:¬ Oid.under p (.ty 5 r)) :
  aq Tryz.prog 273 [.ptr (.ty 112 q) 0,.str s] (Oid.under p) ⟨[(.ty 112 q,.cells [.ptr (.ty 112 q) 0,.sl (.ty 5 r) 1 s0.length]),(.ty 5 r,.arr 1 (s0.map byA))],.ptr (.ty 112 q) 0,
   [(.ty 112 q,some (.cells [.ptr (.ty 112 q) 0,.sl (.ty 5 (.sub 2 6 (.sub 1 8 p))) 1 (s0++chunk s).length])),(.ty 5 r,none),(.ty 5 (.sub 2 6 (.sub 1 8 p)),some (.arr 1 ((s0++chunk s).map byA)))]⟩:=by
 have hs:=dU s
 have hq':∀ c i,¬ Oid.under (.sub c i p) (.ty 112 q):=fun c i h=>hq (Oid.ae h)
 have hr':∀ c i,¬ Oid.under (.sub c i p) (.ty 5 r):=fun c i h=>hr (Oid.ae h)
 have hn:¬ Oid.sub 2 6 (.sub 1 8 p)=r:=fun e=>hr (by subst e;simp [Oid.under,Oid.az])
 have hn':¬ r=Oid.sub 2 6 (.sub 1 8 p):=fun e=>hn e.symm
 refine aV (n:=15) (rs:=[.tmp 4]) Tryz.func273 rfl rfl (by decide) rfl rfl rfl ?_;rintro x rfl hrd hng
 (repeat (first|(refine aB rfl rfl ?_)|(refine aC rfl rfl ?_)|(refine ay nmd [] hng (by kernel_rfl) fun hf C S K hC1 hC hS hK=>?_;simp (disch:=first|omega|assumption) only [go_sem];(repeat ((first|refine hC1 _ (gu s.length (by omega) (by omega) _ (ar rfl hp)) (by simp (disch:=first|omega|assumption) only [go_sem]) ?_|refine hC1 _ (RE q r s0 (chunk s) hl _ (hq' _ _) (hr' _ _)) (by simp (disch:=first|omega|assumption) only [go_sem]) ?_);simp (disch:=first|omega|assumption) only [go_sem]));refine hK ?_;clear hK hS hC hC1 K S C hf)|((first|refine zn ?_|refine ze ?_|refine zk ?_);with_reducible (constructor;repeat constructor);try refine zl ?_)))
 refine aE (aS rfl ?_ ?_)
 all_goals simp only [List.mem_cons,List.not_mem_nil,or_false,forall_eq_or_imp,forall_eq,Option.some.injEq,forall_eq',Mem.ao,eq_self,if_true,↓reduceIte,reduceCtorEq,implies_true,not_true_eq_false,false_imp_iff,true_and,and_true,false_and,and_false,imp_self,Oid.ty.injEq,Nat.reduceEqDiff,hn,hn',List.length_append]
def pa (n:Nat) (p:Oid):Oid:=.sub 2 6 (.sub 1 8 (.sub (4 * n) 3 p))
theorem sM {c n:Nat} {p:Oid} (h:4 * n < c):¬ Oid.under (.sub c 3 p) (.ty 5 (pa n p)):=by
 have hself:¬ Oid.under (.sub c 3 p) p:=fun h=>by have:=Oid.dB h;simp [Oid.depth] at this;omega
 simp only [pa,Oid.under,reduceCtorEq,false_or,Oid.sub.injEq,Nat.reduceEqDiff,false_and,and_false,hself,or_false]
 omega
theorem RF (l:List Str) (hne:¬ l=[]) (hl:(b5 l).length≤140737488355328) (hn:l.length≤140737488355328) (q:Oid) (p:Oid) (hp:p.mono=false) (hq:¬ Oid.under p (.ty 112 q)) :
  aq Tryz.prog 272 [.list 1 (l.map AV.str),.ptr (.ty 112 q) 0,.fn (.func 273) [] []] (Oid.under p) ⟨[(.ty 112 q,.cells [.nilPtr,.nilSl])],.ptr (.ty 112 q) 0,
   [(.ty 112 q,some (.cells [.ptr (.ty 112 q) 0,.sl (.ty 5 (pa l.length p)) 1 (b5 l).length])),(.ty 5 (pa l.length p),some (.arr 1 ((b5 l).map byA)))]⟩:=by
 have hq':∀ c i,¬ Oid.under (.sub c i p) (.ty 112 q):=fun c i h=>hq (Oid.ae h)
 refine aV (n:=21) (rs:=[.tmp 6]) Tryz.func272 rfl rfl (by decide) rfl rfl rfl ?_;rintro x rfl hrd hng
 refine qw0 ?_
 refine cE [1,2,9,10,11] (fun k s'=>∃ (i:Nat) (M:List (Oid × aj)),k=l.length - i∧i≤l.length∧(i=0∧M=[(.ty 112 q,.cells [.nilPtr,.nilSl])] ∨
   ¬ i=0∧M=[(.ty 112 q,.cells [.ptr (.ty 112 q) 0,.sl (.ty 5 (pa i x.p)) 1 (b5 (l.take i)).length]),(.ty 5 (pa i x.p),.arr 1 ((b5 (l.take i)).map byA))]) ∧
   s' = ⟨[(1,.ptr (.ty 112 q) 0),(2,.fn (.func 273) [] []),(9,.list 1 (l.map AV.str)),(10,.int .i64 l.length),(11,.int .i64 i)],Mem.of M,2+4 * i,[]⟩) _ ⟨0,_,rfl,Nat.zero_le _,.inl ⟨rfl,rfl⟩,rfl⟩ ?_
 rintro k s' ⟨i,M,rfl,hi,hM,rfl⟩
 rcases hM with ⟨rfl,rfl⟩|⟨h0,rfl⟩
 ·refine qw0 ?_
  refine bs rfl rfl (fun hb=>?_) (fun hb=>?_)
  ·have hi0:0 < l.length:=by omega
   have ht:=ki (l:=l) hi0
   have hle:=gw (l:=l) 1
   rw [List.take_zero] at ht
   simp only [Nat.zero_add] at ht
   (repeat (first|(refine aB rfl rfl ?_)|(refine aC rfl rfl ?_)|(refine ay nmd [] hng (by kernel_rfl) fun hf C S K hC1 hC hS hK=>?_;simp (disch:=first|omega|assumption) only [go_sem];(repeat ((first|refine hC1 _ (sL q (l.getD 0 default) (by rw [ht] at hle;simp only [b5,List.nil_append] at hle;omega) _ (ar rfl hp) (hq' _ _)) (by simp (disch:=first|omega|assumption) only [go_sem]) ?_);simp (disch:=first|omega|assumption) only [go_sem]));refine hK ?_;clear hK hS hC hC1 K S C hf)|((first|refine zn ?_|refine ze ?_|refine zk ?_);with_reducible (constructor;repeat constructor);try refine zl ?_)))
   refine ⟨_,_,?_,fun _ _ h=>h,1,_,rfl,by omega,.inr ⟨by omega,rfl⟩,?_⟩
   ·omega
   ·rw [ht];rfl
  ·exact absurd (List.eq_nil_of_length_eq_zero (by omega)) hne
 ·refine qw0 ?_
  refine bs rfl rfl (fun hb=>?_) (fun hb=>?_)
  ·have ht:=ki (l:=l) (i:=i) (by omega)
   have hle:=gw (l:=l) (i+1)
   (repeat (first|(refine aB rfl rfl ?_)|(refine aC rfl rfl ?_)|(refine ay nmd [] hng (by kernel_rfl) fun hf C S K hC1 hC hS hK=>?_;simp (disch:=first|omega|assumption) only [go_sem];(repeat ((first|refine hC1 _ (wW q (pa i x.p) (b5 (l.take i)) (l.getD i default) (by rw [ht,List.length_append] at hle;omega) _ (ar rfl hp) (hq' _ _) (sM (by omega))) (by simp (disch:=first|omega|assumption) only [go_sem]) ?_);simp (disch:=first|omega|assumption) only [go_sem]));refine hK ?_;clear hK hS hC hC1 K S C hf)|((first|refine zn ?_|refine ze ?_|refine zk ?_);with_reducible (constructor;repeat constructor);try refine zl ?_)))
   refine ⟨_,_,?_,fun _ _ h=>h,i+1,_,rfl,by omega,.inr ⟨by omega,rfl⟩,?_⟩
   ·omega
   ·have hc:4 * (i+1)=2+4 * i+1+1:=by omega
    rw [ht,List.length_append,pa,hc,show 2+4 * i+1+1+1+1=2+(2+4 * i+1+1) by omega];rfl
  ·obtain rfl:i=l.length:=by omega
   refine qw0 ?_
   refine aE (aS rfl ?_ ?_)
   all_goals simp only [List.mem_cons,List.not_mem_nil,or_false,forall_eq_or_imp,forall_eq,Option.some.injEq,forall_eq',Mem.ao,eq_self,if_true,↓reduceIte,reduceCtorEq,implies_true,not_true_eq_false,false_imp_iff,true_and,and_true,false_and,and_false,imp_self,Oid.ty.injEq,Nat.reduceEqDiff,List.take_length]
theorem AE (q:Oid) (p:Oid) :
  aq Tryz.prog 272 [.list 1 [],.ptr q 0,.fn (.func 273) [] []] (Oid.under p) ⟨[(q,.cells [.nilPtr,.nilSl])],.ptr q 0,[]⟩:=by
 refine aV (n:=21) (rs:=[.tmp 6]) Tryz.func272 rfl rfl (by decide) rfl rfl rfl ?_;rintro x rfl hrd hng
 refine qw0 ?_
 refine cE [1,2,9,10,11] (fun k s'=>k=0∧s' = ⟨[(1,.ptr q 0),(2,.fn (.func 273) [] []),(9,.list 1 []),(10,.int .i64 0),(11,.int .i64 0)],Mem.of [(q,.cells [.nilPtr,.nilSl])],2,[]⟩) _ ⟨rfl,rfl⟩ ?_
 rintro k s' ⟨rfl,rfl⟩
 refine qw0 ?_
 refine aE (aS rfl ?_ ?_)
 all_goals simp only [List.mem_cons,List.not_mem_nil,or_false,forall_eq_or_imp,forall_eq,Option.some.injEq,forall_eq',Mem.ao,eq_self,if_true,↓reduceIte,reduceCtorEq,implies_true,not_true_eq_false,false_imp_iff,true_and,and_true,false_and,and_false,imp_self,Oid.ty.injEq,Nat.reduceEqDiff]
theorem sN {c i j:Nat} {t:Nat} {p:Oid} (h:¬ j=i):¬ Oid.under (.sub c j p) (.ty t (.sub c i p)):=by
 have hself:¬ Oid.under (.sub c j p) p:=fun h=>by have:=Oid.dB h;simp [Oid.depth] at this;omega
 simp only [Oid.under,reduceCtorEq,false_or,Oid.sub.injEq,h,false_and,and_false,hself,or_false,not_false_eq_true]
theorem nQ (l:List Str) (hl:(b5 l).length≤140737488355328) (hn:l.length≤140737488355328) (p:Oid) (hp:p.mono=false) :
  aq Tryz.prog 239 [.list 1 (l.map AV.str)] (Oid.under p) ⟨[],.str (b5 l),[]⟩:=by
 by_cases hne:l=[]
 ·subst hne
  refine aV (n:=8) (rs:=[.tmp 2]) Tryz.func239 rfl rfl (by decide) rfl rfl rfl ?_;rintro x rfl hrd hng
  refine qw0 ?_
  refine ay nmd [] hng (by kernel_rfl) fun hf C S K hC1 hC hS hK=>?_;simp (disch:=first|omega|assumption) only [go_sem]
  refine hC1 _ (AE (.ty 112 (.sub 1 2 _)) _) qs0 ?_
  simp (disch:=first|omega|assumption) only [go_sem]
  refine hC1 _ (sK (.sub 1 2 _) _) qs0 ?_
  simp (disch:=first|omega|assumption) only [go_sem]
  refine hK ?_;clear hK hS hC hC1 K S C hf
  refine qw0 ?_
  exact aE (b6 rfl)
 ·have h0:0 < (b5 l).length:=by
   cases l with
   | nil=>exact absurd rfl hne
   | cons s l =>
    have:=dU s
    simp only [b5,List.length_append];omega
  refine aV (n:=8) (rs:=[.tmp 2]) Tryz.func239 rfl rfl (by decide) rfl rfl rfl ?_;rintro x rfl hrd hng
  refine qw0 ?_
  refine ay nmd [] hng (by kernel_rfl) fun hf C S K hC1 hC hS hK=>?_;simp (disch:=first|omega|assumption) only [go_sem]
  refine hC1 _ (RF l hne hl hn (.sub 1 2 _) _ (ar rfl hp) (sN (by decide))) qs0 ?_
  simp (disch:=first|omega|assumption) only [go_sem]
  refine hC1 _ (wS (.sub 1 2 _) (pa l.length (.sub 1 3 x.p)) _ h0 hl _) qs0 ?_
  simp (disch:=first|omega|assumption) only [go_sem]
  refine hK ?_;clear hK hS hC hC1 K S C hf
  refine qw0 ?_
  exact aE (b6 rfl)
end Go.Proofs.YtngffmnomciogaaGreatDoor
namespace Go.Proofs.YtngffmnomciogaaGreatDoor
open Go Go.Ab Go.RowKit
set_option maxRecDepth 20000
set_option maxHeartbeats 2000000
def colon (s:Str):Nat:=(Lib.indexByte s 58).toNat
def kP (s:Str):Str:=s.take (colon s)
def iS (s:Str):Str:=s.drop (colon s+1)
def kQ (s:Str):Nat:=(bu (kP s)).toNat
def okS (s:Str):Prop:=0≤Lib.indexByte s 58∧ew (kP s)=true∧bu (kP s) < (iS s).length∧(iS s).getD (kQ s) 0=44
instance (s:Str):Decidable (okS s):=by unfold okS;infer_instance
def wX:Nat→Str→Option (List Str)
 | 0,_=>none
 | k+1,s=>if s=[] then some [] else if okS s then (wX k ((iS s).drop (kQ s+1))).map ((iS s).take (kQ s)::·) else none
theorem pb {s:Str} (h:¬ s=[]):((iS s).drop (kQ s+1)).length < s.length:=by
 have:=List.length_pos_iff.2 h;simp only [iS,List.length_drop];omega
theorem nR:∀ (k k':Nat) (s:Str),s.length < k→s.length < k'→wX k s=wX k' s
 | 0,_,_,h,_=>absurd h (Nat.not_lt_zero _)
 | _+1,0,_,_,h=>absurd h (Nat.not_lt_zero _)
 | k+1,k' + 1,s,h,h'=>by
  simp only [wX]
  by_cases h0:s=[]
  ·rw [if_pos h0,if_pos h0]
  rw [if_neg h0,if_neg h0]
  split
  ·rw [nR k k' _ (by have:=pb h0;omega) (by have:=pb h0;omega)]
  ·rfl
def q8 (s:Str):Option (List Str):=wX (s.length+1) s
theorem wY {s:Str} (h0:¬ s=[]) (h:okS s):q8 s=(q8 ((iS s).drop (kQ s+1))).map ((iS s).take (kQ s)::·):=by
 rw [q8,wX,if_neg h0,if_pos h]
 exact congrArg _ (nR _ _ _ (pb h0) (Nat.lt_succ_self _))
end Go.Proofs.YtngffmnomciogaaGreatDoor
namespace Go.Proofs.YtngffmnomciogaaGreatDoor
open Go Go.Ab
set_option maxRecDepth 20000
set_option maxHeartbeats 4000000
structure Bits where
 k:Int
 m:Int
 l:Str
deriving DecidableEq
def Bits.av (b:Bits):AV:=.agg [.int .i64 b.k,.int .i64 b.m,.str b.l]
def Bits.no:Bits:=⟨0,0,[]⟩
def Bits.ok (b:Bits):Prop:=(-9223372036854775808≤b.k∧b.k≤9223372036854775807)∧(-9223372036854775808≤b.m∧b.m≤9223372036854775807)∧b.l.length≤4000000000
def cN (b:Bits):Str:=if b.k=0 then [] else b5 [Lib.itoa b.k,Lib.itoa b.m,b.l]
theorem gb {s:Str} (h:s.length≤4000000000):(chunk s).length≤4000000100:=by
 have h1:=dU s
 have h2:=Lib.itoa_length_le s.length (by omega) (by omega)
 omega
theorem AF (b:Bits) (hb:b.ok) (p:Oid) (hp:p.mono=false):aq Tryz.prog 240 [b.av] (Oid.under p) ⟨[],.str (cN b),[]⟩:=by
 obtain ⟨k,m,l⟩:=b
 obtain ⟨⟨k1,k2⟩,⟨m1,m2⟩,hl⟩:=hb
 simp only at k1 k2 m1 m2 hl
 have hk:=Lib.itoa_length_le k k1 k2
 have hm:=Lib.itoa_length_le m m1 m2
 have h1:=gb (s:=Lib.itoa k) (by omega)
 have h2:=gb (s:=Lib.itoa m) (by omega)
 have h3:=gb hl
 have hE:(b5 [Lib.itoa k,Lib.itoa m,l]).length≤140737488355328:=by simp only [b5,List.length_append,List.length_nil];omega
 simp only [Bits.av]
 refine aV (n:=16) (rs:=[.tmp 2]) Tryz.func240 rfl rfl (by decide) rfl rfl rfl ?_;rintro x rfl hrd hng
 refine qw0 ?_
 refine bs rfl rfl (fun hb=>?_) (fun hb=>?_)
 ·refine qw0 ?_
  exact aE (b6 (congrArg AV.str (by rw [cN,if_pos hb])))
 ·(try ((first|refine zn ?_|refine ze ?_|refine zk ?_);with_reducible (constructor;repeat constructor));try refine zl ?_)
  refine cD nmd [] [(2,4),(2,7),(5,7)] mixed hng (by kernel_rfl) [2] fun hf C S K hC hS hK=>?_;simp (disch:=first|omega|assumption) only [go_sem]
  (repeat ((first|refine hC _ (gu k k1 k2 _ (ar rfl hp)) (by simp (disch:=first|omega|assumption) only [go_sem]) ?_|refine hC _ (gu m m1 m2 _ (ar rfl hp)) (by simp (disch:=first|omega|assumption) only [go_sem]) ?_|refine hC _ (nQ [Lib.itoa k,Lib.itoa m,l] hE (by simp) _ (ar rfl hp)) (by simp (disch:=first|omega|assumption) only [go_sem]) ?_);simp (disch:=first|omega|assumption) only [go_sem]))
  (first|refine hK (aJ rfl) ?_|refine hK (by simp (disch:=first|omega|assumption) only [go_sem,List.reverse_cons,List.reverse_nil,ne_eq,not_false_eq_true,implies_true]) ?_);clear hK hS hC K S C hf
  refine qw0 ?_
  exact aE (b6 (congrArg AV.str (by rw [cN,if_neg hb])))
def sO (s a b c:Str):Bool:=ew a && ew b && decide (1≤bu a) && decide (bu a≤3) && decide (bu b≤7) && !(decide (bu a=2) && decide (c≠[])) && decide (cN ⟨bu a,bu b,c⟩=s)
theorem q9 {s a b c:Str}:sO s a b c=true↔ew a=true∧ew b=true∧1≤bu a∧bu a≤3∧bu b≤7∧¬ (bu a=2∧¬ c=[])∧cN ⟨bu a,bu b,c⟩=s:=by
 simp only [sO,Bool.and_eq_true,decide_eq_true_eq,Bool.not_eq_true',Bool.and_eq_false_imp,decide_eq_false_iff_not,not_and,and_assoc,ne_eq]
def kj (s:Str):Bits × Int:=if s=[] then (Bits.no,0) else match q8 s with
 | some [a,b,c]=>if sO s a b c=true then (⟨bu a,bu b,c⟩,0) else (Bits.no,20)
 | _=>(Bits.no,20)
end Go.Proofs.YtngffmnomciogaaGreatDoor
namespace Go.Proofs.YtngffmnomciogaaGreatDoor
open Go Go.Ab
set_option maxRecDepth 20000
set_option maxHeartbeats 4000000
theorem l9 (l:List Str) (hl:(b5 l).length≤140737488355328) (hn:l.length≤140737488355328) (p:Oid):aq Tryz.prog 207 [.list 1 (l.map AV.str)] (Oid.under p) ⟨[],.str (b5 l),[]⟩:=by
 refine aV (n:=27) (rs:=[.tmp 2]) Tryz.func207 rfl rfl (by decide) rfl rfl rfl ?_;rintro x rfl hrd hng
 refine qw0 ?_
 refine cE [0,3,4] (fun k s'=>∃ (i c:Nat),k=l.length - i∧i≤l.length∧s' = ⟨[(0,.list 1 (l.map AV.str)),(3,.str (b5 (l.take i))),(4,.int .i64 i)],Mem.of [],c,[]⟩) _ ⟨0,_,rfl,Nat.zero_le _,rfl⟩ ?_
 rintro k s' ⟨i,c,rfl,hi,rfl⟩
 refine qw0 ?_
 refine bs rfl rfl (fun hb=>?_) (fun hb=>?_)
 ·have ht:=ki (l:=l) (i:=i) (by omega)
  have hle:=gw (l:=l) (i+1)
  have hch:=dU (l.getD i default)
  have hdl:=Lib.itoa_nonneg (l.getD i default).length
  rw [hdl] at hch
  rw [ht,List.length_append] at hle
  (try ((first|refine zn ?_|refine ze ?_|refine zk ?_);with_reducible (constructor;repeat constructor));try refine zl ?_)
  refine cD nmd [] [(6,12)] mixed hng (by kernel_rfl) [0,3,4] fun hf C S K hC hS hK=>?_;simp (disch:=first|omega|assumption) only [go_sem]
  (repeat ((first|refine hC _ (kg (l.getD i default).length (by omega) _) (by simp (disch:=first|omega|assumption) only [go_sem]) ?_);simp (disch:=first|omega|assumption) only [go_sem]))
  (first|refine hK (aJ rfl) ?_|refine hK (by simp (disch:=first|omega|assumption) only [go_sem,List.reverse_cons,List.reverse_nil,ne_eq,not_false_eq_true,implies_true]) ?_);clear hK hS hC K S C hf
  refine qw0 ?_
  have hs:b5 (l.take i)++Lib.decDigits (l.getD i default).length++[58]++l.getD i default++[44]=b5 (l.take (i+1)):=by rw [ht,chunk,hdl];simp only [List.append_assoc]
  rw [hs]
  exact ⟨_,_,by omega,fun _ _ h=>h,i+1,c+1+1+1,rfl,by omega,rfl⟩
 ·obtain rfl:i=l.length:=by omega
  refine qw0 ?_
  exact aE (b6 (congrArg AV.str (by rw [List.take_length])))
theorem wZ (b:Bits) (hb:b.ok) (h0:0≤b.k∧0≤b.m) (p:Oid):aq Tryz.prog 209 [b.av] (Oid.under p) ⟨[],.str (cN b),[]⟩:=by
 obtain ⟨k,m,l⟩:=b
 obtain ⟨⟨k1,k2⟩,⟨m1,m2⟩,hl⟩:=hb
 simp only at k1 k2 m1 m2 hl h0
 obtain ⟨k,rfl⟩:=Int.eq_ofNat_of_zero_le h0.1
 obtain ⟨m,rfl⟩:=Int.eq_ofNat_of_zero_le h0.2
 have hk:=fJ k k2
 have hm:=fJ m m2
 have h1:=gb (s:=Lib.decDigits k) (by omega)
 have h2:=gb (s:=Lib.decDigits m) (by omega)
 have h3:=gb hl
 have hE:(b5 [Lib.decDigits k,Lib.decDigits m,l]).length≤140737488355328:=by simp only [b5,List.length_append,List.length_nil];omega
 simp only [Bits.av]
 refine aV (n:=16) (rs:=[.tmp 2]) Tryz.func209 rfl rfl (by decide) rfl rfl rfl ?_;rintro x rfl hrd hng
 refine qw0 ?_
 refine bs rfl rfl (fun hb=>?_) (fun hb=>?_)
 ·refine qw0 ?_
  exact aE (b6 (congrArg AV.str (by rw [cN,if_pos hb])))
 ·(try ((first|refine zn ?_|refine ze ?_|refine zk ?_);with_reducible (constructor;repeat constructor));try refine zl ?_)
  refine cD nmd [] [(2,4),(2,7),(5,7)] mixed hng (by kernel_rfl) [2] fun hf C S K hC hS hK=>?_;simp (disch:=first|omega|assumption) only [go_sem]
  (repeat ((first|refine hC _ (kg k k2 _) (by simp (disch:=first|omega|assumption) only [go_sem]) ?_|refine hC _ (kg m m2 _) (by simp (disch:=first|omega|assumption) only [go_sem]) ?_|refine hC _ (l9 [Lib.decDigits k,Lib.decDigits m,l] hE (by simp) _) (by simp (disch:=first|omega|assumption) only [go_sem]) ?_);simp (disch:=first|omega|assumption) only [go_sem]))
  (first|refine hK (aJ rfl) ?_|refine hK (by simp (disch:=first|omega|assumption) only [go_sem,List.reverse_cons,List.reverse_nil,ne_eq,not_false_eq_true,implies_true]) ?_);clear hK hS hC K S C hf
  refine qw0 ?_
  exact aE (b6 (congrArg AV.str (by rw [cN,if_neg hb,Lib.itoa_nonneg,Lib.itoa_nonneg])))
end Go.Proofs.YtngffmnomciogaaGreatDoor
namespace Go.Proofs.YtngffmnomciogaaGreatDoor
open Go Go.Ab
set_option maxRecDepth 20000
set_option maxHeartbeats 4000000
theorem rb (c:UInt8):∀ r:Str,(Lib.indexByte r c = -1∧∀ j,j < r.length→¬ r.getD j 0=c)∨∃ i:Nat,Lib.indexByte r c=i∧i < r.length∧r.getD i 0=c∧∀ j,j < i→¬ r.getD j 0=c
 | []=>.inl ⟨rfl,fun j hj=>absurd hj (Nat.not_lt_zero _)⟩
 | b::r=>by
  by_cases hb:b=c
  ·refine .inr ⟨0,by simp [Lib.indexByte,hb],by simp,by simp [hb],fun j hj=>absurd hj (Nat.not_lt_zero _)⟩
  have hb':(b == c)=false:=by simpa using hb
  rcases rb c r with ⟨h1,h2⟩|⟨i,h1,h2,h3,h4⟩
  ·refine .inl ⟨by simp [Lib.indexByte,hb',h1],fun j hj=>?_⟩
   cases j with
   | zero=>simpa using hb
   | succ j=>simpa using h2 j (by simpa using hj)
  ·refine .inr ⟨i+1,?_,by simpa using h2,by simpa using h3,fun j hj=>?_⟩
   ·have:¬ Lib.indexByte r c = -1:=by omega
    simp only [Lib.indexByte,hb',Bool.false_eq_true,if_false,beq_iff_eq,this,h1];omega
   ·cases j with
    | zero=>simpa using hb
    | succ j=>simpa using h4 j (by omega)
end Go.Proofs.YtngffmnomciogaaGreatDoor
namespace Go.Proofs.YtngffmnomciogaaGreatDoor
open Go Go.Ab
set_option maxRecDepth 20000
set_option maxHeartbeats 4000000
theorem AG {s a b c:Str}:sO s a b c=true↔1≤gM a∧gM a≤3∧0≤gM b∧gM b≤7∧¬ (gM a=2∧¬ c=[])∧cN ⟨gM a,gM b,c⟩=s:=by
 rw [q9]
 obtain ⟨a1,a2⟩:=jM a
 obtain ⟨b1,b2⟩:=jM b
 constructor
 ·rintro ⟨h1,h2,h3,h4,h5,h6,h7⟩
  rw [a2 h1] at h3 h4 h6 h7
  rw [b2 h2] at h5 h7
  rw [b1,decide_eq_true_eq] at h2
  exact ⟨h3,h4,h2,h5,h6,h7⟩
 ·rintro ⟨h1,h2,h3,h4,h5,h6⟩
  have g1:ew a=true:=by rw [a1,decide_eq_true_eq];omega
  have g2:ew b=true:=by rw [b1,decide_eq_true_eq];omega
  rw [a2 g1,b2 g2]
  exact ⟨g1,g2,h1,h2,h4,h5,h6⟩
theorem RG {s a b c:Str}:(if sO s a b c=true then ((⟨bu a,bu b,c⟩:Bits),(0:Int)) else (Bits.no,20))=if sO s a b c=true then (⟨gM a,gM b,c⟩,0) else (Bits.no,20):=by
 split
 ·rename_i h
  have:=q9.1 h
  rw [(jM a).2 this.1,(jM b).2 this.2.1]
 ·rfl
end Go.Proofs.YtngffmnomciogaaGreatDoor
namespace Go.Proofs.YtngffmnomciogaaGreatDoor
open Go Go.Ab
set_option maxRecDepth 20000
set_option maxHeartbeats 4000000
theorem w5 {a b:List Str} {i:Nat} (ha:i < a.length) (hb:i < b.length) (h:a.take i=b.take i) (he:a.getD i default=b.getD i default):a.take (i+1)=b.take (i+1):=by
 rw [List.take_add_one,List.take_add_one,h,List.getElem?_eq_getElem ha,List.getElem?_eq_getElem hb]
 rw [List.getD_eq_getElem?_getD,List.getD_eq_getElem?_getD,List.getElem?_eq_getElem ha,List.getElem?_eq_getElem hb] at he
 simp only [Option.getD_some] at he
 rw [he]
theorem RH (a b:List Str) (ha:a.length≤140737488355328) (hbl:b.length≤140737488355328) (p:Oid):aq Tryz.prog 10 [.list 1 (a.map AV.str),.list 1 (b.map AV.str)] (Oid.under p) ⟨[],.bool (decide (a=b)),[]⟩:=by
 refine aV (n:=26) (rs:=[.tmp 4]) Tryz.func10 rfl rfl (by decide) rfl rfl rfl ?_;rintro x rfl hrd hng
 refine qw0 ?_
 refine bs rfl rfl (fun hb=>?_) (fun hb=>?_)
 ·have hne:¬ a=b:=fun e=>hb (by rw [e])
  refine qw0 ?_
  exact aE (b6 (congrArg AV.bool (decide_eq_false hne).symm))
 ·have hlen:a.length=b.length:=by omega
  refine qw0 ?_
  refine cE [0,1,5] (fun k s'=>∃ (i c:Nat),k=a.length - i∧i≤a.length∧a.take i=b.take i∧s' = ⟨[(0,.list 1 (a.map AV.str)),(1,.list 1 (b.map AV.str)),(5,.int .i64 i)],Mem.of [],c,[]⟩) _ ⟨0,_,rfl,Nat.zero_le _,rfl,rfl⟩ ?_
  rintro k s' ⟨i,c,rfl,hi,htk,rfl⟩
  refine qw0 ?_
  refine bs rfl rfl (fun hb=>?_) (fun hb=>?_)
  ·(try ((first|refine zn ?_|refine ze ?_|refine zk ?_);with_reducible (constructor;repeat constructor));try refine zl ?_)
   refine dE [0,1,5,25] (fun s'=>∃ c':Nat,s' = ⟨[(0,.list 1 (a.map AV.str)),(1,.list 1 (b.map AV.str)),(5,.int .i64 i),(25,.bool (decide (¬ a.getD i default=b.getD i default)))],Mem.of [],c',[]⟩) ?_ ?_
   ·refine qd (.d [] [] [0,1,5,25]) trivial trivial ?_
    exact aR ⟨_,rfl⟩
   rintro s' ⟨c',rfl⟩
   refine qw0 ?_
   refine bs rfl rfl (fun hb=>?_) (fun hb=>?_)
   ·have hne:¬ a=b:=fun e=>hb (by rw [e])
    refine qw0 ?_
    exact aE (b6 (congrArg AV.bool (decide_eq_false hne).symm))
   ·refine qw0 ?_
    exact ⟨_,_,by omega,fun _ _ h=>h,i+1,_,rfl,by omega,w5 (by omega) (by omega) htk (Classical.not_not.1 hb),rfl⟩
  ·have he:a=b:=by
    have h1:i=a.length:=by omega
    rw [h1,List.take_length,hlen,List.take_length] at htk
    exact htk
   refine qw0 ?_
   exact aE (b6 (congrArg AV.bool (decide_eq_true he).symm))
end Go.Proofs.YtngffmnomciogaaGreatDoor
namespace Go.Proofs.YtngffmnomciogaaGreatDoor
open Go Go.Ab
set_option maxRecDepth 20000
set_option maxHeartbeats 4000000
def paths:List Str:=[[],[47,97],[47,98],[47,97,47,97],[47,97,47,98],[47,98,47,97],[97],[47,97,47,97,47,97],[47],[47,97,98]]
def tL (i:UInt8):Str:=paths.getD (i.toNat % 10) default
def dc (m k l:UInt8):Bits :=
 ⟨(m.toNat % 4:Nat),(k.toNat % 8:Nat),if m.toNat % 4=1∨m.toNat % 4=3 then ([120,121,122]:Str).drop (l.toNat % 3) else []⟩
theorem aag (p:Oid):aq Tryz.prog 31 [] (Oid.under p) ⟨[],.ptr (.sub 1 2 p) 0,[(.sub 1 2 p,some (.cells [.map (.sub 1 0 p),.nilPtr])),(.sub 1 0 p,some (.map [.ss] false [] 0))]⟩:=by
 refine aV (n:=4) (rs:=[.tmp 0]) Tryz.func31 rfl rfl (by decide) rfl rfl rfl ?_;rintro x rfl hrd hng
 refine qw0 ?_
 refine aE (aS rfl ?_ ?_)
 all_goals simp [Mem.ao]
end Go.Proofs.YtngffmnomciogaaGreatDoor
namespace Go.Proofs.YtngffmnomciogaaGreatDoor
open Go Go.Ab
set_option maxRecDepth 20000
set_option maxHeartbeats 4000000
theorem bL {P:Program} {rs:List ResultVar} {need:List (Oid × aj)} {fr:List (Nat × AV)} {m:Mem} {c:Nat} {val:AV} {upd:List (Oid × Option aj)} (h1:fH P m fr rs=some val)
  (h2:∀ q,q ∈ upd→∀ o,q.2=some o→m q.1=some o) (h3:∀ q,q ∈ need→(∀ r,r ∈ upd→¬ r.1=q.1)→m q.1=some q.2):dJ P rs need (fun v u=>v=val∧u=upd) (fun _ _=>False) .normal ⟨fr,m,c,[]⟩ :=
 a8 val upd h1 ⟨rfl,rfl⟩ (oY h2 h3)
variable (st t:Oid) (es:List ME) (clock:Nat) (hts:¬ t=st) (p:Oid) (hs:¬ Oid.under p st) (ht:¬ Oid.under p t)
include hts hs ht
theorem RI (b:Bits):aq Tryz.prog 57 [.ptr st 0,.str [],b.av] (Oid.under p) ⟨[(st,.cells [.map t,.nilPtr]),(t,.map [.ss] false es clock)],.tuple [],[]⟩:=by
 simp only [Bits.av]
 refine aV (n:=35) (rs:=[]) Tryz.func57 rfl rfl (by decide) rfl rfl rfl ?_;rintro x rfl hrd hng
 refine qw (ai (uu ht) (ai (uu hs) hts)) ?_
 refine aE (aS rfl ?_ ?_)
 all_goals simp only [List.mem_cons,List.not_mem_nil,or_false,forall_eq_or_imp,forall_eq,Option.some.injEq,forall_eq',Mem.ao,eq_self,if_true,↓reduceIte,reduceCtorEq,implies_true,not_true_eq_false,false_imp_iff,true_and,and_true,false_and,and_false,imp_self,Oid.ab ht,Oid.aa ht,Oid.ab hs,Oid.aa hs,hts]
theorem RJ (n:Str) (hn:¬ n=[]) (b:Bits) (hb:¬ b.k=0):aq Tryz.prog 57 [.ptr st 0,.str n,b.av] (Oid.under p) ⟨[(st,.cells [.map t,.nilPtr]),(t,.map [.ss] false es clock)],.tuple [],[(t,some (.map [.ss] false (b9 (.str n) b.av clock es) (if bI (.str n) es then clock else clock+1)))]⟩:=by
 simp only [Bits.av]
 refine aV (n:=35) (rs:=[]) Tryz.func57 rfl rfl (by decide) rfl rfl rfl ?_;rintro x rfl hrd hng
 refine qw (ai (uu ht) (ai (uu hs) hts)) ?_
 refine bs rfl rfl (fun hb'=>?_) (fun hb'=>?_)
 ·exact absurd hb' hn
 ·refine qw (ai (uu ht) (ai (uu hs) hts)) ?_
  refine bs rfl rfl (fun hb'=>?_) (fun hb'=>?_)
  ·exact absurd hb' hb
  ·(try ((first|refine zn ?_|refine ze ?_|refine zk ?_);with_reducible (constructor;repeat constructor));try refine zl ?_)
   refine qd (.d [] [] [0]) (ai (uu ht) (ai (uu hs) hts)) trivial ?_
   refine bC (bL rfl ?_ ?_)
   all_goals simp only [List.mem_cons,List.not_mem_nil,or_false,forall_eq_or_imp,forall_eq,Option.some.injEq,forall_eq',Mem.ao,eq_self,if_true,↓reduceIte,reduceCtorEq,implies_true,not_true_eq_false,false_imp_iff,true_and,and_true,false_and,and_false,imp_self,Oid.ab ht,Oid.aa ht,Oid.ab hs,Oid.aa hs,hts]
theorem RM (n:Str) (hn:¬ n=[]) (b:Bits) (hb:b.k=0):aq Tryz.prog 57 [.ptr st 0,.str n,b.av] (Oid.under p) ⟨[(st,.cells [.map t,.nilPtr]),(t,.map [.ss] false es clock)],.tuple [],[(t,some (.map [.ss] false (jB (.str n) es) clock))]⟩:=by
 simp only [Bits.av]
 refine aV (n:=35) (rs:=[]) Tryz.func57 rfl rfl (by decide) rfl rfl rfl ?_;rintro x rfl hrd hng
 refine qw (ai (uu ht) (ai (uu hs) hts)) ?_
 refine bs rfl rfl (fun hb'=>?_) (fun hb'=>?_)
 ·exact absurd hb' hn
 ·refine qw (ai (uu ht) (ai (uu hs) hts)) ?_
  refine bs rfl rfl (fun hb'=>?_) (fun hb'=>?_)
  ·refine qw (ai (uu ht) (ai (uu hs) hts)) ?_
   refine bC (bL rfl ?_ ?_)
   all_goals simp only [List.mem_cons,List.not_mem_nil,or_false,forall_eq_or_imp,forall_eq,Option.some.injEq,forall_eq',Mem.ao,eq_self,if_true,↓reduceIte,reduceCtorEq,implies_true,not_true_eq_false,false_imp_iff,true_and,and_true,false_and,and_false,imp_self,Oid.ab ht,Oid.aa ht,Oid.ab hs,Oid.aa hs,hts]
  ·exact absurd hb hb'
omit hts in
theorem AH (n:Str) (b:Bits) (hv:fv (.str n) (.agg [.int .i64 0,.int .i64 0,.str []]) es=b.av):aq Tryz.prog 140 [.map t,.str n] (Oid.under p) ⟨[(t,.map [.ss] false es clock)],(if n=[] then (⟨2,7,[]⟩:Bits) else b).av,[]⟩:=by
 simp only [Bits.av] at hv
 refine aV (n:=11) (rs:=[.cell 4 86]) Tryz.func140 rfl rfl (by decide) rfl rfl rfl ?_;rintro x rfl hrd hng
 refine qw (uu ht) ?_
 refine bs rfl rfl (fun hb'=>?_) (fun hb'=>?_)
 ·rw [if_pos hb']
  refine qw (uu ht) ?_
  refine aE (aS (by simp (disch:=first|omega|assumption) only [go_sem,Bits.av,Oid.ab ht,Oid.aa ht]) ?_ ?_)
  all_goals simp only [List.mem_cons,List.not_mem_nil,or_false,forall_eq_or_imp,forall_eq,Option.some.injEq,forall_eq',Mem.ao,eq_self,if_true,↓reduceIte,reduceCtorEq,implies_true,not_true_eq_false,false_imp_iff,true_and,and_true,false_and,and_false,imp_self,Oid.ab ht,Oid.aa ht]
 ·rw [if_neg hb']
  refine qw (ai (uu ht) hv) ?_
  refine aE (aS (by simp (disch:=first|omega|assumption) only [go_sem,Bits.av,Oid.ab ht,Oid.aa ht]) ?_ ?_)
  all_goals simp only [List.mem_cons,List.not_mem_nil,or_false,forall_eq_or_imp,forall_eq,Option.some.injEq,forall_eq',Mem.ao,eq_self,if_true,↓reduceIte,reduceCtorEq,implies_true,not_true_eq_false,false_imp_iff,true_and,and_true,false_and,and_false,imp_self,Oid.ab ht,Oid.aa ht]
omit hts ht in
theorem tM (n:Str) (f:Bool):aq Tryz.prog 139 [.ptr st 0,.agg [.str n,.bool f]] (Oid.under p) ⟨[(st,.cells [.map t,.nilPtr])],.tuple [],[]⟩:=by
 refine aV (n:=59) (rs:=[]) Tryz.func139 rfl rfl (by decide) rfl rfl rfl ?_;rintro x rfl hrd hng
 refine qr .o (uu hs) trivial ?_
 refine cD nmd [(5,11),(9,15)] [] mixed hng (by kernel_rfl) [27] fun hf C S K hC hS hK=>?_;simp (disch:=first|omega|assumption) only [go_sem,Oid.ab hs,Oid.aa hs]
 (first|refine hK (aJ rfl) ?_|refine hK (by simp (disch:=first|omega|assumption) only [go_sem,List.reverse_cons,List.reverse_nil,ne_eq,not_false_eq_true,implies_true]) ?_);clear hK hS hC K S C hf
 refine qw0 ?_
 refine aE (aS rfl ?_ ?_)
 all_goals simp only [List.mem_cons,List.not_mem_nil,or_false,forall_eq_or_imp,forall_eq,Option.some.injEq,forall_eq',Mem.ao,eq_self,if_true,↓reduceIte,reduceCtorEq,implies_true,not_true_eq_false,false_imp_iff,true_and,and_true,false_and,and_false,imp_self,Oid.ab hs,Oid.aa hs]
theorem sP (n:Str) (b:Bits) (hv:fv (.str n) (.agg [.int .i64 0,.int .i64 0,.str []]) es=b.av):aq Tryz.prog 64 [.ptr st 0,.str n] (Oid.under p) ⟨[(st,.cells [.map t,.nilPtr]),(t,.map [.ss] false es clock)],(if n=[] then (⟨2,7,[]⟩:Bits) else b).av,[]⟩:=by
 have hs':∀ c i,¬ Oid.under (.sub c i p) st:=fun c i h=>hs (Oid.ae h)
 have ht':∀ c i,¬ Oid.under (.sub c i p) t:=fun c i h=>ht (Oid.ae h)
 generalize hB:(if n=[] then (⟨2,7,[]⟩:Bits) else b)=B
 have hat:=fun p hs ht=>AH st t es clock p hs ht n b hv
 rw [hB] at hat
 simp only [Bits.av] at hat ⊢
 refine aV (n:=15) (rs:=[.cell 4 86]) Tryz.func64 rfl rfl (by decide) rfl rfl rfl ?_;rintro x rfl hrd hng
 refine qw (ai (uu ht) (ai (uu hs) hts)) ?_
 refine qr .o (ai (uu ht) (ai (uu hs) hts)) (cq (tM st t _ (hs' _ _) n false) trivial) ?_
 refine qr .o (ai (uu ht) (ai (uu hs) hts)) (cq (hat _ (hs' _ _) (ht' _ _)) trivial) ?_
 refine qw (ai (uu ht) (ai (uu hs) hts)) ?_
 refine aE (aS (qs (ai (uu ht) (ai (uu hs) hts))) ?_ ?_)
 all_goals simp only [List.mem_cons,List.not_mem_nil,or_false,forall_eq_or_imp,forall_eq,Option.some.injEq,forall_eq',Mem.ao,eq_self,if_true,↓reduceIte,reduceCtorEq,implies_true,not_true_eq_false,false_imp_iff,true_and,and_true,false_and,and_false,imp_self,Oid.ab ht,Oid.aa ht,Oid.ab hs,Oid.aa hs,hts]
end Go.Proofs.YtngffmnomciogaaGreatDoor
namespace Go.Proofs.YtngffmnomciogaaGreatDoor
open Go Go.Ab
set_option maxRecDepth 20000
set_option maxHeartbeats 4000000
theorem kR (s:Str) (c:UInt8) (sp:Oid→Prop):aq Tryz.prog 184 [.str s,.str [c]] sp ⟨[],.bool (decide (0≤Lib.indexByte s c)),[]⟩ :=
 er (by kernel_rfl) fun g args w ha _=>by
  obtain ⟨v,u,rfl,hv,hu⟩:=ha.two
  obtain ⟨b,rfl,hb⟩:=hv.bn
  obtain ⟨d,rfl,hd⟩:=hu.bn
  obtain rfl:d=⟨#[c]⟩:=by cases d with|mk a=>cases a with|mk l=>simp only at hd;rw [hd]
  refine (Tryz.strings_Contains_one b c w).mono ?_
  rintro e w' ⟨rfl,rfl⟩
  exact ⟨_,rfl,by rw [hb];exact .bool _,rfl⟩
def fw (s t:Str):Bool:=decide (t.length≤s.length) && decide (s.take t.length=t)
theorem jN (s t:Str) (hl:s.length≤140737488355328) (hl2:t.length≤140737488355328) (p:Oid):aq Tryz.prog 160 [.str s,.str t] (Oid.under p) ⟨[],.bool (fw s t),[]⟩:=by
 refine aV (n:=18) (rs:=[.tmp 4]) Tryz.func160 rfl rfl (by decide) rfl rfl rfl ?_;rintro x rfl hrd hng
 refine qr0 ?_
 refine ay nmd [(5,10)] hng (by kernel_rfl) fun hf C S K hC1 hC hS hK=>?_;simp (disch:=first|omega|assumption) only [go_sem]
 (repeat' (first|(refine bV (fun hv=>?_) (fun hv=>?_)<;>(try simp only [zb1,zb2,zb3,zb4,zb5] at hv)<;>simp (disch:=first|omega|assumption) only [go_sem,hv])|(refine hK ?_;clear hK hS hC hC1 K S C hf)))
 ·refine qw0 ?_
  exact aE (b6 (congrArg AV.bool (by rw [fw,decide_eq_true (by omega:t.length≤s.length),Bool.true_and])))
 ·refine qw0 ?_
  exact aE (b6 (congrArg AV.bool (by rw [fw,decide_eq_false (by omega:¬ t.length≤s.length),Bool.false_and])))
theorem nb (s t:Str) (hl:s.length≤140737488355328) (hl2:t.length≤140737488355328) (p:Oid):aq Tryz.prog 283 [.str s,.str t] (Oid.under p) ⟨[],.tuple [.str (if fw s t=true then s.drop t.length else s),.bool (fw s t)],[]⟩:=by
 have hpre:fw s t=true→t.length≤s.length:=fun h=>by simp only [fw,Bool.and_eq_true,decide_eq_true_eq] at h;exact h.1
 refine aV (n:=15) (rs:=[.tmp 4,.tmp 5]) Tryz.func283 rfl rfl (by decide) rfl rfl rfl ?_;rintro x rfl hrd hng
 (repeat (first|(refine aB rfl rfl ?_)|(refine aC rfl rfl ?_)|(refine ay nmd [] hng (by kernel_rfl) fun hf C S K hC1 hC hS hK=>?_;simp (disch:=first|omega|assumption) only [go_sem];(repeat ((first|refine hC1 _ (jN s t hl hl2 _) (by simp (disch:=first|omega|assumption) only [go_sem]) ?_);simp (disch:=first|omega|assumption) only [go_sem]));refine hK ?_;clear hK hS hC hC1 K S C hf)|((first|refine zn ?_|refine ze ?_|refine zk ?_);with_reducible (constructor;repeat constructor);try refine zl ?_)))
 cases hp:fw s t with
 | true =>
  have:=hpre hp
  refine qw0 ?_
  exact aE (bz rfl)
 | false =>
  refine qw0 ?_
  exact aE (bz rfl)
theorem jO (s t:Str) (hl:s.length≤140737488355328) (hl2:t.length≤140737488355328) (p:Oid):aq Tryz.prog 251 [.str s,.str t] (Oid.under p) ⟨[],.tuple [.str (if fw s t=true then s.drop t.length else s),.bool (fw s t)],[]⟩:=by
 refine aV (n:=11) (rs:=[.tmp 4,.tmp 5]) Tryz.func251 rfl rfl (by decide) rfl rfl rfl ?_;rintro x rfl hrd hng
 (repeat (first|(refine aB rfl rfl ?_)|(refine aC rfl rfl ?_)|(refine ay nmd [] hng (by kernel_rfl) fun hf C S K hC1 hC hS hK=>?_;simp (disch:=first|omega|assumption) only [go_sem];(repeat ((first|refine hC1 _ (nb s t hl hl2 _) (by simp (disch:=first|omega|assumption) only [go_sem]) ?_);simp (disch:=first|omega|assumption) only [go_sem]));refine hK ?_;clear hK hS hC hC1 K S C hf)|((first|refine zn ?_|refine ze ?_|refine zk ?_);with_reducible (constructor;repeat constructor);try refine zl ?_)))
 exact aE (bz rfl)
end Go.Proofs.YtngffmnomciogaaGreatDoor
namespace Go.Ab
theorem nc {P:Program} [Laid P] {f:FuncId} {xs:List AV} {p:Oid} (vs:List AV) (cs:Array Value) (t:TypeId) (he:cn P f=true)
  (h1:cs.size=vs.length) (h2:∀ i,i < vs.length→(vs.getD i .undef).cells.length=1) (h3:∀ j,j < vs.length→(cs.getD j undef).oneCell' = true)
  (h4:∀ g i,i < vs.length→VR g ((vs.getD i .undef).cells.getD 0 .undef) (cs.getD i undef))
  (h:∀ (g:Gh) (args:Array Value) (w:World),VRs g xs args→kf P g w→Calls P f args w fun en w'=>en = .returned (.slice (some ⟨w.heap.size,0,none⟩) vs.length vs.length)∧w' = w.alloc (.cells cs t)) :
  aq P f xs (Oid.under p) ⟨[],.sl (.sub 0 0 p) 1 vs.length,[(.sub 0 0 p,some (.arr 1 vs))]⟩:=by
 refine ⟨he,fun x g args w m hm _ ha hs hx=>(h g args w ha (hm.told hx)).mono ?_⟩
 rintro en w' ⟨rfl,rfl⟩
 obtain ⟨hl,hu⟩:=hs (.sub 0 0 p) (Oid.ae (Oid.az _))
 have hrn:g.row w.heap.size=none:=hm.lj (Nat.le_refl _)
 have hnew:=hm.new hl hu (o:=.arr 1 vs) (ob:=.cells cs t) ⟨cs,t,(0,0),bO w _,by omega,fun j _ hj=>by omega,h2,fun j hj=>h3 j (by omega),fun i j hi hj=>by
  obtain rfl:j=0:=by omega
  have:=h4 (g.bind (.sub 0 0 p) w.heap.size) i hi
  simpa using this⟩ (fun t ht=>by cases ht)
 refine ⟨(g.bind (.sub 0 0 p) w.heap.size).measure w.heap.size (vs.length * 1),_,rfl,Gh.le_trans (Gh.bE hl) (Gh.dQ (.inl hrn)),fun j hj=>?_,?_,hnew.measure ⟨cs,t,(0,0),bO w _,by omega⟩ (.inl hrn)⟩
 ·have hne:¬ j = .sub 0 0 p:=fun e=>by subst e;exact hj (Oid.ae (Oid.az (.sub 0 0 p)))
  simp only [Gh.bind,Gh.measure];rw [if_neg hne]
 ·exact .sl _ _ _ _ _ (by simp [Gh.bind,Gh.measure]) (Nat.le_refl _) (by simp [Gh.measure])
end Go.Ab
namespace Go.Ab
section
variable {κ ν:Type} [DecidableEq κ] {ek:κ→AV} {ev:ν→AV}
def ji (ek:κ→AV) (ev:ν→AV) (q:κ × ν × Nat):ME:=⟨ek q.1,ev q.2.1,q.2.2⟩
def prj (q:κ × ν × Nat):κ × ν:=(q.1,q.2.1)
def aH (n:κ):List (κ × ν)→Option ν
 | []=>none
 | q::L=>if n=q.1 then some q.2 else aH n L
def AI (n:κ) (b:ν) (c:Nat):List (κ × ν × Nat)→List (κ × ν × Nat)
 | []=>[(n,b,c)]
 | q::L=>if n=q.1 then (q.1,b,q.2.2)::L else q::AI n b c L
def AJ (n:κ):List (κ × ν × Nat)→List (κ × ν × Nat)
 | []=>[]
 | q::L=>if n=q.1 then L else q::AJ n L
def aah (ev:ν→AV) (z:AV):Option ν→AV
 | some b=>ev b
 | none=>z
theorem SB (he:iQ ek) (n:κ) (z:AV):∀ E:List (κ × ν × Nat),fv (ek n) z (E.map (ji ek ev))=aah ev z (aH n (E.map prj))
 | []=>rfl
 | q::L=>by
  have ih:=SB he n z L
  have h1:=he n q.1
  simp only [fv,List.map_cons,di,ji,h1,aH,prj] at ih ⊢
  by_cases h:n=q.1
  ·simp [h,aah]
  ·simp only [h,decide_false,Bool.false_eq_true,if_false];exact ih
theorem SC (he:iQ ek) (n:κ):∀ E:List (κ × ν × Nat),bI (ek n) (E.map (ji ek ev))=(aH n (E.map prj)).isSome
 | []=>rfl
 | q::L=>by
  have ih:=SC he n L
  have h1:=he n q.1
  simp only [bI,List.map_cons,di,ji,h1,aH,prj] at ih ⊢
  by_cases h:n=q.1
  ·simp [h]
  ·simp only [h,decide_false,Bool.false_eq_true,if_false];exact ih
theorem SD (he:iQ ek) (n:κ) (b:ν) (c:Nat):∀ E:List (κ × ν × Nat),b9 (ek n) (ev b) c (E.map (ji ek ev))=(AI n b c E).map (ji ek ev)
 | []=>rfl
 | q::L=>by
  have ih:=SD he n b c L
  have h1:=he n q.1
  simp only [List.map_cons,b9,AI]
  by_cases h:n=q.1
  ·simp [h,ji,he q.1 q.1]
  ·simp only [h,ji,h1,decide_false,Bool.false_eq_true,if_false,List.map_cons]
   exact congrArg _ ih
theorem SE (he:iQ ek) (n:κ):∀ E:List (κ × ν × Nat),jB (ek n) (E.map (ji ek ev))=(AJ n E).map (ji ek ev)
 | []=>rfl
 | q::L=>by
  have ih:=SE he n L
  have h1:=he n q.1
  simp only [List.map_cons,jB,AJ]
  by_cases h:n=q.1
  ·simp [h,ji,he q.1 q.1]
  ·simp only [h,ji,h1,decide_false,Bool.false_eq_true,if_false,List.map_cons]
   exact congrArg _ ih
theorem gg {n:κ}:∀ {L:List (κ × ν)},¬ n ∈ L.map (·.1)→L.filter (fun q=>decide (¬ q.1=n))=L
 | [],_=>rfl
 | q::L,h=>by
  simp only [List.map_cons,List.mem_cons,not_or] at h
  have h1:¬ q.1=n:=fun e=>h.1 e.symm
  rw [List.filter_cons_of_pos (by simpa using h1),gg h.2]
theorem nS (n:κ) (b:ν) (c:Nat):∀ E:List (κ × ν × Nat),((E.map prj).map (·.1)).Nodup→((AI n b c E).map prj).Perm ((n,b)::(E.map prj).filter fun q=>decide (¬ q.1=n))
 | [],_=>.refl _
 | q::L,h=>by
  simp only [List.map_cons,List.nodup_cons] at h
  have ih:=nS n b c L h.2
  simp only [AI]
  by_cases hn:n=q.1
  ·subst hn
   rw [if_pos rfl,List.map_cons,List.map_cons,List.filter_cons_of_neg (by simp [prj])];erw [gg h.1]
   exact .refl _
  ·rw [if_neg hn,List.map_cons,List.map_cons,List.filter_cons_of_pos (by show decide (¬ (prj q).1=n)=true;exact decide_eq_true fun e=>hn (Eq.symm e))]
   exact (ih.cons _).trans (.swap _ _ _)
theorem tN (n:κ):∀ E:List (κ × ν × Nat),((E.map prj).map (·.1)).Nodup→(AJ n E).map prj=(E.map prj).filter fun q=>decide (¬ q.1=n)
 | [],_=>rfl
 | q::L,h=>by
  simp only [List.map_cons,List.nodup_cons] at h
  have ih:=tN n L h.2
  simp only [AJ]
  by_cases hn:n=q.1
  ·subst hn
   rw [if_pos rfl,List.map_cons,List.filter_cons_of_neg (by simp [prj])];exact (gg h.1).symm
  ·rw [if_neg hn,List.map_cons,List.map_cons,List.filter_cons_of_pos (by show decide (¬ (prj q).1=n)=true;exact decide_eq_true fun e=>hn (Eq.symm e)),ih]
theorem br {n:κ} {b:ν}:∀ {L:List (κ × ν)},(L.map (·.1)).Nodup→(aH n L=some b↔(n,b) ∈ L)
 | [],_=>by simp [aH]
 | q::L,h=>by
  simp only [List.map_cons,List.nodup_cons] at h
  have ih:=br (n:=n) (b:=b) h.2
  simp only [aH]
  by_cases hn:n=q.1
  ·subst hn
   rw [if_pos rfl]
   refine ⟨fun e=>?_,fun e=>?_⟩
   ·simp only [Option.some.injEq] at e;subst e;exact List.mem_cons_self
   ·rcases List.mem_cons.1 e with e|e
    ·rw [← e]
    ·exact absurd (List.mem_map_of_mem (f:=(·.1)) e) h.1
  ·rw [if_neg hn,ih]
   exact ⟨List.mem_cons_of_mem _,fun e=>(List.mem_cons.1 e).resolve_left fun e=>hn (by rw [← e])⟩
theorem jj {n:κ} {L L':List (κ × ν)} (hp:L.Perm L') (h:(L.map (·.1)).Nodup):aH n L=aH n L':=by
 have h':(L'.map (·.1)).Nodup:=(hp.map _).nodup_iff.1 h
 cases h1:aH n L with
 | some b=>rw [eq_comm,br h',← hp.mem_iff,← br h];exact h1
 | none =>
  cases h2:aH n L' with
  | none=>rfl
  | some b=>rw [br h',← hp.mem_iff,← br h,h1] at h2;cases h2
def jl (ek:κ→AV) (ev:ν→AV) (es:List ME) (L:List (κ × ν)):Prop:=∃ E:List (κ × ν × Nat),es=E.map (ji ek ev)∧(E.map prj).Perm L∧(L.map (·.1)).Nodup
omit [DecidableEq κ] in
theorem AK:jl ek ev [] ([]:List (κ × ν)):=⟨[],rfl,.refl _,List.nodup_nil⟩
theorem rf (he:iQ ek) {es:List ME} {L:List (κ × ν)} (h:jl ek ev es L) (n:κ) (z:AV):fv (ek n) z es=aah ev z (aH n L):=by
 obtain ⟨E,rfl,h2,h3⟩:=h
 rw [SB he,jj h2 ((h2.map _).nodup_iff.2 h3)]
theorem AL (he:iQ ek) {es:List ME} {L:List (κ × ν)} (h:jl ek ev es L) (n:κ):bI (ek n) es=(aH n L).isSome:=by
 obtain ⟨E,rfl,h2,h3⟩:=h
 rw [SC he,jj h2 ((h2.map _).nodup_iff.2 h3)]
theorem ma (he:iQ ek) {es:List ME} {L L':List (κ × ν)} (h:jl ek ev es L) (n:κ) (b:ν) (c:Nat) (hp:L'.Perm ((n,b)::L.filter fun q=>decide (¬ q.1=n))):jl ek ev (b9 (ek n) (ev b) c es) L':=by
 obtain ⟨E,rfl,h2,h3⟩:=h
 have h4:=(h2.map (·.1)).nodup_iff.2 h3
 refine ⟨_,SD he n b c E,((nS n b c E h4).trans ((h2.filter _).cons _)).trans hp.symm,((hp.map (·.1)).nodup_iff).2 ?_⟩
 rw [List.map_cons,List.nodup_cons]
 refine ⟨fun hm=>?_,h3.sublist (List.filter_sublist.map _)⟩
 obtain ⟨q,h5,h6⟩:=List.mem_map.1 hm
 have:=(List.mem_filter.1 h5).2
 simp only [decide_eq_true_eq] at this
 exact this h6
theorem AM (he:iQ ek) {es:List ME} {L L':List (κ × ν)} (h:jl ek ev es L) (n:κ) (hp:L'.Perm (L.filter fun q=>decide (¬ q.1=n))):jl ek ev (jB (ek n) es) L':=by
 obtain ⟨E,rfl,h2,h3⟩:=h
 have h4:=(h2.map (·.1)).nodup_iff.2 h3
 refine ⟨_,SE he n E,?_,((hp.map (·.1)).nodup_iff).2 (h3.sublist (List.filter_sublist.map _))⟩
 rw [tN n E h4]
 exact (h2.filter _).trans hp.symm
omit [DecidableEq κ] in
theorem nT {es S:List ME} (hp:es.Pairwise fun e e'=>e.born < e'.born) (hs:∀ e ∈ S,e ∈ es) (hn:(S.map (·.born)).Nodup) (hall:∀ e ∈ es,e.born ∈ S.map (·.born)):S.Perm es:=by
 have hne:es.Nodup:=(hp.imp fun {a b} h=>by intro e;subst e;exact Nat.lt_irrefl _ h)
 have hns:S.Nodup:=by
  refine List.Pairwise.imp ?_ (List.pairwise_map.1 hn)
  intro a b h e;exact h (by rw [e])
 refine (List.perm_ext_iff_of_nodup hns hne).2 fun e=>⟨hs e,fun he=>?_⟩
 obtain ⟨e',h1,h2⟩:=List.mem_map.1 (hall e he)
 have h3:e' = e:=by
  apply Classical.byContradiction
  intro hne'
  have hinj:∀ a ∈ es,∀ b ∈ es,¬ a=b→¬ a.born=b.born:=fun a ha b hb hab=>by
   have h5:es.Pairwise fun a b=>¬ a.born=b.born:=hp.imp fun h=>by omega
   obtain ⟨i,hi,rfl⟩:=List.mem_iff_getElem.1 ha
   obtain ⟨j,hj,rfl⟩:=List.mem_iff_getElem.1 hb
   rw [List.pairwise_iff_getElem] at h5
   rcases Nat.lt_trichotomy i j with h|h|h
   ·exact h5 i j hi hj h
   ·subst h;exact absurd rfl hab
   ·exact fun e=>h5 j i hj hi h (Eq.symm e)
  exact hinj e' (hs e' h1) e he hne' h2
 rwa [← h3]
end
section
variable {κ ν:Type} [DecidableEq κ] (lt:κ→κ→Prop) [DecidableRel lt]
structure Ord:Prop where
 irr:∀ a,¬ lt a a
 tr:∀ a b c,lt a b→lt b c→lt a c
 tot:∀ a b,¬ lt a b→¬ a=b→lt b a
def dL (n:κ):Option ν→List (κ × ν)
 | some b=>[(n,b)]
 | none=>[]
def cY (n:κ) (o:Option ν):List (κ × ν)→List (κ × ν)
 | []=>dL n o
 | q::L=>if lt q.1 n then q::cY n o L else dL n o++(if q.1=n then L else q::L)
def aN (L:List (κ × ν)):Prop:=L.Pairwise fun a b=>lt a.1 b.1
variable {lt}
omit [DecidableEq κ] [DecidableRel lt] in
theorem aN.nodup (ho:Ord lt) {L:List (κ × ν)} (h:aN lt L):(L.map (·.1)).Nodup:=by
 rw [List.nodup_iff_pairwise_ne,List.pairwise_map]
 exact h.imp fun {a b} h (e:a.1=b.1)=>ho.irr a.1 (by rw [← e] at h;exact h)
theorem cg (ho:Ord lt) (n:κ) (o:Option ν):∀ {L:List (κ × ν)},aN lt L→(cY lt n o L).Perm (dL n o++L.filter fun q=>decide (¬ q.1=n))
 | [],_=>by simp [cY]
 | q::L,h=>by
  have h2:=List.pairwise_cons.1 h
  have ih:=cg ho n o (L:=L) h2.2
  simp only [cY]
  by_cases hl:lt q.1 n
  ·have hn:¬ q.1=n:=fun e=>ho.irr n (by rw [e] at hl;exact hl)
   rw [if_pos hl,List.filter_cons_of_pos (by simpa using hn)]
   exact (ih.cons _).trans List.perm_middle.symm
  ·rw [if_neg hl]
   have hno:∀ q' ∈ L,¬ q'.1=n:=fun q' hq e=>by
    have:=h2.1 q' hq
    rw [e] at this;exact hl this
   have hf:L.filter (fun q=>decide (¬ q.1=n))=L:=gg fun hm=>by
    obtain ⟨q',h3,h4⟩:=List.mem_map.1 hm
    exact hno q' h3 h4
   by_cases hn:q.1=n
   ·rw [if_pos hn,List.filter_cons_of_neg (by simpa using hn),hf]
   ·rw [if_neg hn,List.filter_cons_of_pos (by simpa using hn),hf]
theorem ez {n:κ} {o:Option ν} {x:κ × ν}:∀ {L:List (κ × ν)},x ∈ cY lt n o L→x ∈ dL n o∨x ∈ L
 | [],h=>.inl h
 | q::L,h=>by
  simp only [cY] at h
  split at h
  ·rcases List.mem_cons.1 h with rfl|h
   ·exact .inr List.mem_cons_self
   ·exact (ez h).imp id (List.mem_cons_of_mem _)
  ·rcases List.mem_append.1 h with h|h
   ·exact .inl h
   ·split at h
    ·exact .inr (List.mem_cons_of_mem _ h)
    ·exact .inr h
omit [DecidableEq κ] [DecidableRel lt] in
theorem mb {n:κ} {o:Option ν} {x:κ × ν} (h:x ∈ dL n o):x.1=n∧o=some x.2:=by
 cases o with
 | none=>cases h
 | some b=>simp only [dL,List.mem_singleton] at h;subst h;exact ⟨rfl,rfl⟩
theorem eY (ho:Ord lt) (n:κ) (o:Option ν):∀ {L:List (κ × ν)},aN lt L→aN lt (cY lt n o L)
 | [],_=>by cases o<;>simp [cY,dL,aN]
 | q::L,h=>by
  have h2:=List.pairwise_cons.1 h
  have ih:=eY ho n o (L:=L) h2.2
  simp only [cY]
  by_cases hl:lt q.1 n
  ·rw [if_pos hl]
   refine List.pairwise_cons.2 ⟨fun x hx=>?_,ih⟩
   rcases ez hx with hx|hx
   ·rw [(mb hx).1];exact hl
   ·exact h2.1 x hx
  ·rw [if_neg hl]
   refine List.pairwise_append.2 ⟨by cases o<;>simp [dL],?_,fun x hx y hy=>?_⟩
   ·split
    ·exact h2.2
    ·exact h
   ·rw [(mb hx).1]
    by_cases hn:q.1=n
    ·rw [if_pos hn] at hy;rw [← hn];exact h2.1 y hy
    ·rw [if_neg hn] at hy
     have hq:=ho.tot q.1 n hl hn
     rcases List.mem_cons.1 hy with rfl|hy
     ·exact hq
     ·exact ho.tr _ _ _ hq (h2.1 y hy)
omit [DecidableEq κ] [DecidableRel lt] in
theorem nU (ho:Ord lt) {L L':List (κ × ν)} (hp:L.Perm L') (h1:aN lt L) (h2:aN lt L'):L=L' :=
 List.Perm.eq_of_pairwise (le:=fun a b:κ × ν=>lt a.1 b.1) (fun a b _ _ h3 h4=>absurd (ho.tr _ _ _ h3 h4) (ho.irr _)) h1 h2 hp
theorem nV (ho:Ord lt) (n n':κ) (o:Option ν) {L:List (κ × ν)} (h:aN lt L):aH n' (cY lt n o L)=if n' = n then o else aH n' L:=by
 have h1:=eY ho n o h
 have hp:=cg ho n o h
 have hnd:=h1.nodup ho
 rw [jj hp hnd]
 have hf:∀ {L:List (κ × ν)},aH n' (L.filter fun q=>decide (¬ q.1=n))=if n' = n then none else aH n' L:=by
  intro L
  induction L with
  | nil=>simp [aH]
  | cons q L ih =>
   by_cases hn:q.1=n
   ·rw [List.filter_cons_of_neg (by simpa using hn),ih,aH]
    by_cases h':n' = n
    ·simp [h']
    ·have:¬ n' = q.1:=fun e=>h' (e.trans hn)
     simp [h',this]
   ·rw [List.filter_cons_of_pos (by simpa using hn),aH,aH,ih]
    by_cases h':n' = n
    ·subst h'
     have:¬ n' = q.1:=fun e=>hn (Eq.symm e)
     simp [this]
    ·simp [h']
 cases o with
 | none=>simp only [dL,List.nil_append,hf]
 | some b =>
  simp only [dL,List.cons_append,List.nil_append,aH,hf]
  by_cases h':n' = n<;>simp [h']
end
end Go.Ab
namespace Go.Proofs.YtngffmnomciogaaGreatDoor
open Go Go.Ab Go.RowKit
set_option maxRecDepth 20000
set_option maxHeartbeats 2000000
def aW (c:UInt8):Str→List Str
 | []=>[[]]
 | b::s=>if b=c then []::aW c s else match aW c s with|[]=>[[b]]|l::r=>(b::l)::r
theorem iD (c:UInt8) (s:Str):aW c s≠[]:=by
 cases s with
 | nil=>simp [aW]
 | cons b s=>simp only [aW];split;· simp
             split<;>simp
theorem kS {c:UInt8}:∀ {s:Str},c ∉ s→aW c s=[s]
 | [],_=>rfl
 | b::s,h=>by
  have h1:¬ b=c:=fun e=>h (by simp [e])
  have h2:c ∉ s:=fun e=>h (by simp [e])
  rw [aW,if_neg h1,kS h2]
theorem mc {c:UInt8} (u:Str):∀ {t:Str},c ∉ t→aW c (t++c::u)=t::aW c u
 | [],_=>by rw [List.nil_append,aW,if_pos rfl]
 | b::t,h=>by
  have h1:¬ b=c:=fun e=>h (by simp [e])
  have h2:c ∉ t:=fun e=>h (by simp [e])
  rw [List.cons_append,aW,if_neg h1,mc u h2]
theorem fK (c:UInt8):∀ s:Str,(aW c s).length=s.count c+1
 | []=>rfl
 | b::s=>by
  have ih:=fK c s
  rw [aW]
  by_cases h:b=c
  ·rw [if_pos h,List.length_cons,ih,h,List.count_cons_self]
  ·rw [if_neg h,List.count_cons_of_ne h]
   cases hs:aW c s with
   | nil=>exact absurd hs (iD c s)
   | cons l r=>rw [hs] at ih;simpa using ih
theorem nW (c:UInt8):∀ s:Str,c ∉ s∨∃ t u,c ∉ t∧s=t++c::u
 | []=>.inl (by simp)
 | b::s=>by
  by_cases h:b=c
  ·exact .inr ⟨[],s,by simp,by rw [h];rfl⟩
  ·rcases nW c s with h1|⟨t,u,h1,h2⟩
   ·exact .inl (by simp only [List.mem_cons,not_or];exact ⟨fun e=>h e.symm,h1⟩)
   ·exact .inr ⟨b::t,u,by simp only [List.mem_cons,not_or];exact ⟨fun e=>h e.symm,h1⟩,by rw [h2];rfl⟩
theorem index_hit {c:UInt8} (u:Str):∀ {t:Str},c ∉ t→Lib.index (t++c::u) [c]=t.length
 | [],_=>by rw [Lib.index_one,List.nil_append,Lib.indexByte,if_pos (by simp)];rfl
 | b::t,h=>by
  have h1:¬ b=c:=fun e=>h (by simp [e])
  have h2:c ∉ t:=fun e=>h (by simp [e])
  have ih:=index_hit u h2
  rw [Lib.index_one] at ih ⊢
  rw [List.cons_append,Lib.indexByte,if_neg (by simpa using h1),ih,if_neg (by simp),List.length_cons]
  rfl
theorem nX (c:UInt8):∀ (k:Nat) (s:Str),s.count c=k→Lib.splitK [c] 0 k s=aW c s
 | 0,s,h=>by rw [Lib.splitK,kS (List.count_eq_zero.1 h)]
 | k+1,s,h=>by
  rcases nW c s with h1|⟨t,u,h1,rfl⟩
  ·rw [List.count_eq_zero.2 h1] at h;cases h
  ·rw [Lib.splitK,index_hit u h1,if_neg (by simp),mc u h1]
   have hc:u.count c=k:=by
    rw [List.count_append,List.count_eq_zero.2 h1,List.count_cons_self] at h;omega
   have hd:(t++c::u).drop (t.length+1)=u:=by
    rw [← List.drop_drop,List.drop_left];rfl
   simp only [Int.toNat_natCast,Nat.add_zero,List.take_left,List.length_singleton,hd]
   rw [nX c k u hc]
theorem aai {g:Gh} {w:World} (h:kf Tryz.prog g w):∃ m,w.cell? ⟨0,0,none⟩=some (.int .i64 m):=by
 obtain ⟨_,_,⟨m,h7⟩,_⟩:=h.facts
 exact ⟨m,h.com _ _ _ h7⟩
theorem jm {s:Str} {b:ByteArray} (h:b.data.toList=s):b=⟨s.toArray⟩:=by
 cases b;simp only at h;congr 1;rw [← h]
theorem AN (s:Str) (c:UInt8) (hl:s.length < 4294967281) (p:Oid) :
  aq Tryz.prog 181 [.str s,.str [c]] (Oid.under p) ⟨[],.sl (.sub 0 0 p) 1 (aW c s).length,[(.sub 0 0 p,some (.arr 1 ((aW c s).map AV.str)))]⟩:=by
 have hB:Lib.splitB ⟨#[c]⟩ 0 (s.count c) ⟨s.toArray⟩=(aW c s).map fun t=>⟨t.toArray⟩:=by
  have h1:=Lib.splitB_data ⟨#[c]⟩ 0 (s.count c) ⟨s.toArray⟩
  have h2:Lib.splitK [c] 0 (s.count c) s=aW c s:=nX c _ s rfl
  rw [show (ByteArray.mk #[c]).data.toList=[c] from rfl,show (ByteArray.mk s.toArray).data.toList=s from rfl,h2] at h1
  rw [← h1,List.map_map]
  conv=>lhs;rw [← List.map_id (Lib.splitB _ _ _ _)]
  apply List.map_congr_left
  intro b _
  cases b;rfl
 have hc:((Lib.splitB ⟨#[c]⟩ 0 (s.count c) ⟨s.toArray⟩).map Value.string).toArray=((aW c s).map fun t=>Value.string ⟨t.toArray⟩).toArray:=by rw [hB,List.map_map];rfl
 have hg:∀ i,i < (aW c s).length→((aW c s).map AV.str).getD i .undef = .str ((aW c s).getD i []):=fun i hi=>by simp [List.getD_eq_getElem?_getD,List.getElem?_map,List.getElem?_eq_getElem hi]
 have hg2:∀ i,i < (aW c s).length→(((aW c s).map fun t=>Value.string ⟨t.toArray⟩).toArray).getD i undef=Value.string ⟨((aW c s).getD i []).toArray⟩:=fun i hi=>by
  simp [Array.getD_eq_getD_getElem?,List.getD_eq_getElem?_getD,List.getElem?_eq_getElem hi,hi]
 have key:=nc (P:=Tryz.prog) (f:=181) (xs:=[.str s,.str [c]]) (p:=p) ((aW c s).map AV.str) ((aW c s).map fun t=>Value.string ⟨t.toArray⟩).toArray 9 (by kernel_rfl) (by simp)
  (fun i hi=>by rw [hg i (by simpa using hi)];rfl) (fun i hi=>by rw [hg2 i (by simpa using hi)];rfl)
  (fun g i hi=>by rw [hg i (by simpa using hi),hg2 i (by simpa using hi)];exact .str _ _ rfl)
  fun g args w ha ht=>by
   obtain ⟨v,u,rfl,hv,hu⟩:=ha.two
   obtain ⟨b,rfl,hb⟩:=hv.bn
   obtain ⟨d,rfl,hd⟩:=hu.bn
   obtain ⟨m,hm⟩:=aai ht
   rw [jm hb,jm hd]
   refine (Tryz.strings_Split ⟨s.toArray⟩ ⟨#[c]⟩ m w (by show s.toArray.size < _;simpa using hl) hm (by show 1≤(#[c]:Array UInt8).size;exact Nat.le_refl _)).mono ?_
   rintro e w' ⟨rfl,rfl⟩
   have hcb:Lib.countB ⟨s.toArray⟩ ⟨#[c]⟩=s.count c:=Lib.count_one c s
   rw [hcb,hc,List.length_map,fK]
   exact ⟨rfl,rfl⟩
 rwa [List.length_map] at key
def eA (l:Str) (b:UInt8):Nat→Int
 | 0=>-1
 | k+1=>if l.getD k 0=b then k else eA l b k
theorem mg (l:Str) (b:UInt8):∀ k,-1≤eA l b k∧eA l b k < k
 | 0=>by simp [eA]
 | k+1=>by
  have:=mg l b k
  rw [eA];split<;>omega
theorem nY (s:Str) (b:UInt8):∀ k,k≤s.length→Lib.lastIdx ⟨s.toArray⟩ (b.toNat:Int) k=eA s b k
 | 0,_=>rfl
 | k+1,h=>by
  have ih:=nY s b k (by omega)
  have hg:(⟨s.toArray⟩:ByteArray).data[k]! = s.getD k 0:=by
   show s.toArray[k]! = _
   rw [List.getD_eq_getElem?_getD,List.getElem?_eq_getElem h]
   simp [show k < s.length from h]
  have h':k < s.length:=h
  rw [Lib.lastIdx,eA,hg,ih]
  by_cases he:s.getD k 0=b
  ·rw [if_pos (by rw [he]),if_pos he]
  ·rw [if_neg (fun e=>he (UInt8.toNat_inj.1 (by omega))),if_neg he]
theorem mh (s:Str) (b:UInt8) (hl:s.length≤4000000000) (sp:Oid→Prop):aq Tryz.prog 186 [.str s,.int .u8 (b.toNat:Int)] sp ⟨[],.int .i64 (eA s b s.length),[]⟩ :=
 er (by kernel_rfl) fun g args w ha _=>by
  obtain ⟨v,u,rfl,hv,hu⟩:=ha.two
  obtain ⟨c,rfl,hb⟩:=hv.bn
  rw [hu.bd,jm hb]
  refine (Tryz.strings_LastIndexByte ⟨s.toArray⟩ b.toNat (by show s.toArray.size < _;simp;omega) w).mono ?_
  rintro e w' ⟨rfl,rfl⟩
  exact ⟨_,rfl,by unfold Lib.lastIndexByte;rw [nY s b _ (by show s.toArray.size≤_;simp)];exact .int _ _,rfl⟩
end Go.Proofs.YtngffmnomciogaaGreatDoor
namespace Go.Proofs.YtngffmnomciogaaGreatDoor
open Go Go.Ab
theorem w6 (a b:Str):dD (.str a) (.str b)=decide (a=b):=by
 by_cases h:a=b<;>simp [dD,AV.cells,bt,eqS,h]
abbrev Ent:=Str × Bits × Nat
def lb (n:Str):List Ent→List Ent
 | []=>[]
 | q::L=>if n=q.1 then L else q::lb n L
theorem pc (n:Str):∀ L:List Ent,(lb n L).Sublist L
 | []=>.slnil
 | q::L=>by
  simp only [lb]
  split
  ·exact (List.Sublist.refl L).cons q
  ·exact (pc n L).cons_cons q
end Go.Proofs.YtngffmnomciogaaGreatDoor
namespace Go.Proofs.YtngffmnomciogaaGreatDoor
open Go Go.Ab
set_option maxRecDepth 20000
theorem kT {P:Program} [Laid P] {f:FuncId} {xs:List AV} {sp:Oid→Prop} {need:List (Oid × aj)} {v:AV} {t:Oid} {o:aj} (h:aq P f xs sp ⟨need,v,[]⟩) (ht:(t,o) ∈ need):aq P f xs sp ⟨need,v,[(t,some o)]⟩ :=
 ⟨h.enters,fun x g args w m hm hn ha hs hx=>(h.calls x g args w m hm hn ha hs hx).mono fun en w' ⟨g',u,h1,h2,h3,h4,h5⟩=>⟨g',u,h1,h2,h3,h4,by
  have he:m.aF [(t,some o)]=m:=by
   funext i
   simp only [Mem.aF,Mem.set]
   split
   ·rename_i e;rw [e];exact (hn _ ht).symm
   ·rfl
  show ax x g' (m.aF [(t,some o)]) w'
  rw [he];exact h5⟩⟩
def pd (n:Str) (b:Bits) (es:List ME) (clock:Nat):List ME:=if n=[] then es else if b.k=0 then jB (.str n) es else b9 (.str n) b.av clock es
def pf (n:Str) (b:Bits) (es:List ME) (clock:Nat):Nat:=if n=[] then clock else if b.k=0 then clock else if bI (.str n) es then clock else clock+1
theorem aaj (st t:Oid) (es:List ME) (clock:Nat) (hts:¬ t=st) (p:Oid) (hs:¬ Oid.under p st) (ht:¬ Oid.under p t) (n:Str) (b:Bits) :
  aq Tryz.prog 57 [.ptr st 0,.str n,b.av] (Oid.under p) ⟨[(st,.cells [.map t,.nilPtr]),(t,.map [.ss] false es clock)],.tuple [],[(t,some (.map [.ss] false (pd n b es clock) (pf n b es clock)))]⟩:=by
 unfold pd pf
 by_cases hn:n=[]
 ·subst hn
  simp only [if_true]
  exact kT (RI st t es clock hts p hs ht b) (by simp)
 ·by_cases hb:b.k=0
  ·simp only [hn,hb,if_true,if_false]
   exact RM st t es clock hts p hs ht n hn b hb
  ·simp only [hn,hb,if_false]
   exact RJ st t es clock hts p hs ht n hn b hb
end Go.Proofs.YtngffmnomciogaaGreatDoor
namespace Go.Proofs.YtngffmnomciogaaGreatDoor
open Go Go.Ab
open Go.Sort Go.RowKit
set_option maxRecDepth 20000
set_option maxHeartbeats 4000000
def cz (l:List Str):List Str:=l.mergeSort fun x y=>decide (x≤y)
theorem rh {w:World} {b n:Nat} {d:Array Str} {os:Array Obj} {b':Nat} (hb:b'≠b) (hlt:b' < w.heap.size):(grow (putRow encStr (Sort.ahead w n) b 0 d) os).heap[b']? = w.heap[b']? := by
 unfold putRow mapBlock
 rw [heap_grow_old _ _ (by simpa [ahead] using hlt)]
 simp [Array.getElem?_modify,Ne.symm hb,ahead]
theorem iE {w:World} {b n:Nat} {d:Array Str} {os:Array Obj} {c:Array Value} {t:TypeId} {fz:Nat × Nat} (hb:w.heap[b]? = some (.cells c t fz)) :
  (grow (putRow encStr (Sort.ahead w n) b 0 d) os).heap[b]? = some (.cells (putCells encStr 0 d c) t fz):=by
 have hlt:=(Array.getElem?_eq_some_iff.1 hb).1
 unfold putRow mapBlock
 rw [heap_grow_old _ _ (by simpa [ahead] using hlt)]
 simp [Array.getElem?_modify,hb,ahead,onCells]
theorem tO {w:World} {b n:Nat} {d:Array Str} {os:Array Obj}:w.heap.size≤(grow (putRow encStr (Sort.ahead w n) b 0 d) os).heap.size:=by
 unfold putRow mapBlock
 simp [grow,ahead]
theorem iF (d:Array Str) (c:Array Value):(putCells encStr 0 d c).size=c.size:=by simp [putCells]
theorem gx (l:List Str):(cz l).Perm l:=List.mergeSort_perm _ _
theorem jP (l:List Str):(cz l).length=l.length:=(gx l).length_eq
theorem tP {g:Gh} {s:Str} {v:Value}:VR g (.str s) v↔v=encStr s:=by
 constructor
 ·intro h
  obtain ⟨b,rfl,hb⟩:=h.bn
  show Value.string b=Value.string _
  congr 1
  cases b
  simp only at hb
  congr 1
  rw [← hb]
 ·rintro rfl
  exact .str _ _ rfl
theorem sQ (l:List Str) (hl:¬ l=[]) (hsz:l.length < 4611686018427387904) (id p:Oid) :
  aq Tryz.prog 175 [.sl id 1 l.length] (Oid.under p) ⟨[(id,.arr 1 (l.map .str))],.tuple [],[(id,some (.arr 1 ((cz l).map .str)))]⟩:=by
 refine ⟨by kernel_rfl,fun x g args w m hm hn hargs hsp hng=>?_⟩
 have hmi:=hn _ List.mem_cons_self
 simp only at hmi
 obtain ⟨v,rfl,a0⟩:=hargs.one
 have hne:l.length≠0:=fun e=>hl (List.eq_nil_of_length_eq_zero e)
 obtain ⟨b,cap,rfl,hloc,hcap,hrow⟩:=a0.dG.resolve_left fun h=>hne h.1
 obtain ⟨b0,hb0,hcom,hmay,hobj⟩:=hm.gN hmi hloc
 rw [hloc] at hb0;simp only [Option.some.injEq] at hb0;subst hb0
 obtain ⟨c,t,fz,hh,hcs,hfz,hxl,hone,hv⟩:=hobj
 have hlt:=(Array.getElem?_eq_some_iff.1 hh).1
 simp only [List.length_map,Nat.mul_one] at hcs hxl hone hv
 have hav:∀ (l:List Str) i,i < l.length→(l.map AV.str).getD i .undef = .str (l.getD i []):=fun l i hi=>by simp [List.getD_eq_getElem?_getD,List.getElem?_map,List.getElem?_eq_getElem hi]
 have hcell:∀ i,i < l.length→c.getD i undef=encStr (l.getD i []):=fun i hi=>by
  have:=hv i 0 hi (by omega)
  rw [hav l i hi] at this
  simp only [AV.cells,List.getD_cons_zero,Nat.mul_one,Nat.add_zero] at this
  exact tP.1 this
 have hH:Holds encStr w b 0 l.toArray:=by
  intro j hj
  have hj':j < l.length:=by simpa using hj
  have hjc:j < c.size:=by omega
  constructor
  ·have h3:=hcell j hj'
   simp only [World.cell?,hh,Nat.zero_add,Option.isSome_none,Bool.false_eq_true,if_false,Array.getElem?_eq_getElem hjc,Option.some.injEq]
   rw [Array.getD_eq_getD_getElem?,Array.getElem?_eq_getElem hjc,Option.getD_some] at h3
   rw [h3]
   have h5:l.toArray[j]! = l.getD j []:=by simp [List.getElem?_eq_getElem hj',hj']
   rw [h5]
  ·simp only [World.frozen?,hh,Nat.zero_add]
   have:=hfz j hjc
   by_cases h:fz.1≤j
   ·have:¬ j < fz.2:=fun h'=>this ⟨h,h'⟩
    simp [this]
   ·simp [h]
 refine (Tryz.slices_Sort_string b 0 cap l w hH hlt hsz).mono ?_
 rintro en w' ⟨rfl,n,os,rfl⟩
 have hlen:=jP l
 show ∃ _ _,_
 refine ⟨g,_,rfl,Gh.le_refl g,fun _ _=>rfl,.tuple _ _ rfl (fun j hj=>absurd hj (Nat.not_lt_zero _)),?_⟩
 have hfold:(l.mergeSort fun x y=>decide (x≤y))=cz l:=rfl
 rw [hfold]
 refine hm.fS (o:=.arr 1 ((cz l).map .str)) hmi hloc rfl rfl ⟨rfl,Nat.le_add_right _ _⟩ tO (fun b' hb' hlt'=>rh hb' hlt') (fun r hr=>?_) ?_ ?_
 ·obtain ⟨c',t',fz',h2,h3⟩:=hm.rows b r hr
  exact ⟨_,_,_,iE h2,by rw [iF];exact h3⟩
 ·intro c9 t9 fz9 h9;exact ⟨_,_,iE h9⟩
 ·have hget:∀ i,i < (cz l).length→(putCells encStr 0 (cz l).toArray c).getD i undef=encStr ((cz l).getD i []):=fun i hi=>by
   have hc2:i < c.size:=by omega
   simp only [putCells,Array.getD_eq_getD_getElem?,Array.getElem?_mapIdx,Array.getElem?_eq_getElem hc2,Option.map_some,Option.getD_some,Nat.zero_le,true_and,Nat.zero_add,Nat.sub_zero,List.size_toArray,hi,if_true]
   congr 1
   simp [List.getElem?_eq_getElem hi,hi]
  refine ⟨_,t,fz,iE hh,?_,?_,?_,?_,?_⟩
  ·rw [iF,List.length_map,Nat.mul_one,hlen];exact hcs
  ·rw [iF];exact hfz
  ·intro i hi
   rw [hav _ i (by simpa using hi)];rfl
  ·intro j hj
   have hj':j < (cz l).length:=by simpa using hj
   rw [hget j hj'];rfl
  ·intro i j hi hj
   have hi':i < (cz l).length:=by simpa using hi
   obtain rfl:j=0:=by omega
   rw [hav _ i hi',Nat.mul_one,Nat.add_zero,hget i hi']
   exact .str _ _ rfl
theorem ri (p:Oid):aq Tryz.prog 175 [.nilSl] (Oid.under p) ⟨[],.tuple [],[]⟩ :=
 er (by kernel_rfl) fun g args w ha _=>by
  obtain ⟨v,rfl,hv⟩:=ha.one
  rw [hv.bF]
  refine (Tryz.slices_Sort_string_none none 0 w).mono ?_
  rintro e w' ⟨rfl,rfl⟩
  exact ⟨_,rfl,.tuple _ _ rfl (fun j hj=>absurd hj (Nat.not_lt_zero _)),rfl⟩
theorem mi {l l':List Str} (hp:l.Perm l') (h1:l.Pairwise (· ≤ ·)) (h2:l'.Pairwise (· ≤ ·)):l=l':=by
 exact List.Perm.eq_of_pairwise (le:=(· ≤ ·)) (fun a b _ _ h3 h4=>List.le_antisymm h3 h4) h1 h2 hp
theorem mj (l:List Str):(cz l).Pairwise (· ≤ ·):=by
 have:=List.pairwise_mergeSort (le:=fun (x y:Str)=>decide (x≤y)) (fun a b c h1 h2=>by
  simp only [decide_eq_true_eq] at h1 h2 ⊢;exact List.le_trans h1 h2) (fun a b=>by
  simp only [Bool.or_eq_true,decide_eq_true_eq];exact List.le_total a b) l
 exact this.imp fun h=>by simpa using h
theorem rj {l l':List Str} (hp:l.Perm l') (h:l'.Pairwise (· ≤ ·)):cz l=l':=mi ((gx l).trans hp) (mj l) h
theorem nf {l l':List Str} (hp:l.Perm l'):cz l=cz l':=mi ((gx l).trans (hp.trans (gx l').symm)) (mj l) (mj l')
end Go.Proofs.YtngffmnomciogaaGreatDoor
namespace Go.Proofs
open Go.Shelf
def Tryz.RN:Go.Shelf.Ren:=⟨fun|10=>152|6=>212|n=>n,fun|22=>27|23=>9|25=>57|3=>3|4=>4|0=>0|n=>n,fun|n=>n⟩
theorem Tryz.Del:Go.Proofs.SlLaysH.n10 Tryz.prog Tryz.RN:={
 mixed:=by kernel_rfl
 f6:=⟨Tryz.f212.name,by decide,Tryz.func212.trans (congrArg some (by kernel_rfl))⟩
 f10:=⟨Tryz.f152.name,by decide,Tryz.func152.trans (congrArg some (by kernel_rfl))⟩
 t0:=Tryz.underlying0
 a0:=Tryz.isAgg0
 z0:=Tryz.sizeOf0
 v0:=Tryz.zeroValue0
 t3:=Tryz.underlying3
 a3:=Tryz.isAgg3
 z3:=Tryz.sizeOf3
 v3:=Tryz.zeroValue3
 t4:=Tryz.underlying4
 a4:=Tryz.isAgg4
 z4:=Tryz.sizeOf4
 v4:=Tryz.zeroValue4
 t22:=Tryz.underlying27
 a22:=Tryz.isAgg27
 z22:=Tryz.sizeOf27
 v22:=Tryz.zeroValue27
 a23:=Tryz.isAgg9
 z23:=Tryz.sizeOf9
 t25:=Tryz.underlying57
 a25:=Tryz.isAgg57
 z25:=Tryz.sizeOf57
 v25:=Tryz.zeroValue57 }
end Go.Proofs
namespace Go.Proofs.YtngffmnomciogaaGreatDoor
open Go Go.Ab Go.RowKit Go.Sort
set_option maxRecDepth 100000
set_option maxHeartbeats 4000000
theorem w7 (w:World):grow w #[]=w:=by
 cases w;simp [grow]
theorem rk (s:Str) (W:World):FnGives Tryz.prog 187 #[] #[encStr s] (.bool (s.isEmpty)) W:=by
 show Calls Tryz.prog 187 #[encStr s] W _
 go_enter Tryz.func187,Tryz.ntmps187
 go_wp2
 go_ret
 refine ⟨?_,0,rfl⟩
 rfl
theorem w9 (l l' tl:List Str) (f:FuncId) (he:cn Tryz.prog f=true) (hl:¬ l=[]) (ht:l'.length+tl.length=l.length) (id p:Oid) (av:AV) (val:Nat→Nat→Value) (xs:List AV) (need:List (Oid × aj))
  (hval:∀ (g:Gh) (b cap:Nat),g.loc id=some (some b)→l.length≤cap→g.row b=some (cap * 1)→VR g av (val b cap))
  (h:∀ (x:Ctx) (g:Gh) (m:Mem) (args:Array Value) (b cap:Nat) (w:World),ax x g m w→Fit Tryz.prog x→(∀ q ∈ need,m q.1=some q.2)→m id=some (.arr 1 (l.map .str))→g.loc id=some (some b)→(∀ k,g.com b k=none)→VRs g (.sl id 1 l.length::xs) args→args.getD 0 undef = .slice (some ⟨b,0,none⟩) l.length cap →
   Holds encStr w b 0 l.toArray→b < w.heap.size→l.length≤cap→Calls Tryz.prog f args w fun e w'=>e = .returned (val b cap)∧∃ n os,w' = grow (putRow encStr (Sort.ahead w n) b 0 (l' ++ tl).toArray) os) :
  aq Tryz.prog f (.sl id 1 l.length::xs) (Oid.under p) ⟨(id,.arr 1 (l.map .str))::need,av,[(id,some (.arr 1 (l'.map .str)))]⟩:=by
 refine ⟨he,fun x g args w m hm hn hargs hsp hng=>?_⟩
 have hmi:=hn _ List.mem_cons_self
 have hmn:∀ q ∈ need,m q.1=some q.2:=fun q hq=>hn q (List.mem_cons_of_mem _ hq)
 simp only at hmi
 obtain ⟨v,hva⟩:∃ v,args.getD 0 undef=v:=⟨_,rfl⟩
 have a0:=hargs.2 0 (by simp)
 rw [hva,List.getD_cons_zero] at a0
 have hne:l.length≠0:=fun e=>hl (List.eq_nil_of_length_eq_zero e)
 obtain ⟨b,cap,rfl,hloc,hcap,hrow⟩:=a0.dG.resolve_left fun h=>hne h.1
 obtain ⟨b0,hb0,hcom,hmay,hobj⟩:=hm.gN hmi hloc
 rw [hloc] at hb0;simp only [Option.some.injEq] at hb0;subst hb0
 obtain ⟨c,t,fz,hh,hcs,hfz,hxl,hone,hv⟩:=hobj
 have hlt:=(Array.getElem?_eq_some_iff.1 hh).1
 simp only [List.length_map,Nat.mul_one] at hcs hxl hone hv
 have hav:∀ (l:List Str) i,i < l.length→(l.map AV.str).getD i .undef = .str (l.getD i []):=fun l i hi=>by simp [List.getD_eq_getElem?_getD,List.getElem?_map,List.getElem?_eq_getElem hi]
 have hcell:∀ i,i < l.length→c.getD i undef=encStr (l.getD i []):=fun i hi=>by
  have:=hv i 0 hi (by omega)
  rw [hav l i hi] at this
  simp only [AV.cells,List.getD_cons_zero,Nat.mul_one,Nat.add_zero] at this
  exact tP.1 this
 have hH:Holds encStr w b 0 l.toArray:=by
  intro j hj
  have hj':j < l.length:=by simpa using hj
  have hjc:j < c.size:=by omega
  constructor
  ·have h3:=hcell j hj'
   simp only [World.cell?,hh,Nat.zero_add,Option.isSome_none,Bool.false_eq_true,if_false,Array.getElem?_eq_getElem hjc,Option.some.injEq]
   rw [Array.getD_eq_getD_getElem?,Array.getElem?_eq_getElem hjc,Option.getD_some] at h3
   rw [h3]
   have h5:l.toArray[j]! = l.getD j []:=by simp [List.getElem?_eq_getElem hj',hj']
   rw [h5]
  ·simp only [World.frozen?,hh,Nat.zero_add]
   have:=hfz j hjc
   by_cases h:fz.1≤j
   ·have:¬ j < fz.2:=fun h'=>this ⟨h,h'⟩
    simp [this]
   ·simp [h]
 refine (h x g m args b cap w hm hng hmn hmi hloc hcom hargs hva hH hlt hcap).mono ?_
 rintro en w' ⟨rfl,n,os,rfl⟩
 show ∃ _ _,_
 refine ⟨g,_,rfl,Gh.le_refl g,fun _ _=>rfl,hval g b cap hloc hcap hrow,?_⟩
 refine hm.fS (o:=.arr 1 (l'.map .str)) hmi hloc rfl rfl ⟨rfl,Nat.le_add_right _ _⟩ tO (fun b' hb' hlt'=>rh hb' hlt') (fun r hr=>?_) ?_ ?_
 ·obtain ⟨c',t',fz',h2,h3⟩:=hm.rows b r hr
  exact ⟨_,_,_,iE h2,by rw [iF];exact h3⟩
 ·intro c9 t9 fz9 h9;exact ⟨_,_,iE h9⟩
 ·have hget:∀ i,i < l'.length→(putCells encStr 0 (l' ++ tl).toArray c).getD i undef=encStr (l'.getD i []):=fun i hi=>by
   have hc2:i < c.size:=by omega
   have hi2:i < l'.length+tl.length:=by omega
   simp only [putCells,Array.getD_eq_getD_getElem?,Array.getElem?_mapIdx,Array.getElem?_eq_getElem hc2,Option.map_some,Option.getD_some,Nat.zero_le,true_and,Nat.zero_add,Nat.sub_zero,List.size_toArray,List.length_append,hi2,if_true]
   congr 1
   simp [List.getElem?_eq_getElem hi,hi,hi2,List.getElem_append_left hi]
  refine ⟨_,t,fz,iE hh,?_,?_,?_,?_,?_⟩
  ·rw [iF,List.length_map,Nat.mul_one];omega
  ·rw [iF];exact hfz
  ·intro i hi
   rw [hav _ i (by simpa using hi)];rfl
  ·intro j hj
   have hj':j < l'.length:=by simpa using hj
   rw [hget j hj'];rfl
  ·intro i j hi hj
   have hi':i < l'.length:=by simpa using hi
   obtain rfl:j=0:=by omega
   rw [hav _ i hi',Nat.mul_one,Nat.add_zero,hget i hi']
   exact .str _ _ rfl
theorem aak (l:List Str) (hl:¬ l=[]) (hls:l.length≤9223372036854775807) (id p:Oid) :
  aq Tryz.prog 152 [.sl id 1 l.length,.fn (.func 187) [] []] (Oid.under p) ⟨[(id,.arr 1 (l.map .str))],.sl id 1 (l.filter fun t=>!t.isEmpty).length,[(id,some (.arr 1 ((l.filter fun t=>!t.isEmpty).map .str)))]⟩:=by
 have hfl:(l.filter fun t=>!t.isEmpty).length≤l.length:=List.length_filter_le _ _
 refine w9 l (l.filter fun t=>!t.isEmpty) (List.replicate (l.length - (l.filter fun t=>!t.isEmpty).length) []) _ (by kernel_rfl) hl (by rw [List.length_replicate];omega) id p _
  (fun b cap=>.slice (some ⟨b,0,none⟩) (l.filter fun t=>!t.isEmpty).length cap) _ _ (fun g b cap h1 h2 h3=>.sl _ _ _ _ _ h1 (Nat.le_trans hfl h2) h3) ?_
 intro x g m av b cap w hm hx hn hmi hloc hcom hargs hv0 hH hb hcap
 have a1:=hargs.2 1 (by simp)
 simp only [List.getD_cons_succ,List.getD_cons_zero] at a1
 obtain ⟨fa,fb,hf,hfs,hbs,_,hfv⟩:=a1.iU
 have hfa:fa=#[]:=Array.eq_empty_of_size_eq_zero hfs
 have hfb:fb=#[]:=Array.eq_empty_of_size_eq_zero hbs
 have hav:av=#[.slice (some ⟨b,0,none⟩) l.length cap,.func (.func 187) #[] #[]]:=by
  have h2:av.size=2:=hargs.1
  apply Array.ext
  ·rw [h2];rfl
  ·intro j h3 h4
   have h3':j < 2:=by omega
   rw [Array.getD_eq_getD_getElem?,Array.getElem?_eq_getElem (by omega)] at hv0
   rw [Array.getD_eq_getD_getElem?,Array.getElem?_eq_getElem (by omega)] at hf
   match j,h3' with
   | 0,_=>simpa using hv0
   | 1,_=>rw [hfa,hfb] at hf;simpa using hf
 have eg:∀ args w,(callFunc 187 args).run Tryz.prog w = .ok (.enter 187 args) w:=enters_of Tryz.func187 (by kernel_rfl) rfl
 have con:=AnyE.slices_DeleteFunc Tryz.Del encStr (fun _=>rfl) (fun y:Str=>y.isEmpty) 187 #[] eg default Tryz.zeroValue9 b 0 cap l.toArray w
  (fun W y _=>rk y W) (fun n os dk y _=>rk y _) hH (by simpa using hls) (by simpa using hcap)
 change Calls Tryz.prog 152 _ _ _ at con
 rw [hav]
 have hsz:l.toArray.size=l.length:=by simp
 rw [hsz] at con
 refine con.mono ?_
 rintro e w' ⟨rfl,q,rfl⟩
 refine ⟨rfl,q,#[],?_⟩
 rw [w7]
 rfl
def cu (s:Str):List Str:=(aW 47 s).filter fun t=>!t.isEmpty
def fj (s:Str):Bool:=decide (0 < s.length) && decide (s.getD (s.length - 1) 0=47)
theorem ml (c:UInt8) (s:Str):(aW c s).length≤s.length+1:=by
 rw [fK];have:=List.count_le_length (a:=c) (l:=s);omega
theorem nZ (s:Str) (hl:s.length < 4294967281) (p:Oid) :
  aq Tryz.prog 118 [.str s] (Oid.under p) ⟨[],.sl (.sub 0 0 (.sub 1 1 p)) 1 (cu s).length,[(.sub 0 0 (.sub 1 1 p),some (.arr 1 ((cu s).map AV.str)))]⟩:=by
 have hn:=iD 47 s
 have hf:=ml 47 s
 have h1:=fun p=>AN s 47 hl p
 have h2:=fun id p=>aak (aW 47 s) hn (by omega) id p
 unfold cu
 generalize (aW 47 s).filter (fun t=>!t.isEmpty)=R at h2
 generalize aW 47 s=L at h1 h2
 refine aV (n:=6) (rs:=[.tmp 2]) Tryz.func118 rfl rfl (by decide) rfl rfl rfl ?_;rintro x rfl hrd hng
 refine qr0 ?_
 refine qr .o trivial (cq (h1 _) (cq (h2 _ _) trivial)) ?_
 refine aE (aS rfl ?_ ?_)
 ·simp [Mem.ao]
 ·simp
theorem xa {s:Str} (h:0 < s.length):s.drop (s.length - 1)=[s.getD (s.length - 1) 0]:=by
 rw [List.getD_eq_getElem?_getD,List.getElem?_eq_getElem (by omega),Option.getD_some,List.drop_eq_getElem_cons (by omega),show s.length - 1+1=s.length from by omega,List.drop_length]
theorem eR (s:Str) (hs:s.length≤140737488355328) (p:Oid):aq Tryz.prog 55 [.str s,.str [47]] (Oid.under p) ⟨[],.bool (fj s),[]⟩:=by
 have key:∀ p,aq Tryz.prog 120 [.str s,.str [47]] (Oid.under p) ⟨[],.bool (fj s),[]⟩:=fun p=>by
  refine aV (n:=21) (rs:=[.tmp 4]) Tryz.func120 rfl rfl (by decide) rfl rfl rfl ?_;rintro x rfl hrd hng
  refine qr0 ?_
  refine ay nmd [(5,10)] hng (by kernel_rfl) fun hf C S K hC1 hC hS hK=>?_;simp (disch:=first|omega|assumption) only [go_sem]
  (repeat' (first|(refine bV (fun hv=>?_) (fun hv=>?_)<;>(try simp only [zb1,zb2,zb3,zb4,zb5] at hv)<;>simp (disch:=first|omega|assumption) only [go_sem,hv])|(refine hK ?_;clear hK hS hC hC1 K S C hf)))
  ·have h0:0 < s.length:=by omega
   have hd:=xa h0
   refine qw0 ?_
   refine aE (b6 (congrArg AV.bool ?_))
   rw [show ((s.length:Int) - ((1:Nat):Int)).toNat=s.length - 1 from by omega,hd]
   unfold fj
   rw [decide_eq_true h0,Bool.true_and]
   simp
  ·refine qw0 ?_
   refine aE (b6 (congrArg AV.bool ?_))
   unfold fj
   rw [decide_eq_false (by omega:¬ 0 < s.length),Bool.false_and]
 refine aV (n:=8) (rs:=[.tmp 4]) Tryz.func55 rfl rfl (by decide) rfl rfl rfl ?_;rintro x rfl hrd hng
 (repeat (first|(refine aB rfl rfl ?_)|(refine aC rfl rfl ?_)|(refine ay nmd [] hng (by kernel_rfl) fun hf C S K hC1 hC hS hK=>?_;simp (disch:=first|omega|assumption) only [go_sem];(repeat ((first|refine hC1 _ (key _) (by simp (disch:=first|omega|assumption) only [go_sem]) ?_);simp (disch:=first|omega|assumption) only [go_sem]));refine hK ?_;clear hK hS hC hC1 K S C hf)|((first|refine zn ?_|refine ze ?_|refine zk ?_);with_reducible (constructor;repeat constructor);try refine zl ?_)))
 exact aE (b6 rfl)
theorem nh (s:Str) (h0:¬ s=[]) (hs:s.length≤140737488355328) (p:Oid):aq Tryz.prog 100 [.str s,.str [47]] (Oid.under p) ⟨[],.bool (decide (s.getD 0 0=47)),[]⟩:=by
 have key:fw s [47]=decide (s.getD 0 0=47):=by
  cases s with
  | nil=>exact absurd rfl h0
  | cons b s=>simp [fw]
 rw [← key]
 refine aV (n:=8) (rs:=[.tmp 4]) Tryz.func100 rfl rfl (by decide) rfl rfl rfl ?_;rintro x rfl hrd hng
 (repeat (first|(refine aB rfl rfl ?_)|(refine aC rfl rfl ?_)|(refine ay nmd [] hng (by kernel_rfl) fun hf C S K hC1 hC hS hK=>?_;simp (disch:=first|omega|assumption) only [go_sem];(repeat ((first|refine hC1 _ (jN s [47] hs (by decide) _) (by simp (disch:=first|omega|assumption) only [go_sem]) ?_);simp (disch:=first|omega|assumption) only [go_sem]));refine hK ?_;clear hK hS hC hC1 K S C hf)|((first|refine zn ?_|refine ze ?_|refine zk ?_);with_reducible (constructor;repeat constructor);try refine zl ?_)))
 exact aE (b6 rfl)
end Go.Proofs.YtngffmnomciogaaGreatDoor
namespace Go.Ab
abbrev Bk:=List Oid × (Oid→aj)
def bk (B:Bk):List (Oid × aj):=B.1.map fun i=>(i,B.2 i)
def sb (N:List Oid) (f:Oid→aj):List (Oid × Option aj):=N.map fun i=>(i,some (f i))
def Mem.blk (A:List (Oid × aj)) (Bs:List Bk):Mem:=Mem.of (A++(Bs.map bk).flatten)
def Mem.cons (a:Oid × aj) (m:Mem):Mem:=m.set a.1 (some a.2)
def aZ (p:Oid) (N:List Oid):Prop:=∀ i ∈ N,¬ Oid.under p i
def DJ (N M:List Oid):Prop:=∀ i ∈ N,i ∉ M
theorem aZ.sub {p:Oid} {N:List Oid} (h:aZ p N) (c i:Nat):aZ (.sub c i p) N:=fun j hj hu=>h j hj (Oid.ae hu)
theorem aZ.mem {p:Oid} {N:List Oid} (h:aZ p N) {c i:Nat}:Oid.sub c i p ∉ N:=fun hm=>h _ hm (Oid.ae (Oid.az _))
theorem aZ.aal {p:Oid} {N:List Oid} (h:aZ p N) {t c i:Nat}:Oid.ty t (.sub c i p) ∉ N:=fun hm=>h _ hm (Oid.ae (Oid.lA t _))
theorem aZ.aam {p:Oid} {N:List Oid} (h:aZ p N) {c i c' i':Nat}:Oid.sub c' i' (.sub c i p) ∉ N:=fun hm=>h _ hm (Oid.ae (Oid.ae (Oid.az _)))
def mo (p:Oid) (c:Nat) (N:List Oid):Prop:=∀ i ∈ N,¬ dA p c i
theorem mo.sub {p:Oid} {c0:Nat} {N:List Oid} (h:mo p c0 N) {c:Nat} (hc:c0≤c) (i:Nat):aZ (.sub c i p) N:=fun j hj hu=>h j hj ⟨c,i,hc,hu⟩
theorem mo.mono {p:Oid} {c0 c:Nat} {N:List Oid} (h:mo p c0 N) (hc:c0≤c):mo p c N:=fun j hj hu=>h j hj (hu.mono hc)
theorem mo.mem {p:Oid} {c0:Nat} {N:List Oid} (h:mo p c0 N) {c i:Nat} (hc:c0≤c):Oid.sub c i p ∉ N:=fun hm=>h _ hm ⟨c,i,hc,Oid.az _⟩
theorem aZ.C {p:Oid} {N:List Oid} (h:aZ p N) (c:Nat):mo p c N:=fun j hj hu=>h j hj hu.under
theorem Mem.gZ (q:Oid × aj) (A:List (Oid × aj)) (Bs:List Bk) (i:Oid):Mem.blk (q::A) Bs i=if i=q.1 then some q.2 else Mem.blk A Bs i:=rfl
theorem Mem.AO (q:Oid × aj) (A:List (Oid × aj)) (Bs:List Bk):Mem.cons q (Mem.blk A Bs)=Mem.blk (q::A) Bs:=rfl
theorem rm (A:List (Oid × aj)) (Bs:List Bk):(Mem.blk A Bs).aF []=Mem.blk A Bs:=rfl
theorem ia (i:Oid) (o:aj) (F:List (Oid × aj)):∀ A,(Mem.of (A++F)).set i (some o)=Mem.of (cf i (some o) A++F)
 | []=>rfl
 | q::A=>by
  have ih:=ia i o F A
  simp only [cf]
  by_cases h:i=q.1
  ·rw [if_pos h];funext k;simp only [List.cons_append,Mem.of,Mem.set];subst h;split<;>rfl
  ·rw [if_neg h];funext k;simp only [List.cons_append,Mem.of];rw [← ih];simp only [Mem.set]
   by_cases h1:k=i
   ·rw [if_pos h1,if_pos h1,if_neg (fun h2=>h (h1.symm.trans h2))]
   ·rw [if_neg h1,if_neg h1]
theorem ph (A:List (Oid × aj)) (Bs:List Bk) (i:Oid) (o:aj) (u:List (Oid × Option aj)):(Mem.blk A Bs).aF ((i,some o)::u)=(Mem.blk (cf i (some o) A) Bs).aF u:=by
 show ((Mem.of _).set i (some o)).aF u=_
 rw [ia];rfl
theorem pj (A:List (Oid × aj)) (Bs:List Bk) (i:Oid) (o:aj):(Mem.blk A Bs).set i (some o)=Mem.blk (cf i (some o) A) Bs:=ia i o _ A
def del (i:Oid) (B:Bk):Bk:=(B.1.filter fun j=>decide (¬ j=i),B.2)
def lb (i:Oid):List Bk→List Bk
 | []=>[]
 | B::Bs=>del i B::lb i Bs
theorem AP (Bs:List Bk) (i:Oid):((Bs.map bk).flatten.filter fun q=>decide (¬ q.1=i))=((lb i Bs).map bk).flatten:=by
 induction Bs with
 | nil=>rfl
 | cons B Bs ih =>
  simp only [List.map_cons,List.flatten_cons,List.filter_append,ih,lb]
  congr 1
  simp only [bk,del,List.filter_map]
  rfl
theorem tQ (i:Oid):∀ L:List (Oid × aj),(Mem.of L).set i none=Mem.of (L.filter fun q=>decide (¬ q.1=i))
 | []=>by funext k;simp [Mem.of,Mem.set,Mem.emp]
 | q::L=>by
  have ih:=tQ i L
  by_cases h:q.1=i
  ·rw [List.filter_cons_of_neg (by simpa using h),← ih];funext k;simp only [Mem.of,Mem.set];subst h;split<;>rfl
  ·rw [List.filter_cons_of_pos (by simpa using h)]
   show _=(Mem.of _).set q.1 (some q.2)
   rw [← ih];funext k;simp only [Mem.of,Mem.set]
   by_cases h1:k=i
   ·rw [if_pos h1,if_neg (fun h2=>h (h2.symm.trans h1)),if_pos h1]
   ·rw [if_neg h1,if_neg h1]
theorem kU (i:Oid):∀ A:List (Oid × aj),cf i none A=A.filter fun q=>decide (¬ q.1=i)
 | []=>rfl
 | q::A=>by
  have ih:=kU i A
  simp only [cf]
  by_cases h:i=q.1
  ·rw [if_pos h,List.filter_cons_of_neg (by simpa using h.symm),ih]
  ·rw [if_neg h,List.filter_cons_of_pos (by simpa using fun e=>h e.symm),ih]
theorem jQ (A:List (Oid × aj)) (Bs:List Bk) (i:Oid):(Mem.blk A Bs).set i none=Mem.blk (cf i none A) (lb i Bs):=by
 show (Mem.of _).set i none=Mem.of _
 rw [tQ,List.filter_append,kU,AP]
theorem pk (A:List (Oid × aj)) (Bs:List Bk) (i:Oid) (u:List (Oid × Option aj)):(Mem.blk A Bs).aF ((i,none)::u)=(Mem.blk (cf i none A) (lb i Bs)).aF u:=by
 show ((Mem.blk A Bs).set i none).aF u=_
 rw [jQ]
theorem AQ (i:Oid):lb i []=[]:=rfl
theorem xb (i:Oid) (B:Bk) (Bs:List Bk):lb i (B::Bs)=del i B::lb i Bs:=rfl
theorem lu {i:Oid} {N:List Oid} {f:Oid→aj} (h:i ∉ N):del i (N,f)=(N,f):=by
 simp only [del,Prod.mk.injEq,and_true]
 exact List.filter_eq_self.2 fun j hj=>by rw [decide_eq_true_eq];rintro rfl;exact h hj
theorem pc {c k:Nat} {p:Oid} {N:List Oid} {f:Oid→aj} (h:aZ p N):del (.sub c k p) (N,f)=(N,f):=lu h.mem
theorem aan {t c k:Nat} {p:Oid} {N:List Oid} {f:Oid→aj} (h:aZ p N):del (.ty t (.sub c k p)) (N,f)=(N,f):=lu h.aal
theorem AR {c k c' k':Nat} {p:Oid} {N:List Oid} {f:Oid→aj} (h:aZ p N):del (.sub c' k' (.sub c k p)) (N,f)=(N,f):=lu h.aam
theorem dM (N:List Oid) (f:Oid→aj) (i:Oid):∀ m:Mem,(m.aF (sb N f)) i=if i ∈ N then some (f i) else m i:=by
 induction N with
 | nil=>intro m;simp [sb,Mem.aF]
 | cons j N ih =>
  intro m
  show ((m.set j (some (f j))).aF (sb N f)) i=_
  rw [ih]
  by_cases h1:i ∈ N
  ·rw [if_pos h1,if_pos (List.mem_cons_of_mem _ h1)]
  ·rw [if_neg h1]
   by_cases h2:i=j
   ·subst h2;rw [if_pos List.mem_cons_self];simp [Mem.set]
   ·rw [if_neg (by simp [h1,h2])];simp [Mem.set,h2]
theorem AT (N:List Oid) (f:Oid→aj) (F:List (Oid × aj)) (i:Oid):Mem.of (bk (N,f)++F) i=if i ∈ N then some (f i) else Mem.of F i:=by
 induction N with
 | nil=>simp [bk]
 | cons j N ih =>
  show (Mem.of (bk (N,f)++F)).set j (some (f j)) i=_
  simp only [Mem.set]
  by_cases h2:i=j
  ·subst h2;rw [if_pos rfl,if_pos List.mem_cons_self]
  ·rw [if_neg h2,ih]
   by_cases h1:i ∈ N
   ·rw [if_pos h1,if_pos (List.mem_cons_of_mem _ h1)]
   ·rw [if_neg h1,if_neg (by simp [h1,h2])]
theorem aO (N:List Oid) (f:Oid→aj) (Bs:List Bk) (i:Oid):Mem.blk [] ((N,f)::Bs) i=if i ∈ N then some (f i) else Mem.blk [] Bs i:=AT N f _ i
theorem RO (N:List Oid) (f g:Oid→aj) (Bs:List Bk):(Mem.blk [] ((N,f)::Bs)).aF (sb N g)=Mem.blk [] ((N,g)::Bs):=by
 funext i
 rw [dM,aO,aO]
 split<;>rfl
theorem RQ {M N:List Oid} (h:DJ M N) (e f g:Oid→aj) (Bs:List Bk):(Mem.blk [] ((M,e)::(N,f)::Bs)).aF (sb N g)=Mem.blk [] ((M,e)::(N,g)::Bs):=by
 funext i
 rw [dM,aO,aO,aO,aO]
 by_cases h1:i ∈ N
 ·rw [if_pos h1,if_neg (fun h2=>h i h2 h1),if_pos h1]
 ·simp only [if_neg h1]
theorem RS {L M N:List Oid} (h:DJ L N) (h':DJ M N) (d e f g:Oid→aj) (Bs:List Bk):(Mem.blk [] ((L,d)::(M,e)::(N,f)::Bs)).aF (sb N g)=Mem.blk [] ((L,d)::(M,e)::(N,g)::Bs):=by
 funext i
 rw [dM,aO,aO,aO,aO,aO,aO]
 by_cases h1:i ∈ N
 ·rw [if_pos h1,if_neg (fun h2=>h i h2 h1),if_neg (fun h2=>h' i h2 h1),if_pos h1]
 ·simp only [if_neg h1]
theorem lv {q:Oid × aj} {A:List (Oid × aj)} {Bs:List Bk} {N:List Oid} {g:Oid→aj} (h:q.1 ∉ N):(Mem.blk (q::A) Bs).aF (sb N g)=Mem.cons q ((Mem.blk A Bs).aF (sb N g)):=by
 funext i
 rw [dM]
 simp only [Mem.cons,Mem.set,Mem.gZ]
 rw [dM]
 by_cases h1:i=q.1
 ·subst h1;rw [if_neg h,if_pos rfl,if_pos rfl]
 ·rw [if_neg h1,if_neg h1]
theorem RT {i:Oid} {o:aj} {A:List (Oid × aj)} {Bs:List Bk} {N:List Oid} {g:Oid→aj} (h:i ∉ N):(Mem.blk ((i,o)::A) Bs).aF (sb N g)=Mem.cons (i,o) ((Mem.blk A Bs).aF (sb N g)):=lv h
theorem RU {c k:Nat} {p:Oid} {o:aj} {A:List (Oid × aj)} {Bs:List Bk} {N:List Oid} {g:Oid→aj} (h:aZ p N):(Mem.blk ((.sub c k p,o)::A) Bs).aF (sb N g)=Mem.cons (.sub c k p,o) ((Mem.blk A Bs).aF (sb N g)):=lv h.mem
theorem RV {t c k:Nat} {p:Oid} {o:aj} {A:List (Oid × aj)} {Bs:List Bk} {N:List Oid} {g:Oid→aj} (h:aZ p N):(Mem.blk ((.ty t (.sub c k p),o)::A) Bs).aF (sb N g)=Mem.cons (.ty t (.sub c k p),o) ((Mem.blk A Bs).aF (sb N g)):=lv h.aal
theorem AU {c k c' k':Nat} {p:Oid} {o:aj} {A:List (Oid × aj)} {Bs:List Bk} {N:List Oid} {g:Oid→aj} (h:aZ p N):(Mem.blk ((.sub c' k' (.sub c k p),o)::A) Bs).aF (sb N g)=Mem.cons (.sub c' k' (.sub c k p),o) ((Mem.blk A Bs).aF (sb N g)):=lv h.aam
theorem b8 {B:Bk} {q:Oid × aj}:q ∈ bk B↔q.1 ∈ B.1∧q.2=B.2 q.1:=by
 simp only [bk,List.mem_map]
 constructor
 ·rintro ⟨i,h1,rfl⟩;exact ⟨h1,rfl⟩
 ·rintro ⟨h1,h2⟩;exact ⟨q.1,h1,by rw [← h2]⟩
theorem sR (N:List Oid) (f:Oid→aj) (Bs:List Bk):(∀ q,q ∈ bk (N,f)→Mem.blk [] ((N,f)::Bs) q.1=some q.2)=True:=eq_true fun q hq=>by
 obtain ⟨h1,h2⟩:=b8.1 hq
 rw [aO,if_pos h1,h2]
theorem aao {M N:List Oid} (h:DJ M N) (e f:Oid→aj) (Bs:List Bk):(∀ q,q ∈ bk (N,f)→Mem.blk [] ((M,e)::(N,f)::Bs) q.1=some q.2)=True:=eq_true fun q hq=>by
 obtain ⟨h1,h2⟩:=b8.1 hq
 rw [aO,if_neg (fun h3=>h _ h3 h1),aO,if_pos h1,h2]
theorem aap {L M N:List Oid} (h:DJ L N) (h':DJ M N) (d e f:Oid→aj) (Bs:List Bk):(∀ q,q ∈ bk (N,f)→Mem.blk [] ((L,d)::(M,e)::(N,f)::Bs) q.1=some q.2)=True:=eq_true fun q hq=>by
 obtain ⟨h1,h2⟩:=b8.1 hq
 rw [aO,if_neg (fun h3=>h _ h3 h1),aO,if_neg (fun h3=>h' _ h3 h1),aO,if_pos h1,h2]
theorem pw {a:Oid × aj} {A:List (Oid × aj)} {Bs:List Bk} {N:List Oid} {f:Oid→aj} (h:a.1 ∉ N):(∀ q,q ∈ bk (N,f)→Mem.blk (a::A) Bs q.1=some q.2)=(∀ q,q ∈ bk (N,f)→Mem.blk A Bs q.1=some q.2):=by
 refine propext ⟨fun k q hq=>?_,fun k q hq=>?_⟩
 ·have:=k q hq
  rwa [Mem.gZ,if_neg (fun e:q.1=a.1=>h (e ▸ (b8.1 hq).1))] at this
 ·rw [Mem.gZ,if_neg (fun e:q.1=a.1=>h (e ▸ (b8.1 hq).1))];exact k q hq
theorem mq {i:Oid} {o:aj} {A:List (Oid × aj)} {Bs:List Bk} {N:List Oid} {f:Oid→aj} (h:i ∉ N):(∀ q,q ∈ bk (N,f)→Mem.blk ((i,o)::A) Bs q.1=some q.2)=(∀ q,q ∈ bk (N,f)→Mem.blk A Bs q.1=some q.2):=pw h
theorem AW {c k:Nat} {p:Oid} {o:aj} {A:List (Oid × aj)} {Bs:List Bk} {N:List Oid} {f:Oid→aj} (h:aZ p N):(∀ q,q ∈ bk (N,f)→Mem.blk ((.sub c k p,o)::A) Bs q.1=some q.2)=(∀ q,q ∈ bk (N,f)→Mem.blk A Bs q.1=some q.2):=pw h.mem
theorem aaq {t c k:Nat} {p:Oid} {o:aj} {A:List (Oid × aj)} {Bs:List Bk} {N:List Oid} {f:Oid→aj} (h:aZ p N):(∀ q,q ∈ bk (N,f)→Mem.blk ((.ty t (.sub c k p),o)::A) Bs q.1=some q.2)=(∀ q,q ∈ bk (N,f)→Mem.blk A Bs q.1=some q.2):=pw h.aal
theorem RW {c k c' k':Nat} {p:Oid} {o:aj} {A:List (Oid × aj)} {Bs:List Bk} {N:List Oid} {f:Oid→aj} (h:aZ p N):(∀ q,q ∈ bk (N,f)→Mem.blk ((.sub c' k' (.sub c k p),o)::A) Bs q.1=some q.2)=(∀ q,q ∈ bk (N,f)→Mem.blk A Bs q.1=some q.2):=pw h.aam
theorem aar (B:Bk):Mem.of (bk B)=Mem.blk [] [B]:=by simp [Mem.blk]
theorem dV (a:Oid × aj) (B:Bk):Mem.of (a::bk B)=Mem.blk [a] [B]:=by simp [Mem.blk]
theorem cK (a b:Oid × aj) (B:Bk):Mem.of (a::b::bk B)=Mem.blk [a,b] [B]:=by simp [Mem.blk]
theorem RX (B C:Bk):Mem.of (bk B++bk C)=Mem.blk [] [B,C]:=by simp [Mem.blk]
theorem eS {A0:List (Oid × aj)} {U:List (Oid × Option aj)} {N:List Oid} {f g:Oid→aj} {m:Mem} (h2:∀ q,q ∈ U→∀ o,q.2=some o→m q.1=some o) (h3:∀ q,q ∈ A0→(∀ r,r ∈ U→¬ r.1=q.1)→m q.1=some q.2)
  (h4:∀ q,q ∈ bk (N,g)→m q.1=some q.2) (i:Oid) (o:aj) (h:((Mem.of (A0++bk (N,f))).aF (U++sb N g)) i=some o):m i=some o:=by
 rw [cC,dM] at h
 by_cases h1:i ∈ N
 ·rw [if_pos h1] at h
  rw [← h];exact h4 (i,g i) (b8.2 ⟨h1,rfl⟩)
 ·rw [if_neg h1] at h
  by_cases hk:∃ q ∈ U,q.1=i
  ·obtain ⟨q',k1,k2,k3⟩:=gX (m:=Mem.of (A0++bk (N,f))) hk
   rw [k3] at h
   rw [← k2];exact h2 q' k1 o h
  ·rw [aT fun q hq e=>hk ⟨q,hq,e⟩] at h
   obtain ⟨q,k1,rfl,rfl⟩:=Mem.dy h
   rcases List.mem_append.1 k1 with k1|k1
   ·exact h3 q k1 fun r hr e=>hk ⟨r,hr,e⟩
   ·exact absurd (b8.1 k1).1 h1
section
variable {P:Program} {rs:List ResultVar} {fr:List (Nat × AV)} {m:Mem} {c:Nat} {val:AV} {N:List Oid} {f g:Oid→aj} {Rp:AV→List (Oid × Option aj)→Prop}
theorem tR {a:Oid × aj} (h1:fH P m fr rs=some val) (h3:m a.1=some a.2) (h4:∀ q,q ∈ bk (N,g)→m q.1=some q.2):dJ P rs (a::bk (N,f)) (fun v u=>v=val∧u=sb N g) Rp .ret ⟨fr,m,c,[]⟩ :=
 bm val _ h1 ⟨rfl,rfl⟩ (eS (A0:=[a]) (U:=[]) (fun _ h=>by cases h) (fun q h _=>by rw [List.mem_singleton.1 h];exact h3) h4)
end
abbrev AY (P:Program) [Laid P] (f:FuncId) (xs:List AV) (sp:Oid→Prop) (need:List (Oid × aj)) (pv:AV) (upd:List (Oid × Option aj)):Prop:=b7 P f xs sp need (fun _ _=>False) (fun v u=>v=pv∧u=upd)
theorem aq.AZ {P:Program} [Laid P] {f:FuncId} {xs:List AV} {sp:Oid→Prop} {L0:List (Oid × aj)} {v:AV} {U:List (Oid × Option aj)} {N:List Oid} {F G:Oid→aj}
  (h:aq P f xs sp ⟨L0,v,U⟩) (hL:∀ q,q ∈ L0→q ∈ bk (N,F)) (hU:∀ q,q ∈ U→q.1 ∈ N) (hf:∀ i,i ∈ N→((Mem.of (bk (N,F))).aF U) i=some (G i)):aq P f xs sp ⟨bk (N,F),v,sb N G⟩ :=
 ⟨h.enters,fun x g args w m hm hn ha hs hx=>by
  refine (h.calls x g args w m hm (fun q hq=>hn q (hL q hq)) ha hs hx).mono fun en w' ⟨g',v',h1,h2,h3,h4,h5⟩=>⟨g',v',h1,h2,h3,h4,?_⟩
  have:m.aF U=m.aF (sb N G):=by
   funext i
   rw [dM]
   by_cases hi:i ∈ N
   ·rw [if_pos hi,← hf i hi]
    refine rS ?_
    rw [hn (i,F i) (b8.2 ⟨hi,rfl⟩)]
    have:=AT N F [] i
    rw [List.append_nil,if_pos hi] at this
    exact this.symm
   ·rw [if_neg hi,aT fun q hq (e:q.1=i)=>hi (e ▸ hU q hq)]
  simp only at h5 ⊢
  rw [← this];exact h5⟩
def mv (F:Oid→aj) (i:Oid) (o:aj):Oid→aj:=fun j=>if j=i then o else F j
theorem bq (F:Oid→aj) (i:Oid) (o:aj) (j:Oid):mv F i o j=if j=i then o else F j:=rfl
theorem px {N:List Oid} {F:Oid→aj} {i:Oid} (h:i ∈ N):Mem.of (bk (N,F)) i=some (F i):=by
 have:=AT N F [] i
 rwa [List.append_nil,if_pos h] at this
theorem bk2 (F:Oid→aj) (a b:Oid):bk ([a,b],F)=[(a,F a),(b,F b)]:=rfl
theorem bk6 (F:Oid→aj) (a b c d e f:Oid):bk ([a,b,c,d,e,f],F)=[(a,F a),(b,F b),(c,F c),(d,F d),(e,F e),(f,F f)]:=rfl
theorem bk1 (F:Oid→aj) (a:Oid):bk ([a],F)=[(a,F a)]:=rfl
theorem aq.one {P:Program} [Laid P] {f:FuncId} {xs:List AV} {sp:Oid→Prop} {r:Oid} {o o':aj} {v:AV} {F:Oid→aj} (h:aq P f xs sp ⟨[(r,o)],v,[(r,some o')]⟩) (hF:F r=o):aq P f xs sp ⟨bk ([r],F),v,sb [r] (mv F r o')⟩:=by
 refine h.AZ ?_ (fun q hq=>by rw [List.mem_singleton.1 hq];simp) fun i hi=>?_
 ·rw [bk1,hF];exact fun q hq=>hq
 ·rw [List.mem_singleton.1 hi]
  show ((Mem.of _).set r (some o')) r=_
  simp [Mem.set,mv]
attribute [go_sem] Mem.gZ rm ph pk pj jQ AQ xb lu pc aan AR RO RQ RS RT RU RV AU Mem.AO sR aao aap mq AW aaq RW
end Go.Ab
namespace Go.Ab
theorem ks {p e:Prop} (e1:e) (h:e→p:=by intro e;simp (disch:=first|omega|assumption) only [go_sem,eq_self,decide_true,decide_false,ne_eq,not_true_eq_false,not_false_eq_true,uu hpp,hpN,hO,e];first|done|fail):p:=h e1
theorem ks0 {p:Prop} (h:p:=by simp (disch:=first|omega|assumption) only [go_sem,eq_self,decide_true,decide_false,ne_eq,not_true_eq_false,not_false_eq_true,uu hpp,hpN,hO];first|done|fail):p:=h
theorem kt {p q e:Prop} (e1:e) (k:q) (h:e→gr q→p:=by intro e k;refine qt (ai (uu hpp) (ai hpN (ai hO e))) ?_;exact k.out):p:=h e1 ⟨k⟩
theorem kw {p q e:Prop} (e1:e) (k:q) (h:e→gr q→p:=by intro e k;refine qw (ai (uu hpp) (ai hpN (ai hO e))) ?_;exact k.out):p:=h e1 ⟨k⟩
theorem kw0 {p q:Prop} (k:q) (h:gr q→p:=by intro k;refine qw (ai (uu hpp) (ai hpN (ai hO trivial))) ?_;exact k.out):p:=h ⟨k⟩
theorem kn {p e:Prop} (e1:e) (h:e→p:=by intro e;first|(intro _ h;cases h;done)|exact nbu _|(refine nbA ?_ _;simp [hpN,hO.mem];done)|(refine nbA ?_ _;simp [hwN,hpN,hO.mem];done)|exact ks e|(simp only [List.mem_cons,forall_eq_or_imp];refine ⟨ks e,?_⟩;first|exact nbu _|(refine nbA ?_ _;simp [hpN,hO.mem];done)|(refine nbA ?_ _;simp [hwN,hpN,hO.mem];done))|(simp only [List.mem_cons,forall_eq_or_imp];refine ⟨ks e,ks e,?_⟩;first|exact nbu _|(refine nbA ?_ _;simp [hpN,hO.mem];done)|(refine nbA ?_ _;simp [hwN,hpN,hO.mem];done))):p:=h e1
theorem km {p c:Prop} (c1:c) (h:c→p:=by intro c;first|exact c|exact c (ar rfl hp)|exact c _ (ar rfl hp) (fun h=>hpp (Oid.ae h)) (hO.sub _ _)|exact c _ (ar rfl hp) (hO.sub _ _)|exact db.ok (c _ (ar rfl hp) (fun h=>hpp (Oid.ae h)) (hO.sub _ _)) rfl):p:=h c1
theorem kr {p q e c:Prop} {U gl:List (Nat × Nat)} {ts:List Nat} (g:HD U gl ts) (e1:e) (c1:c) (k:q) (h:HD U gl ts→e→c→gr q→p:=by
  intro g e c k;(try refine qv ?_)
  refine y0 g hng (by kernel_rfl) fun hf C S K hC1 hC hS hK=>?_;refine kt e ?_
  repeat (obtain ⟨c1,c⟩:CC _ _:=c;refine hC1 _ (km c1) (kn e) ?_;refine kt e ?_)
  refine hK ?_;clear hK hS hC hC1 K S C hf;(try refine qv ?_)
  exact k.out):p:=h g e1 c1 ⟨k⟩
theorem kd {p q e c:Prop} {U gl:List (Nat × Nat)} {ts:List Nat} (g:HD U gl ts) (e1:e) (c1:c) (k:q) (h:HD U gl ts→e→c→gr q→p:=by
  intro g e c k;(try refine qv ?_)
  refine sF g mixed hng (by kernel_rfl) fun hf C S K hC hS hK=>?_;refine kt e ?_
  repeat (obtain ⟨c1,c⟩:CC _ _:=c;refine hC _ (km c1) (kn e) ?_;refine kt e ?_)
  (first|refine hK (aJ rfl) ?_|refine hK (by simp (disch:=first|omega|assumption) only [go_sem,List.reverse_cons,List.reverse_nil,ne_eq,not_false_eq_true,implies_true]) ?_);clear hK hS hC K S C hf;(try refine qv ?_)
  exact k.out):p:=h g e1 c1 ⟨k⟩
theorem kr0 {p q:Prop} (k:q) (h:gr q→p:=by intro k;refine kr .o trivial trivial ?_;exact k.out):p:=h ⟨k⟩
theorem kr1 {p q c:Prop} (c1:c) (k:q) (h:c→gr q→p:=by intro c k;refine kr .o trivial (cq c trivial) ?_;exact k.out):p:=h c1 ⟨k⟩
theorem ms {p e:Prop} (e1:e) (h:e→p:=by intro e;simp (disch:=first|omega|assumption) only [go_sem,eq_self,decide_true,decide_false,ne_eq,not_true_eq_false,not_false_eq_true,Q,hdj,hON,hOM,e];first|done|fail):p:=h e1
theorem mt {p q e:Prop} (e1:e) (k:q) (h:e→gr q→p:=by intro e k;refine qt (ai Q (ai hdj (ai hON (ai hOM e)))) ?_;exact k.out):p:=h e1 ⟨k⟩
theorem mn {p e:Prop} (e1:e) (h:e→p:=by intro e;first|(intro _ h;cases h;done)|exact gG _|(refine iu ?_ _;simp [hyN,hpN,hqN,hON.mem];done)|(refine Sn ?_ hdj _;simp [hyM,hpM,hqM,hOM.mem];done)|exact ms e|(simp only [List.mem_cons,forall_eq_or_imp];refine ⟨ms e,?_⟩;first|exact gG _|(refine iu ?_ _;simp [hyN,hpN,hqN,hON.mem];done)|(refine Sn ?_ hdj _;simp [hyM,hpM,hqM,hOM.mem];done))):p:=h e1
theorem mm {p c:Prop} (c1:c) (h:c→p:=by intro c;first|exact c|exact c (ar rfl hp)|exact c _ (ar rfl hp) (fun h=>hpp (Oid.ae h)) (hON.sub _ _)|exact c _ (ar rfl hp) (fun h=>hqq (Oid.ae h)) (hOM.sub _ _)):p:=h c1
theorem mr {p q e c:Prop} {U gl:List (Nat × Nat)} {ts:List Nat} (g:HD U gl ts) (e1:e) (c1:c) (k:q) (h:HD U gl ts→e→c→gr q→p:=by
  intro g e c k;(try refine qv ?_)
  refine y0 g hng (by kernel_rfl) fun hf C S K hC1 hC hS hK=>?_;refine mt e ?_
  repeat (obtain ⟨c1,c⟩:CC _ _:=c;refine hC1 _ (mm c1) (mn e) ?_;refine mt e ?_)
  refine hK ?_;clear hK hS hC hC1 K S C hf;(try refine qv ?_)
  exact k.out):p:=h g e1 c1 ⟨k⟩
theorem md {p q e c:Prop} {U gl:List (Nat × Nat)} {ts:List Nat} (g:HD U gl ts) (e1:e) (c1:c) (k:q) (h:HD U gl ts→e→c→gr q→p:=by
  intro g e c k;(try refine qv ?_)
  refine sF g mixed hng (by kernel_rfl) fun hf C S K hC hS hK=>?_;refine mt e ?_
  repeat (obtain ⟨c1,c⟩:CC _ _:=c;refine hC _ (mm c1) (mn e) ?_;refine mt e ?_)
  (first|refine hK (aJ rfl) ?_|refine hK (by simp (disch:=first|omega|assumption) only [go_sem,List.reverse_cons,List.reverse_nil,ne_eq,not_false_eq_true,implies_true]) ?_);clear hK hS hC K S C hf;(try refine qv ?_)
  exact k.out):p:=h g e1 c1 ⟨k⟩
theorem kx0 {p:Prop} (h:p:=by exact kx (z:=0) (e:=_) (dY (by omega)).2.1 (by show _=some _;exact ks0) (by simp (disch:=first|omega|assumption) only [go_sem,eq_self,decide_true,decide_false,ne_eq,not_true_eq_false,not_false_eq_true,uu hpp,hpN,hO,bj,cH,cO,rdV,lsV,fnV,rdS,rdB,rdL,cdN,Bits.no]) (by show _=some _;exact ks0) (by first|exact nbu _|(refine nbA ?_ _;simp [hpN,hO.mem];done)|(refine nbA ?_ _;simp [hwN,hpN,hO.mem];done)) ks0 hO.mem):p:=h
theorem kx1 {p:Prop} (h:p:=by exact kx (z:=0) (e:=_) (dY (by omega)).1 (by show _=some _;exact ks0) (by simp (disch:=first|omega|assumption) only [go_sem,eq_self,decide_true,decide_false,ne_eq,not_true_eq_false,not_false_eq_true,uu hpp,hpN,hO,bj,cH,cO,rdV,lsV,fnV,rdS,rdB,rdL,cdN,Bits.no]) (by show _=some _;exact ks0) (by first|exact nbu _|(refine nbA ?_ _;simp [hpN,hO.mem];done)|(refine nbA ?_ _;simp [hwN,hpN,hO.mem];done)) ks0 hO.mem):p:=h
theorem kx2 {p:Prop} (h:p:=by exact kx (z:=0) (e:=_) (dY (by omega)).2.2 (by show _=some _;exact ks0) (by simp (disch:=first|omega|assumption) only [go_sem,eq_self,decide_true,decide_false,ne_eq,not_true_eq_false,not_false_eq_true,uu hpp,hpN,hO,bj,cH,cO,rdV,lsV,fnV,rdS,rdB,rdL,cdN,Bits.no]) (by show _=some _;exact ks0) (by first|exact nbu _|(refine nbA ?_ _;simp [hpN,hO.mem];done)|(refine nbA ?_ _;simp [hwN,hpN,hO.mem];done)) ks0 hO.mem):p:=h
theorem kz0 {p:Prop} (h:p:=by exact aE (mH (z:=0) (dY (by omega)).2.1 (by show _=some _;exact ks0) (by simp (disch:=first|omega|assumption) only [go_sem,eq_self,decide_true,decide_false,ne_eq,not_true_eq_false,not_false_eq_true,uu hpp,hpN,hO,bj,cH,cO,rdV,lsV,fnV,rdS,rdB,rdL,cdN,Bits.no]) (by show _=some _;exact ks0) (by first|exact nbu _|(refine nbA ?_ _;simp [hpN,hO.mem];done)|(refine nbA ?_ _;simp [hwN,hpN,hO.mem];done)))):p:=h
theorem kz1 {p:Prop} (h:p:=by exact aE (mH (z:=0) (dY (by omega)).1 (by show _=some _;exact ks0) (by simp (disch:=first|omega|assumption) only [go_sem,eq_self,decide_true,decide_false,ne_eq,not_true_eq_false,not_false_eq_true,uu hpp,hpN,hO,bj,cH,cO,rdV,lsV,fnV,rdS,rdB,rdL,cdN,Bits.no]) (by show _=some _;exact ks0) (by first|exact nbu _|(refine nbA ?_ _;simp [hpN,hO.mem];done)|(refine nbA ?_ _;simp [hwN,hpN,hO.mem];done)))):p:=h
theorem kz2 {p:Prop} (h:p:=by exact aE (mH (z:=0) (dY (by omega)).2.2 (by show _=some _;exact ks0) (by simp (disch:=first|omega|assumption) only [go_sem,eq_self,decide_true,decide_false,ne_eq,not_true_eq_false,not_false_eq_true,uu hpp,hpN,hO,bj,cH,cO,rdV,lsV,fnV,rdS,rdB,rdL,cdN,Bits.no]) (by show _=some _;exact ks0) (by first|exact nbu _|(refine nbA ?_ _;simp [hpN,hO.mem];done)|(refine nbA ?_ _;simp [hwN,hpN,hO.mem];done)))):p:=h
theorem kp0 {p e c d:Prop} (e1:e) (c1:c) (d1:d) (h:e→c→d→p:=by
  intro e c d;(try refine qv ?_)
  refine ay nmd [] hng (by kernel_rfl) fun hf C S K hC1 hC hS hK=>?_;refine kt e ?_
  repeat (obtain ⟨c1,c⟩:CC _ _:=c;refine hC1 _ (km c1) (kn e) ?_;refine kt e ?_)
  apply hC;(first|exact d|exact db.pn (d _ (ar rfl hp) (fun h=>hpp (Oid.ae h)) (hO.sub _ _)) rfl);exact kn e;exact (fun _ _ h=>h.elim)
  rintro _ _ ⟨rfl,rfl⟩
  exact kx0):p:=h e1 c1 d1
theorem kp1 {p e c d:Prop} (e1:e) (c1:c) (d1:d) (h:e→c→d→p:=by
  intro e c d;(try refine qv ?_)
  refine ay nmd [] hng (by kernel_rfl) fun hf C S K hC1 hC hS hK=>?_;refine kt e ?_
  repeat (obtain ⟨c1,c⟩:CC _ _:=c;refine hC1 _ (km c1) (kn e) ?_;refine kt e ?_)
  apply hC;(first|exact d|exact db.pn (d _ (ar rfl hp) (fun h=>hpp (Oid.ae h)) (hO.sub _ _)) rfl);exact kn e;exact (fun _ _ h=>h.elim)
  rintro _ _ ⟨rfl,rfl⟩
  exact kx1):p:=h e1 c1 d1
end Go.Ab
namespace Go.Proofs.YtngffmnomciogaaGreatDoor
open Go Go.Ab
set_option maxRecDepth 20000
set_option maxHeartbeats 4000000
def dN (e:ME):Str:=match e.key with
 | .str s=>s
 | _=>[]
def cA (n k:Str):Option Str:=if fw k (n++[47])=true∧¬ 0≤Lib.indexByte (k.drop (n.length+1)) 47 then some (k.drop (n.length+1)) else none
theorem A1 {l l':List (Oid × aj)} {i:Oid} (h:∀ q ∈ l,¬ i=q.1):Mem.of (l++l') i=Mem.of l' i:=by
 induction l with
 | nil=>rfl
 | cons q l ih=>rw [List.cons_append,Mem.ao,if_neg (h q List.mem_cons_self)];exact ih fun q' hq'=>h q' (List.mem_cons_of_mem _ hq')
theorem jR {m:Mem} {B L:List (Oid × aj)} (h1:∀ q,q ∈ B→m q.1=some q.2) (h2:∀ q,q ∈ L→m q.1=some q.2):∀ q,q ∈ B++L→m q.1=some q.2 :=
 fun q hq=>(List.mem_append.1 hq).elim (h1 q) (h2 q)
theorem kV {k:AV} (h:aL [.ss] false k=true):∃ s,k = .str s:=by
 cases k<;>simp [aL,AV.isAgg,AV.cells,fits,eJ] at h ⊢
theorem tS {es U:List ME} (hp:es.Pairwise fun e e'=>e.born < e'.born) (hs:∀ e ∈ U,e ∈ es) (hn:(U.map (·.born)).Nodup):U.length≤es.length:=by
 have h1:U.Nodup:=List.Pairwise.imp (fun h e=>h (by rw [e])) (List.pairwise_map.1 hn)
 exact h1.length_le_of_subset fun e he=>hs e he
theorem find_born {es:List ME} (hp:es.Pairwise fun e e'=>e.born < e'.born) {e:ME} (he:e ∈ es):es.find? (fun q=>q.born == e.born)=some e:=by
 induction es with
 | nil=>cases he
 | cons a es ih =>
  have h2:=List.pairwise_cons.1 hp
  rcases List.mem_cons.1 he with rfl|he
  ·simp
  ·have:=h2.1 e he
   rw [List.find?_cons_of_neg (by simp;omega)]
   exact ih h2.2 he
theorem xc (b1 b2 o:Oid) (n:Str) (hln:n.length≤140737488355000) (es:List ME) (clock:Nat) (hkl:∀ e ∈ es,(dN e).length≤140737488355328) (p:Oid) (hne1:¬ o=b1) (hne2:¬ o=b2) (hne3:¬ b2=b1) (hb1:¬ Oid.under p b1) (hb2:¬ Oid.under p b2) (ho:¬ Oid.under p o) :
  nD Tryz.prog 274 [.ptr b1 0,.ptr b2 0] p [(b1,.cells [.map o]),(b2,.cells [.str n]),(o,.map [.ss] false es clock)] 1 (fun pre xs=>pre.length < es.length∧∃ s:Str,xs=[.str s]) (fun b pre=>b=true→∃ U:List ME,U.Perm es∧pre=(U.filterMap fun e=>cA n (dN e)).map fun s=>[.str s]):=by
 intro l J L0 hJ hdis hnp hY
 refine eo (by kernel_rfl) fun hcon=>?_
 refine fZ (n:=32) (rs:=[]) Tryz.func274 rfl rfl (by decide) rfl rfl rfl ?_;rintro x rfl hrd hng
 have hcL:∀ q ∈ L0,Mem.of L0 q.1=some q.2:=fun q hq=>by
  have:=hcon q (List.mem_append_right _ hq)
  rwa [A1 fun q' hq'=>hdis q hq q' hq'] at this
 generalize hQ:dJ Tryz.prog [] ([(b1,.cells [.map o]),(b2,.cells [.str n]),(o,.map [.ss] false es clock)]++L0) _ _=Q
 refine aaS fun hwf=>?_
 obtain ⟨hw1,hw2⟩:=hwf o [.ss] false es clock (by simp only [bf,bA,Mem.ao,Mem.aM,Mem.aQ,Mem.aX,bY,cf,List.cons_append,List.nil_append,List.append_nil,↓reduceIte,eq_self,and_true,true_and,and_self,and_false,false_and,reduceCtorEq,Oid.sub.injEq,Nat.reduceEqDiff,hne1,hne2,hne3,Oid.aa hb1,Oid.aa hb2,Oid.aa ho,Oid.ab hb1,Oid.ab hb2,Oid.ab ho])
 have hstr:∀ e ∈ es,e.key = .str (dN e):=fun e he=>by
  obtain ⟨s,hs⟩:=kV (hw1 e he).1
  simp only [dN,hs]
 (try ((first|refine zn ?_|refine ze ?_|refine zk ?_);with_reducible (constructor;repeat constructor));try refine zl ?_)
 refine ay nmd [] hng (by kernel_rfl) fun hf C S K hC1 hC hS hK=>?_;simp (disch:=first|omega|assumption) only [go_sem,hne1,hne2,hne3,Oid.aa hb1,Oid.aa hb2,Oid.aa ho,Oid.ab hb1,Oid.ab hb2,Oid.ab ho,aK]
 refine hK ?_;clear hK hS hC hC1 K S C hf
 (try ((first|refine zn ?_|refine ze ?_|refine zk ?_);with_reducible (constructor;repeat constructor));try refine zl ?_)
 have hn0:∀ q ∈ L0,¬ q.1=b1∧¬ q.1=b2∧¬ q.1=o∧¬ q.1 = .sub 0 1 x.p:=fun q hq=>⟨hdis q hq _ List.mem_cons_self,hdis q hq _ (List.mem_cons_of_mem _ List.mem_cons_self),hdis q hq _ (List.mem_cons_of_mem _ (List.mem_cons_of_mem _ List.mem_cons_self)),fun e=>hnp q hq (e ▸ Oid.ae (Oid.az _))⟩
 refine nK ([(b1,.cells [.map o]),(b2,.cells [.str n]),(o,.map [.ss] false es clock),(.sub 0 1 x.p,.iter (some o) clock [] clock)]++L0) (jR ?_ ?_) ?_
 ·simp only [bf,bA,Mem.ao,Mem.aM,Mem.aQ,Mem.aX,bY,cf,List.cons_append,List.nil_append,List.append_nil,↓reduceIte,eq_self,and_true,true_and,and_self,and_false,false_and,reduceCtorEq,Oid.sub.injEq,Nat.reduceEqDiff,hne1,hne2,hne3,Oid.aa hb1,Oid.aa hb2,Oid.aa ho,Oid.ab hb1,Oid.ab hb2,Oid.ab ho,aK]
 ·intro q hq
  obtain ⟨a1,a2,a3,a4⟩:=hn0 q hq
  simp only [bf,bA,Mem.ao,Mem.aM,Mem.aQ,Mem.aX,bY,cf,List.cons_append,List.nil_append,List.append_nil,↓reduceIte,eq_self,and_true,true_and,and_self,and_false,false_and,reduceCtorEq,Oid.sub.injEq,Nat.reduceEqDiff,aK,a1,a2,a3,a4]
  exact hcL q hq
 refine cE [0,1,2,8] (fun q s'=>∃ (c:Nat) (U:List ME) (L:List (Oid × aj)),s' = ⟨[(0,.fn (.yield l) [] []),(1,.ptr b1 0),(2,.ptr b2 0),(8,.iter (.sub 0 1 x.p))],Mem.of ([(b1,.cells [.map o]),(b2,.cells [.str n]),(o,.map [.ss] false es clock),(.sub 0 1 x.p,.iter (some o) clock (U.map ME.born) clock)]++L),c,[]⟩∧0 < c∧q=es.length - U.length∧(U.map ME.born).Nodup∧(∀ e ∈ U,e ∈ es)∧J true ((U.filterMap fun e=>cA n (dN e)).map fun s=>[.str s]) L ∧
  (∀ q ∈ L,Mem.of L q.1=some q.2)∧∀ q ∈ L,((∃ q' ∈ L0,q'.1=q.1)∨Oid.under x.p q.1)∧¬ q.1=b1∧¬ q.1=b2∧¬ q.1=o∧¬ q.1 = .sub 0 1 x.p∧∀ d j,c≤d→¬ Oid.under (.sub d j x.p) q.1) es.length ⟨_,[],L0,rfl,by omega,rfl,List.nodup_nil,fun i h=>(by cases h),hJ,hcL,fun q hq=>⟨.inl ⟨q,hq,rfl⟩,(hn0 q hq).1,(hn0 q hq).2.1,(hn0 q hq).2.2.1,(hn0 q hq).2.2.2,fun d j _ h=>hnp q hq (Oid.ae h)⟩⟩ ?_
 rintro q s' ⟨c,U,L,rfl,hc,rfl,hnd,hlt,hj,hcc,hnm⟩
 have hst:U.map ME.born=[]∨es=[]∨∃ e ∈ es,e.born < clock:=by
  cases U with
  | nil=>exact .inl rfl
  | cons e _=>exact .inr (.inr ⟨e,hlt e List.mem_cons_self,(hw1 e (hlt e List.mem_cons_self)).2⟩)
 (try ((first|refine zn ?_|refine ze ?_|refine zk ?_);with_reducible (constructor;repeat constructor));try refine zl ?_)
 refine ay nmd [] hng (by kernel_rfl) fun hf C S K hC1 hC hS hK=>?_;simp (disch:=first|omega|assumption) only [go_sem]
 refine hS _ _ _ (fun o' hd ho'=>tB (it:=.sub 0 1 x.p) (id:=o) (since:=clock) (ks:=[.ss]) (ag:=false) (clock:=clock) ho' rfl hst) ?_ ?_ (fun _ _ h=>h.elim)
 ·simp only [bf,bA,Mem.ao,Mem.aM,Mem.aQ,Mem.aX,bY,cf,List.cons_append,List.nil_append,List.append_nil,↓reduceIte,eq_self,and_true,true_and,and_self,and_false,false_and,reduceCtorEq,Oid.sub.injEq,Nat.reduceEqDiff,hne1,hne2,hne3,Oid.aa hb1,Oid.aa hb2,Oid.aa ho,Oid.ab hb1,Oid.ab hb2,Oid.ab ho]
 rintro val upd (⟨e,he,hns,rfl,rfl⟩|⟨hall,rfl,rfl⟩)
 ·have hfi:=find_born hw2 he
  have hk:=hstr e he
  have hkl1:=hkl e he
  have hnd':((U++[e]).map ME.born).Nodup:=by
   rw [List.map_append]
   exact List.nodup_append.2 ⟨hnd,by simp,fun a ha b hb' e'=>by simp at hb';subst hb';subst e';exact hns ha⟩
  have hlt':∀ j ∈ U++[e],j ∈ es:=fun j hj=>by
   rcases List.mem_append.1 hj with hj|hj
   ·exact hlt j hj
   ·simp at hj;subst hj;exact he
  have hle:=tS hw2 hlt' hnd'
  have hfm:(U.filterMap fun e=>cA n (dN e)).length≤U.length:=List.length_filterMap_le ..
  have hrest:((U++[e]).filterMap fun e=>cA n (dN e))=(U.filterMap fun e=>cA n (dN e))++(cA n (dN e)).toList:=by
   rw [List.filterMap_append];congr 1
  generalize dN e=s at *
  simp (disch:=first|omega|assumption) only [go_sem,hne1,hne2,hne3,Oid.aa hb1,Oid.aa hb2,Oid.aa ho,Oid.ab hb1,Oid.ab hb2,Oid.ab ho,aK,hk]
  refine hK ?_;clear hK hS hC hC1 K S C hf
  (repeat (first|(refine aB rfl rfl ?_)|(refine aC rfl rfl ?_)|(refine ay nmd [] hng (by kernel_rfl) fun hf C S K hC1 hC hS hK=>?_;simp (disch:=first|omega|assumption) only [go_sem];refine hK ?_;clear hK hS hC hC1 K S C hf)|((first|refine zv ?_|refine zw ?_|refine zu ?_);with_reducible (constructor;repeat constructor);try refine zl ?_)))
  refine iB ?_
  (repeat (first|(refine aB rfl rfl ?_)|(refine aC rfl rfl ?_)|(refine ay nmd [] hng (by kernel_rfl) fun hf C S K hC1 hC hS hK=>?_;simp (disch:=first|omega|assumption) only [go_sem];refine hK ?_;clear hK hS hC hC1 K S C hf)|((first|refine zv ?_|refine zw ?_|refine zu ?_);with_reducible (constructor;repeat constructor);try refine zl ?_)))
  refine ay nmd [] hng (by kernel_rfl) fun hf C S K hC1 hC hS hK=>?_;simp (disch:=first|omega|assumption) only [go_sem,hne1,hne2,hne3,Oid.aa hb1,Oid.aa hb2,Oid.aa ho,Oid.ab hb1,Oid.ab hb2,Oid.ab ho,aK,hfi,hk,List.getLast?_concat]
  refine hK ?_;clear hK hS hC hC1 K S C hf
  (repeat (first|(refine aB rfl rfl ?_)|(refine aC rfl rfl ?_)|(refine ay nmd [] hng (by kernel_rfl) fun hf C S K hC1 hC hS hK=>?_;simp (disch:=first|omega|assumption) only [go_sem];refine hK ?_;clear hK hS hC hC1 K S C hf)|((first|refine zv ?_|refine zw ?_|refine zu ?_);with_reducible (constructor;repeat constructor);try refine zl ?_)))
  refine ay nmd [] hng (by kernel_rfl) fun hf C S K hC1 hC hS hK=>?_;simp (disch:=first|omega|assumption) only [go_sem,hne1,hne2,hne3,Oid.aa hb1,Oid.aa hb2,Oid.aa ho,Oid.ab hb1,Oid.ab hb2,Oid.ab ho,aK]
  refine hC1 _ (jO s (n++[47]) (by omega) (by simp only [List.length_append,List.length_cons,List.length_nil];omega) _) qs0 ?_
  simp (disch:=first|omega|assumption) only [go_sem]
  refine hK ?_;clear hK hS hC hC1 K S C hf
  have hnm2:∀ q ∈ L,((∃ q' ∈ L0,q'.1=q.1)∨Oid.under x.p q.1)∧¬ q.1=b1∧¬ q.1=b2∧¬ q.1=o∧¬ q.1 = .sub 0 1 x.p∧∀ d j,c+4≤d→¬ Oid.under (.sub d j x.p) q.1:=fun q hq=>by
   obtain ⟨a0,a1,a2,a3,a4,a5⟩:=hnm q hq
   exact ⟨a0,a1,a2,a3,a4,fun d j hd=>a5 d j (by omega)⟩
  have hnL:∀ q ∈ L,∀ q' ∈ ([(b1,.cells [.map o]),(b2,.cells [.str n]),(o,.map [.ss] false es clock),(.sub 0 1 x.p,.iter (some o) clock (U.map ME.born++[e.born]) clock)]:List (Oid × aj)),¬ q.1=q'.1:=fun q hq=>by
   obtain ⟨_,a1,a2,a3,a4,a5⟩:=hnm q hq
   simp only [bf,bA,Mem.ao,Mem.aM,Mem.aQ,Mem.aX,bY,cf,List.cons_append,List.nil_append,List.append_nil,↓reduceIte,eq_self,and_true,true_and,and_self,and_false,false_and,reduceCtorEq,Oid.sub.injEq,Nat.reduceEqDiff,a1,a2,a3,a4,not_false_eq_true]
  have hBm:∀ q ∈ ([(b1,.cells [.map o]),(b2,.cells [.str n]),(o,.map [.ss] false es clock),(.sub 0 1 x.p,.iter (some o) clock (U.map ME.born++[e.born]) clock)]:List (Oid × aj)),Mem.of ([(b1,.cells [.map o]),(b2,.cells [.str n]),(o,.map [.ss] false es clock),(.sub 0 1 x.p,.iter (some o) clock (U.map ME.born++[e.born]) clock)]++L) q.1=some q.2:=by
   simp only [bf,bA,Mem.ao,Mem.aM,Mem.aQ,Mem.aX,bY,cf,List.cons_append,List.nil_append,List.append_nil,↓reduceIte,eq_self,and_true,true_and,and_self,and_false,false_and,reduceCtorEq,Oid.sub.injEq,Nat.reduceEqDiff,hne1,hne2,hne3,Oid.aa hb1,Oid.aa hb2,Oid.aa ho,Oid.ab hb1,Oid.ab hb2,Oid.ab ho]
  have hall:=ga hBm hnL hcc
  have hmm:(U++[e]).map ME.born=U.map ME.born++[e.born]:=by simp
  have hlen2:(U++[e]).length=U.length+1:=by simp
  by_cases hp:fw s (n++[47])=true
  ·by_cases hq:0≤Lib.indexByte (s.drop (n.length+1)) 47
   ·have hro:cA n s=none:=if_neg fun h=>h.2 hq
    (repeat (first|(refine aB rfl rfl ?_)|(refine aC rfl rfl ?_)|(refine ay nmd [] hng (by kernel_rfl) fun hf C S K hC1 hC hS hK=>?_;simp (disch:=first|omega|assumption) only [go_sem];refine hK ?_;clear hK hS hC hC1 K S C hf)|((first|refine zv ?_|refine zw ?_|refine zu ?_);with_reducible (constructor;repeat constructor);try refine zl ?_)))
    refine ay nmd [(1,21),(6,26)] hng (by kernel_rfl) fun hf C S K hC1 hC hS hK=>?_;simp (disch:=first|omega|assumption) only [go_sem,hp]
    refine hC1 _ (kR (s.drop (n.length+1)) 47 _) qs0 ?_
    simp (disch:=first|omega|assumption) only [go_sem,hq]
    refine hK ?_;clear hK hS hC hC1 K S C hf
    refine qw0 ?_
    refine ⟨_,Mem.of ([(b1,.cells [.map o]),(b2,.cells [.str n]),(o,.map [.ss] false es clock),(.sub 0 1 x.p,.iter (some o) clock (U.map ME.born++[e.born]) clock)]++L),?_,lr hall,c+1+1+1+1,U++[e],L,by rw [hmm];rfl,by omega,rfl,hnd',hlt',?_,hcc,hnm2⟩
    ·rw [hlen2] at hle ⊢;omega
    ·rw [hrest,hro];simpa using hj
   ·have hro:cA n s=some (s.drop (n.length+1)):=if_pos ⟨hp,hq⟩
    (repeat (first|(refine aB rfl rfl ?_)|(refine aC rfl rfl ?_)|(refine ay nmd [] hng (by kernel_rfl) fun hf C S K hC1 hC hS hK=>?_;simp (disch:=first|omega|assumption) only [go_sem];refine hK ?_;clear hK hS hC hC1 K S C hf)|((first|refine zv ?_|refine zw ?_|refine zu ?_);with_reducible (constructor;repeat constructor);try refine zl ?_)))
    refine ay nmd [(1,21),(6,26)] hng (by kernel_rfl) fun hf C S K hC1 hC hS hK=>?_;simp (disch:=first|omega|assumption) only [go_sem,hp]
    refine hC1 _ (kR (s.drop (n.length+1)) 47 _) qs0 ?_
    simp (disch:=first|omega|assumption) only [go_sem,hq]
    generalize hr:s.drop (n.length+1)=r at *
    refine hS _ _ _ (fun o' hd ho'=>nC ho' rfl (hY _ [.str r] L (.sub (c+1+1+1) 9 x.p) hj rfl ⟨by rw [List.length_map];rw [hlen2] at hle;omega,r,rfl⟩)) (fun q hq=>hall q (List.mem_append_right _ hq)) ?_ (fun _ _ h=>h.elim)
    rintro val upd ⟨b,L',rfl,hj',hU⟩
    have hym:=nJ hU (fun q hq=>hall q (List.mem_append_right _ hq)) hBm ?_
    rotate_left
    ·intro q hq
     refine ⟨fun q' hq'=>hnL q' hq' q hq,fun hu=>?_⟩
     simp only [List.mem_cons,List.not_mem_nil,or_false] at hq
     rcases hq with rfl|rfl|rfl|rfl
     ·exact hb1 (Oid.ae hu)
     ·exact hb2 (Oid.ae hu)
     ·exact ho (Oid.ae hu)
     ·have:=(Oid.apart hu (Oid.az _)).1;omega
    have hcl:∀ q ∈ L',Mem.of L' q.1=some q.2:=fun q hq=>by
     obtain ⟨o',ho'⟩:=Mem.ll hq
     obtain ⟨q',h1,h2,h3⟩:=Mem.dy ho'
     have h4:=hym q (List.mem_append_right _ hq)
     have h5:=hym q' (List.mem_append_right _ h1)
     rw [h2,h4,h3] at h5
     rw [ho'];exact h5.symm
    simp (disch:=first|omega|assumption) only [go_sem]
    refine hK ?_;clear hK hS hC hC1 K S C hf
    (repeat (first|(refine aB rfl rfl ?_)|(refine aC rfl rfl ?_)|(refine ay nmd [] hng (by kernel_rfl) fun hf C S K hC1 hC hS hK=>?_;simp (disch:=first|omega|assumption) only [go_sem];refine hK ?_;clear hK hS hC hC1 K S C hf)|((first|refine zv ?_|refine zw ?_|refine zu ?_);with_reducible (constructor;repeat constructor);try refine zl ?_)))
    refine nK ([(b1,.cells [.map o]),(b2,.cells [.str n]),(o,.map [.ss] false es clock),(.sub 0 1 x.p,.iter (some o) clock (U.map ME.born++[e.born]) clock)]++L') (by rw [← Mem.aQ];exact hym) ?_
    have hnm':∀ q ∈ L',((∃ q' ∈ L0,q'.1=q.1)∨Oid.under x.p q.1)∧¬ q.1=b1∧¬ q.1=b2∧¬ q.1=o∧¬ q.1 = .sub 0 1 x.p∧∀ d j,c+1+1+1+1≤d→¬ Oid.under (.sub d j x.p) q.1:=fun q hq=>by
     rcases hU.nam q hq with ⟨q',h1,h2⟩|h1
     ·obtain ⟨a0,a1,a2,a3,a4,a5⟩:=hnm q' h1
      rw [h2] at a0 a1 a2 a3 a4 a5
      exact ⟨a0,a1,a2,a3,a4,fun d j hd=>a5 d j (by omega)⟩
     ·have hu:=Oid.ae h1
      refine ⟨.inr hu,fun e=>hb1 (e ▸ hu),fun e=>hb2 (e ▸ hu),fun e=>ho (e ▸ hu),fun e=>?_,fun d j hd h2=>?_⟩
      ·rw [e] at h1;have:=(Oid.apart h1 (Oid.az _)).1;omega
      ·have:=(Oid.apart h1 h2).1;omega
    have hmap:((U++[e]).filterMap fun e=>cA n (dN e)).map (fun s=>[AV.str s])=((U.filterMap fun e=>cA n (dN e)).map fun s=>[AV.str s])++[[.str r]]:=by rw [hrest,hro];simp
    have hnL':∀ q ∈ L',∀ q' ∈ ([(b1,.cells [.map o]),(b2,.cells [.str n]),(o,.map [.ss] false es clock),(.sub 0 1 x.p,.iter (some o) clock (U.map ME.born++[e.born]) clock)]:List (Oid × aj)),¬ q.1=q'.1:=fun q hq=>by
     obtain ⟨_,a1,a2,a3,a4,a5⟩:=hnm' q hq
     simp only [bf,bA,Mem.ao,Mem.aM,Mem.aQ,Mem.aX,bY,cf,List.cons_append,List.nil_append,List.append_nil,↓reduceIte,eq_self,and_true,true_and,and_self,and_false,false_and,reduceCtorEq,Oid.sub.injEq,Nat.reduceEqDiff,a1,a2,a3,a4,not_false_eq_true]
    have hall':=ga (L:=L') (B:=[(b1,.cells [.map o]),(b2,.cells [.str n]),(o,.map [.ss] false es clock),(.sub 0 1 x.p,.iter (some o) clock (U.map ME.born++[e.born]) clock)]) (fun q hq=>by
     have:=hym q (List.mem_append_left _ hq)
     revert q
     simp only [bf,bA,Mem.ao,Mem.aM,Mem.aQ,Mem.aX,bY,cf,List.cons_append,List.nil_append,List.append_nil,↓reduceIte,eq_self,and_true,true_and,and_self,and_false,false_and,reduceCtorEq,Oid.sub.injEq,Nat.reduceEqDiff,hne1,hne2,hne3,Oid.aa hb1,Oid.aa hb2,Oid.aa ho,Oid.ab hb1,Oid.ab hb2,Oid.ab ho,implies_true]) hnL' hcl
    cases b with
    | true =>
     refine qw0 ?_
     rw [← hmap] at hj'
     refine ⟨_,Mem.of ([(b1,.cells [.map o]),(b2,.cells [.str n]),(o,.map [.ss] false es clock),(.sub 0 1 x.p,.iter (some o) clock (U.map ME.born++[e.born]) clock)]++L'),?_,lr hall',c+1+1+1+1,U++[e],L',by rw [hmm];rfl,by omega,rfl,hnd',hlt',hj',hcl,hnm'⟩
     rw [hlen2] at hle ⊢;omega
    | false =>
     refine aB rfl rfl (aE ?_)
     subst hQ
     have hsw:=jJ (L:=[(b1,.cells [.map o]),(b2,.cells [.str n]),(o,.map [.ss] false es clock)]++L0) (L':=[(b1,.cells [.map o]),(b2,.cells [.str n]),(o,.map [.ss] false es clock)]++L') (m:=Mem.of ([(b1,.cells [.map o]),(b2,.cells [.str n]),(o,.map [.ss] false es clock),(.sub 0 1 x.p,.iter (some o) clock (U.map ME.born++[e.born]) clock)]++L')) (sp:=Oid.under x.p) (fun q hq=>hall' q (by
       rcases List.mem_append.1 hq with hq|hq
       ·exact List.mem_append_left _ (by simp only [List.mem_cons,List.not_mem_nil,or_false] at hq ⊢;rcases hq with h|h|h<;>simp [h])
       ·exact List.mem_append_right _ hq)) (fun q hq=>by
       rcases List.mem_append.1 hq with hq|hq
       ·exact .inl ⟨q,List.mem_append_left _ hq,rfl⟩
       ·rcases (hnm' q hq).1 with ⟨q',h1,h2⟩|h
        ·exact .inl ⟨q',List.mem_append_right _ h1,h2⟩
        ·exact .inr h)
     exact bm _ _ rfl ⟨false,_,L',fun h=>(by cases h),hj',hsw.1⟩ hsw.2
  ·have hro:cA n s=none:=if_neg fun h=>hp h.1
   rw [Bool.not_eq_true] at hp
   (repeat (first|(refine aB rfl rfl ?_)|(refine aC rfl rfl ?_)|(refine ay nmd [] hng (by kernel_rfl) fun hf C S K hC1 hC hS hK=>?_;simp (disch:=first|omega|assumption) only [go_sem];refine hK ?_;clear hK hS hC hC1 K S C hf)|((first|refine zv ?_|refine zw ?_|refine zu ?_);with_reducible (constructor;repeat constructor);try refine zl ?_)))
   refine ay nmd [(1,21),(6,26)] hng (by kernel_rfl) fun hf C S K hC1 hC hS hK=>?_;simp (disch:=first|omega|assumption) only [go_sem,hp]
   refine hK ?_;clear hK hS hC hC1 K S C hf
   refine qw0 ?_
   refine ⟨_,Mem.of ([(b1,.cells [.map o]),(b2,.cells [.str n]),(o,.map [.ss] false es clock),(.sub 0 1 x.p,.iter (some o) clock (U.map ME.born++[e.born]) clock)]++L),?_,lr hall,c+1+1+1+1,U++[e],L,by rw [hmm];rfl,by omega,rfl,hnd',hlt',?_,hcc,hnm2⟩
   ·rw [hlen2] at hle ⊢;omega
   ·rw [hrest,hro];simpa using hj
 ·simp (disch:=first|omega|assumption) only [go_sem]
  refine hK ?_;clear hK hS hC hC1 K S C hf
  (try ((first|refine zn ?_|refine ze ?_|refine zk ?_);with_reducible (constructor;repeat constructor));try refine zl ?_)
  subst hQ
  have hfull:=nT hw2 hlt hnd fun e he=>hall e he (hw1 e he).2
  have hnL:∀ q ∈ L,∀ q' ∈ ([(b1,.cells [.map o]),(b2,.cells [.str n]),(o,.map [.ss] false es clock),(.sub 0 1 x.p,.iter (some o) clock (U.map ME.born) clock)]:List (Oid × aj)),¬ q.1=q'.1:=fun q hq=>by
   obtain ⟨_,a1,a2,a3,a4,a5⟩:=hnm q hq
   simp only [bf,bA,Mem.ao,Mem.aM,Mem.aQ,Mem.aX,bY,cf,List.cons_append,List.nil_append,List.append_nil,↓reduceIte,eq_self,and_true,true_and,and_self,and_false,false_and,reduceCtorEq,Oid.sub.injEq,Nat.reduceEqDiff,a1,a2,a3,a4,not_false_eq_true]
  have hall':=ga (L:=L) (B:=[(b1,.cells [.map o]),(b2,.cells [.str n]),(o,.map [.ss] false es clock),(.sub 0 1 x.p,.iter (some o) clock (U.map ME.born) clock)]) (by
   simp only [bf,bA,Mem.ao,Mem.aM,Mem.aQ,Mem.aX,bY,cf,List.cons_append,List.nil_append,List.append_nil,↓reduceIte,eq_self,and_true,true_and,and_self,and_false,false_and,reduceCtorEq,Oid.sub.injEq,Nat.reduceEqDiff,hne1,hne2,hne3,Oid.aa hb1,Oid.aa hb2,Oid.aa ho,Oid.ab hb1,Oid.ab hb2,Oid.ab ho]) hnL hcc
  have hsw:=jJ (L:=[(b1,.cells [.map o]),(b2,.cells [.str n]),(o,.map [.ss] false es clock)]++L0) (L':=[(b1,.cells [.map o]),(b2,.cells [.str n]),(o,.map [.ss] false es clock)]++L) (m:=Mem.of ([(b1,.cells [.map o]),(b2,.cells [.str n]),(o,.map [.ss] false es clock),(.sub 0 1 x.p,.iter (some o) clock (U.map ME.born) clock)]++L)) (sp:=Oid.under x.p) (fun q hq=>hall' q (by
     rcases List.mem_append.1 hq with hq|hq
     ·exact List.mem_append_left _ (by simp only [List.mem_cons,List.not_mem_nil,or_false] at hq ⊢;rcases hq with h|h|h<;>simp [h])
     ·exact List.mem_append_right _ hq)) (fun q hq=>by
     rcases List.mem_append.1 hq with hq|hq
     ·exact .inl ⟨q,List.mem_append_left _ hq,rfl⟩
     ·rcases (hnm q hq).1 with ⟨q',h1,h2⟩|h
      ·exact .inl ⟨q',List.mem_append_right _ h1,h2⟩
      ·exact .inr h)
  refine aC rfl rfl ?_
  (try ((first|refine zn ?_|refine ze ?_|refine zk ?_);with_reducible (constructor;repeat constructor));try refine zl ?_)
  refine bC ?_
  exact a8 _ _ rfl ⟨true,_,L,fun _=>⟨U,hfull,rfl⟩,hj,hsw.1⟩ hsw.2
end Go.Proofs.YtngffmnomciogaaGreatDoor
namespace Go.Proofs.YtngffmnomciogaaGreatDoor
open Go Go.Ab
set_option maxRecDepth 20000
set_option maxHeartbeats 4000000
theorem xd (t:Nat) (a:AV) (fr:List (Nat × AV)):nE [t] [a] fr=(t,a)::fr:=rfl
theorem tT {P:Program} [Laid P] {x:Ctx} {n:Nat} {a:Code} {Q:AX→AS→Prop} {fr:List (Nat × AV)} {m:Mem} {c:Nat} {ds:List AD} (h:(∀ i,dA x.p c i→m i=none)→T P x n a ⟨fr,m,c,ds⟩ Q):T P x n a ⟨fr,m,c,ds⟩ Q :=
 fun g a w hr=>h hr.fresh g a w hr
theorem SF {P:Program} [Laid P] {x:Ctx} {n:Nat} {a:Code} {Q:AX→AS→Prop} {s:AS} (h:T P x n a s (after P x n Q [])):T P x n a s Q:=iV h fun _ _ h=>h
def sS (l:List Str) (v:AV) (L:List (Oid × aj)) (sp:Oid→Prop):Prop :=
 (l=[]∧v = .nilSl∧L=[])∨(¬ l=[]∧∃ id,v = .sl id 1 l.length∧L=[(id,.arr 1 (l.map .str))]∧sp id)
theorem sS.mono {l:List Str} {v:AV} {L:List (Oid × aj)} {sp sp':Oid→Prop} (h:sS l v L sp) (hs:∀ i,sp i→sp' i):sS l v L sp':=h.imp id fun ⟨a,i,b,c,d⟩=>⟨a,i,b,c,hs i d⟩
theorem py (gf:FuncId) (cap:List AV) (need:List (Oid × aj)) (N:Nat) (S:Bool→List (List AV)→Prop) (hN:N≤2000000000000) (p:Oid) (hnp:∀ q ∈ need,¬ Oid.under p q.1) (hna:∀ q ∈ need,∀ sz xs,¬ q.2 = .arr sz xs)
  (hseq:∀ p',Oid.under p p'→nD Tryz.prog gf cap p' need 1 (fun pre xs=>pre.length < N∧∃ h:Str,xs=[.str h]) S) :
  b7 Tryz.prog 84 [.nilSl,.fn (.func gf) [] cap] (Oid.under p) need (fun v u=>∃ l L',S true (l.map fun h=>[.str h])∧sS l v L' (Oid.under p)∧u=jI L') (fun _ _=>False):=by
 refine eo (by kernel_rfl) fun hcon=>?_
 refine fZ (n:=13) (rs:=[.tmp 4]) Tryz.func84 rfl rfl (by decide) rfl rfl rfl ?_;rintro x rfl hrd hng
 have hnb:∀ q ∈ need,¬ q.1 = .sub 0 0 x.p:=fun q hq e=>hnp q hq (e ▸ Oid.ae (Oid.az _))
 generalize hQ:dJ Tryz.prog _ need _ _=Q
 (try ((first|refine zn ?_|refine ze ?_|refine zk ?_);with_reducible (constructor;repeat constructor));try refine zl ?_)
 refine ay nmd [] hng (by kernel_rfl) fun hf C S K hC1 hC hS hK=>?_;simp (disch:=first|omega|assumption) only [go_sem,aK]
 refine hK ?_;clear hK hS hC hC1 K S C hf
 refine qw0 ?_
 refine qp (S:=S) hrd hng (by decide) rfl rfl (hseq _ (Oid.ae (Oid.az _))) ?_
  (fun jump pre L=>jump=none∧∃ (l:List Str) (v:AV) (L1:List (Oid × aj)),pre=l.map (fun h=>[.str h])∧sS l v L1 (fun id=>¬ id = .sub 0 0 x.p)∧L=(.sub 0 0 x.p,.cells [v])::L1)
  [(.sub 0 0 x.p,.cells [.nilSl])] ⟨rfl,[],.nilSl,[],rfl,.inl ⟨rfl,rfl,rfl⟩,rfl⟩ ?_ ?_
  (fun _ xs L1 p' s=>∃ h:Str,xs=[.str h]∧F s.fr 5 = .str h∧F s.fr 2 = .ptr (.sub 0 0 x.p) 0∧(∀ q,q ∈ L1→s.mem q.1=some q.2)∧s.ds=[]∧0 < s.c∧¬ p' = x.p) ?_ ?_ ?_ ?_
 ·intro q hq
  rw [aK,if_neg (hnb q hq)];exact hcon q hq
 ·intro q hq
  simp only [List.mem_singleton] at hq
  subst hq
  rw [aK,if_pos rfl]
 ·intro q hq q' hq' e
  simp only [List.mem_singleton] at hq
  subst hq
  exact hnb q' hq' e.symm
 ·rintro y l0 pre xs L1 ⟨_,l,v,L2,rfl,hr,rfl⟩ _ ⟨hlen,h,rfl⟩ hyr hyg
  refine SF (tT fun hf=>?_)
  replace hng:=hyg
  have hfy:=hf (.sub 0 0 y.p) ⟨0,0,Nat.le_refl _,Oid.az _⟩
  have hb:¬ Oid.sub 0 0 y.p = .sub 0 0 x.p:=fun e=>by rw [e] at hfy;simp [Mem.ao] at hfy
  have hb2:¬ y.p=x.p:=fun e=>hb (by rw [e])
  generalize hrest:L2=rest at hfy ⊢
  rw [Mem.ao,if_neg hb] at hfy
  have hdis:∀ q ∈ L2,¬ q.1 = .sub 0 0 x.p∧Mem.of L2 q.1=some q.2:=by
   rcases hr with ⟨_,_,rfl⟩|⟨_,id,_,rfl,hid⟩
   ·intro q hq;cases hq
   ·intro q hq
    simp only [List.mem_singleton] at hq
    subst hq
    exact ⟨hid,by simp [Mem.ao]⟩
  refine ay nmd [] hng (by kernel_rfl) fun hf C S K hC1 hC hS hK=>?_;simp (disch:=first|omega|assumption) only [go_sem,aK,hb2,xd]
  refine hK ?_;clear hK hS hC hC1 K S C hf
  refine bC ⟨rfl,h,rfl,rfl,rfl,?_,rfl,by simp,hb2⟩
  refine jR (B:=[(.sub 0 0 x.p,.cells [v])]) ?_ ?_
  ·simp only [bf,bA,Mem.ao,Mem.aM,Mem.aQ,Mem.aX,bY,cf,List.cons_append,List.nil_append,List.append_nil,↓reduceIte,eq_self,and_true,true_and,and_self,and_false,false_and,reduceCtorEq,Oid.sub.injEq,Nat.reduceEqDiff,aK,hb2,AV.cells]
  ·intro q hq
   subst hrest
   obtain ⟨a2,a3⟩:=hdis q hq
   simp only [bf,bA,Mem.ao,Mem.aM,Mem.aQ,Mem.aX,bY,cf,List.cons_append,List.nil_append,List.append_nil,↓reduceIte,eq_self,and_true,true_and,and_self,and_false,false_and,reduceCtorEq,Oid.sub.injEq,Nat.reduceEqDiff,aK,hb2,a2]
   exact a3
 ·rintro y l0 pre xs L1 ⟨fr,m,c,ds⟩ ⟨_,l,v,L2,rfl,hr,rfl⟩ _ ⟨hlen,_,_⟩ hyr hyg ⟨h,rfl,h5,h2,hm,rfl,hc,hb2⟩
  simp only at h5 h2 hm hc
  refine SF (acD [(5,.str h),(2,.ptr (.sub 0 0 x.p) 0)] rfl (by simp [h5,h2]) (nK _ hm (tT fun hf=>?_)))
  replace hng:=hyg
  have hfy:∀ j,Mem.of ((Oid.sub 0 0 x.p,aj.cells [v])::L2) (.sub c j y.p)=none:=fun j=>hf _ ⟨c,j,Nat.le_refl _,Oid.az _⟩
  clear hf
  have hb3:¬ x.p=y.p:=fun e=>hb2 e.symm
  rcases hr with ⟨rfl,rfl,rfl⟩|⟨hl,id,rfl,rfl,hid⟩
  ·(repeat (first|(refine aB rfl rfl ?_)|(refine aC rfl rfl ?_)|(refine ay nmd [] hng (by kernel_rfl) fun hf C S K hC1 hC hS hK=>?_;simp (disch:=first|omega|assumption) only [go_sem];refine hK ?_;clear hK hS hC hC1 K S C hf)|((first|refine zv ?_|refine zw ?_|refine zu ?_);with_reducible (constructor;repeat constructor);try refine zl ?_)))
   refine iB ?_
   (repeat (first|(refine aB rfl rfl ?_)|(refine aC rfl rfl ?_)|(refine ay nmd [] hng (by kernel_rfl) fun hf C S K hC1 hC hS hK=>?_;simp (disch:=first|omega|assumption) only [go_sem];refine hK ?_;clear hK hS hC hC1 K S C hf)|((first|refine zv ?_|refine zw ?_|refine zu ?_);with_reducible (constructor;repeat constructor);try refine zl ?_)))
   refine ay nmd [] hng (by kernel_rfl) fun hf C S K hC1 hC hS hK=>?_;simp (disch:=first|omega|assumption) only [go_sem,aK,hb2,hb3,SA]
   refine hK ?_;clear hK hS hC hC1 K S C hf
   (try ((first|refine zn ?_|refine ze ?_|refine zk ?_);with_reducible (constructor;repeat constructor));try refine zl ?_)
   refine bC ⟨[(.sub 0 0 x.p,.cells [.sl (.sub c 3 y.p) 1 1]),(.sub c 3 y.p,.arr 1 [.str h])],⟨rfl,[h],_,_,rfl,.inr ⟨by simp,.sub c 3 y.p,rfl,rfl,fun e=>by simp at e⟩,rfl⟩,?_,?_⟩
   ·simp only [bf,bA,Mem.ao,Mem.aM,Mem.aQ,Mem.aX,bY,cf,List.cons_append,List.nil_append,List.append_nil,↓reduceIte,eq_self,and_true,true_and,and_self,and_false,false_and,reduceCtorEq,Oid.sub.injEq,Nat.reduceEqDiff,hb2,hb3]
   ·intro q hq
    simp only [List.mem_cons,List.not_mem_nil,or_false] at hq
    rcases hq with rfl|rfl
    ·exact .inl ⟨_,List.mem_cons_self,rfl⟩
    ·exact .inr (Oid.ae (Oid.az _))
  ·simp only [List.length_map] at hlen
   have hi1:¬ Oid.sub c 3 y.p=id:=fun e=>by have:=hfy 3;rw [e] at this;simp only [Mem.ao,if_neg hid] at this;simp at this
   have hi2:¬ id=Oid.sub c 3 y.p:=fun e=>hi1 e.symm
   (repeat (first|(refine aB rfl rfl ?_)|(refine aC rfl rfl ?_)|(refine ay nmd [] hng (by kernel_rfl) fun hf C S K hC1 hC hS hK=>?_;simp (disch:=first|omega|assumption) only [go_sem];refine hK ?_;clear hK hS hC hC1 K S C hf)|((first|refine zv ?_|refine zw ?_|refine zu ?_);with_reducible (constructor;repeat constructor);try refine zl ?_)))
   refine iB ?_
   (repeat (first|(refine aB rfl rfl ?_)|(refine aC rfl rfl ?_)|(refine ay nmd [] hng (by kernel_rfl) fun hf C S K hC1 hC hS hK=>?_;simp (disch:=first|omega|assumption) only [go_sem];refine hK ?_;clear hK hS hC hC1 K S C hf)|((first|refine zv ?_|refine zw ?_|refine zu ?_);with_reducible (constructor;repeat constructor);try refine zl ?_)))
   refine ay nmd [] hng (by kernel_rfl) fun hf C S K hC1 hC hS hK=>?_;simp (disch:=first|omega|assumption) only [go_sem,aK,hb2,hb3,hid,hi1,hi2]
   refine hK ?_;clear hK hS hC hC1 K S C hf
   (try ((first|refine zn ?_|refine ze ?_|refine zk ?_);with_reducible (constructor;repeat constructor));try refine zl ?_)
   refine bC ⟨[(.sub 0 0 x.p,.cells [.sl (.sub c 3 y.p) 1 (l++[h]).length]),(.sub c 3 y.p,.arr 1 ((l++[h]).map .str))],⟨rfl,l++[h],_,_,by simp,.inr ⟨by simp,.sub c 3 y.p,rfl,rfl,fun e=>by simp at e⟩,rfl⟩,?_,?_⟩
   ·simp only [bf,bA,Mem.ao,Mem.aM,Mem.aQ,Mem.aX,bY,cf,List.cons_append,List.nil_append,List.append_nil,↓reduceIte,eq_self,and_true,true_and,and_self,and_false,false_and,reduceCtorEq,Oid.sub.injEq,Nat.reduceEqDiff,hb2,hb3,List.length_append,List.map_append,List.length_cons,List.length_nil,List.map_cons,List.map_nil]
   ·intro q hq
    simp only [List.mem_cons,List.not_mem_nil,or_false] at hq
    rcases hq with rfl|rfl
    ·exact .inl ⟨_,List.mem_cons_self,rfl⟩
    ·exact .inr (Oid.ae (Oid.az _))
 ·rintro pre L' m' hS ⟨_,l,v,L2,rfl,hr,rfl⟩ hL' hd hold hnm
  have hmx:=hL' _ List.mem_cons_self
  have hne:∀ q ∈ need,m' q.1=some q.2:=fun q hq=>hold q.1 q.2 (by rw [aK,if_neg (hnb q hq)];exact hcon q hq) (by simp only [List.mem_singleton];rintro q' rfl e;exact hnb q hq e.symm)
  refine nK ([(.sub 0 0 x.p,.cells [v]),(.sub (0+1+1) 0 x.p,.dfr)]++(L2++need)) (jR (B:=[(.sub 0 0 x.p,.cells [v]),(.sub (0+1+1) 0 x.p,.dfr)]) ?_ (jR (fun q hq=>hL' q (List.mem_cons_of_mem _ hq)) hne)) ?_
  ·intro q hq
   simp only [List.mem_cons,List.not_mem_nil,or_false] at hq
   rcases hq with rfl|rfl
   ·exact hmx
   ·exact hd
  have hnid:∀ id xs,L2=[(id,.arr 1 xs)]→(∀ q ∈ need,¬ q.1=id)∧¬ id = .sub 2 0 x.p:=fun id xs e=>by
   have h1:=hL' (id,.arr 1 xs) (by rw [e];exact List.mem_cons_of_mem _ List.mem_cons_self)
   simp only at h1
   refine ⟨fun q hq e1=>?_,fun e1=>?_⟩
   ·have h2:=hne q hq
    rw [e1,h1,Option.some.injEq] at h2
    exact hna q hq _ _ h2.symm
   ·rw [e1,hd] at h1;cases h1
  have hrow2:sS l v L2 (Oid.under x.p):=by
   rcases hr with hr|⟨hl,id,rfl,rfl,hid⟩
   ·exact .inl hr
   ·refine .inr ⟨hl,id,rfl,rfl,?_⟩
    rcases hnm _ (List.mem_cons_of_mem _ List.mem_cons_self) with ⟨q',h1,h2⟩|⟨q',h1,h2⟩|h
    ·exact absurd h2 ((hnid id _ rfl).1 q' h1)
    ·simp only [List.mem_singleton] at h1
     subst h1
     exact absurd h2.symm hid
    ·exact Oid.ae h
  have hin:∀ q ∈ L2++need,¬ q.1 = .sub 0 0 x.p∧¬ q.1 = .sub 2 0 x.p∧Mem.of (L2++need) q.1=some q.2:=by
   have hn2:∀ q ∈ need,¬ q.1 = .sub 2 0 x.p:=fun q hq e=>hnp q hq (e ▸ Oid.ae (Oid.az _))
   rcases hr with ⟨_,_,rfl⟩|⟨_,id,_,rfl,hid⟩
   ·exact fun q hq=>⟨hnb q hq,hn2 q hq,hcon q hq⟩
   ·intro q hq
    rcases List.mem_append.1 hq with hq|hq
    ·simp only [List.mem_singleton] at hq
     subst hq
     exact ⟨hid,(hnid id _ rfl).2,by rw [List.cons_append,Mem.ao,if_pos rfl]⟩
    ·exact ⟨hnb q hq,hn2 q hq,by rw [List.cons_append,Mem.ao,if_neg ((hnid id _ rfl).1 q hq)];exact hcon q hq⟩
  generalize hrest:L2++need=rest
  (repeat (first|(refine aB rfl rfl ?_)|(refine aC rfl rfl ?_)|(refine ay nmd [] hng (by kernel_rfl) fun hf C S K hC1 hC hS hK=>?_;simp (disch:=first|omega|assumption) only [go_sem];refine hK ?_;clear hK hS hC hC1 K S C hf)|((first|refine zv ?_|refine zw ?_|refine zu ?_);with_reducible (constructor;repeat constructor);try refine zl ?_)))
  refine aE ?_
  subst hQ
  refine ⟨?_,_,jI L2,rfl,⟨l,L2,hS,?_,rfl⟩,?_⟩
  ·simp only [bf,bA,Mem.ao,Mem.aM,Mem.aQ,Mem.aX,bY,cf,List.cons_append,List.nil_append,List.append_nil,↓reduceIte,eq_self,and_true,true_and,and_self,and_false,false_and,reduceCtorEq,Oid.sub.injEq,Nat.reduceEqDiff,aK]
  ·exact hrow2
  ·intro i o h
   have:∃ q ∈ L2++need,q.1=i∧q.2=o:=by
    by_cases hk:∃ q ∈ jI L2,q.1=i
    ·obtain ⟨q',k1,k2,k3⟩:=gX (m:=Mem.of need) hk
     rw [k3] at h
     obtain ⟨q,h1,rfl⟩:=List.mem_map.1 k1
     exact ⟨q,List.mem_append_left _ h1,k2,Option.some.inj h⟩
    ·rw [aT fun q hq e=>hk ⟨q,hq,e⟩] at h
     obtain ⟨q,h1,h2,h3⟩:=Mem.dy h
     exact ⟨q,List.mem_append_right _ h1,h2,h3⟩
   obtain ⟨q,hq,rfl,rfl⟩:=this
   obtain ⟨a1,a2,a3⟩:=hin q hq
   show ((Mem.of ((Oid.sub 0 0 x.p,aj.cells [v])::(Oid.sub 2 0 x.p,aj.dfr)::rest)).set (.sub 2 0 x.p) none) q.1=some q.2
   subst hrest
   simp only [Mem.set,if_neg a2,Mem.ao,if_neg a1]
   exact a3
 ·rintro pre L' m' cd _ ⟨h,_⟩
  cases h
theorem sT (gf:FuncId) (cap:List AV) (need:List (Oid × aj)) (N:Nat) (Sq:Bool→List (List AV)→Prop) (hN:N≤2000000000000) (p:Oid) (hnp:∀ q ∈ need,¬ Oid.under p q.1) (hna:∀ q ∈ need,∀ sz xs,¬ q.2 = .arr sz xs)
  (hseq:∀ p',Oid.under p p'→nD Tryz.prog gf cap p' need 1 (fun pre xs=>pre.length < N∧∃ h:Str,xs=[.str h]) Sq) :
  b7 Tryz.prog 26 [.fn (.func gf) [] cap] (Oid.under p) need (fun v u=>∃ l L',Sq true (l.map fun h=>[.str h])∧sS l v L' (Oid.under p)∧u=jI L') (fun _ _=>False):=by
 refine eo (by kernel_rfl) fun hcon=>?_
 refine fZ (n:=5) (rs:=[.tmp 2]) Tryz.func26 rfl rfl (by decide) rfl rfl rfl ?_;rintro x rfl hrd hng
 refine qw0 ?_
 refine ay nmd [] hng (by kernel_rfl) fun hf C S K hC1 hC hS hK=>?_;simp (disch:=first|omega|assumption) only [go_sem]
 refine hC _ _ _ (py gf cap need N Sq hN _ (fun q hq h=>hnp q hq (Oid.ae h)) hna fun p' h=>hseq p' (Oid.ae h)) hcon ?_ (fun _ _ h=>h.elim)
 rintro val upd ⟨l,L',hSq,hr,rfl⟩
 simp (disch:=first|omega|assumption) only [go_sem]
 refine hK ?_;clear hK hS hC hC1 K S C hf
 (try ((first|refine zn ?_|refine ze ?_|refine zk ?_);with_reducible (constructor;repeat constructor));try refine zl ?_)
 refine aE (bm _ _ rfl ⟨l,L',hSq,hr.mono fun _ h=>Oid.ae h,rfl⟩ ?_)
 intro i o h
 rw [Mem.aQ] at h;exact h
theorem str_inj {a b:List Str} (e:a.map (fun h=>[AV.str h])=b.map fun h=>[AV.str h]):a=b:=(List.map_inj_right (fun x y h=>by simpa using h)).1 e
theorem oa (gf:FuncId) (cap:List AV) (need:List (Oid × aj)) (N:Nat) (l0:List Str) (Sq:Bool→List (List AV)→Prop) (hN:N≤2000000000000) (hl0:l0.length≤N) (p:Oid) (hnp:∀ q ∈ need,¬ Oid.under p q.1) (hna:∀ q ∈ need,∀ sz xs,¬ q.2 = .arr sz xs)
  (hseq:∀ p',Oid.under p p'→nD Tryz.prog gf cap p' need 1 (fun pre xs=>pre.length < N∧∃ h:Str,xs=[.str h]) Sq)
  (hall:∀ l:List Str,Sq true (l.map fun h=>[.str h])→l.Perm l0) :
  aq Tryz.prog 137 [.fn (.func gf) [] cap] (Oid.under p) ⟨need,.list 1 ((cz l0).map .str),[]⟩:=by
 refine (eo (by kernel_rfl) fun hcon=>?_:b7 Tryz.prog _ _ _ need (fun v u=>v=_∧u=[]) (fun _ _=>False)).ok
 refine fZ (n:=9) (rs:=[.tmp 2]) Tryz.func137 rfl rfl (by decide) rfl rfl rfl ?_;rintro x rfl hrd hng
 refine qw0 ?_
 refine ay nmd [] hng (by kernel_rfl) fun hf C S K hC1 hC hS hK=>?_;simp (disch:=first|omega|assumption) only [go_sem]
 refine hC _ _ _ (sT gf cap need N Sq hN _ (fun q hq h=>hnp q hq (Oid.ae h)) hna fun p' h=>hseq p' (Oid.ae h)) hcon ?_ (fun _ _ h=>h.elim)
 rintro val upd ⟨l,L',hSq,hr,rfl⟩
 have hp:=hall l hSq
 have hse:cz l=cz l0:=nf hp
 rcases hr with ⟨rfl,rfl,rfl⟩|⟨hl,id,rfl,rfl,hid⟩
 ·simp (disch:=first|omega|assumption) only [go_sem,jI,List.map_nil]
  refine hK ?_;clear hK hS hC hC1 K S C hf
  (repeat (first|(refine aB rfl rfl ?_)|(refine aC rfl rfl ?_)|(refine ay nmd [] hng (by kernel_rfl) fun hf C S K hC1 hC hS hK=>?_;simp (disch:=first|omega|assumption) only [go_sem];refine hK ?_;clear hK hS hC hC1 K S C hf)|((first|refine zv ?_|refine zw ?_|refine zu ?_);with_reducible (constructor;repeat constructor);try refine zl ?_)))
  refine qr1 (ri _) ?_
  refine lW ?_
  refine uN 3 1 rfl ?_
  refine qw0 ?_
  exact aE (bm (.list 1 ((cz l0).map .str)) [] (by rw [← hse,show cz []=[] by simp [cz]];rfl) ⟨rfl,rfl⟩ fun _ _ h=>h)
 ·have hid2:=Oid.ae hid
  have hnid:∀ q ∈ need,¬ q.1=id:=fun q hq e=>hnp q hq (e ▸ hid2)
  simp (disch:=first|omega|assumption) only [go_sem,jI,List.map_cons,List.map_nil]
  refine hK ?_;clear hK hS hC hC1 K S C hf
  (repeat (first|(refine aB rfl rfl ?_)|(refine aC rfl rfl ?_)|(refine ay nmd [] hng (by kernel_rfl) fun hf C S K hC1 hC hS hK=>?_;simp (disch:=first|omega|assumption) only [go_sem];refine hK ?_;clear hK hS hC hC1 K S C hf)|((first|refine zv ?_|refine zw ?_|refine zu ?_);with_reducible (constructor;repeat constructor);try refine zl ?_)))
  have hlen:l.length≤2000000000000:=by rw [hp.length_eq];omega
  refine ay nmd [] hng (by kernel_rfl) fun hf C S K hC1 hC hS hK=>?_;simp (disch:=first|omega|assumption) only [go_sem]
  refine hC1 _ (sQ l hl (by omega) id _) (by simp (disch:=first|omega|assumption) only [go_sem,aK]) ?_
  simp (disch:=first|omega|assumption) only [go_sem]
  refine hK ?_;clear hK hS hC hC1 K S C hf
  refine lW ?_
  refine qC id 1 ((cz l).map .str) (by simp (disch:=first|omega|assumption) only [go_sem,aK]) ?_
  simp (disch:=first|omega|assumption) only [go_sem,jP]
  refine qw0 ?_
  refine aE (bm (.list 1 ((cz l0).map .str)) [] (by rw [← hse];rfl) ⟨rfl,rfl⟩ fun i o h=>?_)
  have h':Mem.of need i=some o:=h
  have hi:¬ i=id:=fun e=>by obtain ⟨q,h1,h2,h3⟩:=Mem.dy h';exact hnid q h1 (h2.trans e)
  rw [aK,if_neg hi,aK,if_neg hi,aK,if_neg hi];exact h'
def ko (n:Str) (es:List ME):List Str:=es.filterMap fun e=>cA n (dN e)
theorem A2 (o:Oid) (n:Str) (p:Oid) (ho:¬ Oid.under p o):aq Tryz.prog 242 [.map o,.str n] (Oid.under p) ⟨[],.fn (.func 274) [] [.ptr (.sub 0 0 p) 0,.ptr (.sub 0 1 p) 0],[(.sub 0 0 p,some (.cells [.map o])),(.sub 0 1 p,some (.cells [.str n]))]⟩:=by
 refine aV (n:=6) (rs:=[.tmp 4]) Tryz.func242 rfl rfl (by decide) rfl rfl rfl ?_;rintro x rfl hrd hng
 refine qw0 ?_
 refine aE (bm _ _ rfl ⟨rfl,rfl⟩ ?_)
 intro i o' h
 rw [Mem.aQ] at h
 exact h
theorem mw (o:Oid) (n:Str) (hln:n.length≤140737488355000) (es:List ME) (clock:Nat) (hkl:∀ e ∈ es,(dN e).length≤140737488355328) (hel:es.length≤2000000000000) (p:Oid) (ho:¬ Oid.under p o) :
  aq Tryz.prog 210 [.map o,.str n] (Oid.under p) ⟨[(o,.map [.ss] false es clock)],.list 1 ((cz (ko n es)).map .str),[]⟩:=by
 refine aV (n:=9) (rs:=[.tmp 4]) Tryz.func210 rfl rfl (by decide) rfl rfl rfl ?_;rintro x rfl hrd hng
 have hu12:∀ j,Oid.under (.sub 1 2 x.p) (.sub 0 j (.sub 1 2 x.p)):=fun j=>Oid.ae (Oid.az _)
 have hapt:∀ j p',Oid.under (.sub 1 3 x.p) p'→¬ Oid.under p' (.sub 0 j (.sub 1 2 x.p)):=fun j p' h h2=>by
  have:=(Oid.apart (Oid.ee h h2) (hu12 j)).2
  omega
 refine qw0 ?_
 refine ay nmd [] hng (by kernel_rfl) fun hf C S K hC1 hC hS hK=>?_;simp (disch:=first|omega|assumption) only [go_sem]
 refine hC1 _ (A2 o n _ (fun h=>ho (Oid.ae h))) qs0 ?_
 simp (disch:=first|omega|assumption) only [go_sem]
 refine hC1 _ (oa 274 [.ptr (.sub 0 0 (.sub 1 2 x.p)) 0,.ptr (.sub 0 1 (.sub 1 2 x.p)) 0] [(.sub 0 0 (.sub 1 2 x.p),.cells [.map o]),(.sub 0 1 (.sub 1 2 x.p),.cells [.str n]),(o,.map [.ss] false es clock)] es.length (ko n es) _ hel (List.length_filterMap_le _ _) _ ?_ ?_
  (fun p' hp=>xc (.sub 0 0 (.sub 1 2 x.p)) (.sub 0 1 (.sub 1 2 x.p)) o n hln es clock hkl p' ?_ ?_ ?_ ?_ ?_ ?_) ?_) ?_ ?_
 ·intro q hq
  simp only [List.mem_cons,List.not_mem_nil,or_false] at hq
  rcases hq with rfl|rfl|rfl
  ·exact hapt 0 _ (Oid.az _)
  ·exact hapt 1 _ (Oid.az _)
  ·exact fun h=>ho (Oid.ae h)
 ·intro q hq
  simp only [List.mem_cons,List.not_mem_nil,or_false] at hq
  rcases hq with rfl|rfl|rfl<;>(intro sz xs e;cases e)
 ·exact fun e=>ho (e ▸ Oid.ae (hu12 0))
 ·exact fun e=>ho (e ▸ Oid.ae (hu12 1))
 ·simp
 ·exact hapt 0 _ hp
 ·exact hapt 1 _ hp
 ·exact fun h=>ho (Oid.ae (Oid.ee hp h))
 ·intro l hl
  obtain ⟨U,h1,h2⟩:=hl rfl
  rw [str_inj h2]
  exact h1.filterMap _
 ·have h0:=fun j=>Oid.ab (fun h=>ho (Oid.ae h):¬ Oid.under (.sub 1 2 x.p) o) 0 j
  have h1:=fun j=>Oid.aa (fun h=>ho (Oid.ae h):¬ Oid.under (.sub 1 2 x.p) o) 0 j
  simp only [bf,bA,Mem.ao,Mem.aM,Mem.aQ,Mem.aX,bY,cf,List.cons_append,List.nil_append,List.append_nil,↓reduceIte,eq_self,and_true,true_and,and_self,and_false,false_and,reduceCtorEq,Oid.sub.injEq,Nat.reduceEqDiff,aK,h0,h1]
 ·simp (disch:=first|omega|assumption) only [go_sem]
  refine hK ?_;clear hK hS hC hC1 K S C hf
  refine qw0 ?_
  refine aE (bm _ _ rfl ⟨rfl,rfl⟩ fun i o' h=>?_)
  have h':Mem.of [(o,aj.map [.ss] false es clock)] i=some o':=h
  rw [Mem.ao] at h'
  split at h'
  ·rename_i e
   subst e
   have h0:=fun j=>Oid.ab (fun h=>ho (Oid.ae h):¬ Oid.under (.sub 1 2 x.p) i) 0 j
   have h1:=fun j=>Oid.aa (fun h=>ho (Oid.ae h):¬ Oid.under (.sub 1 2 x.p) i) 0 j
   simp only [bf,bA,Mem.ao,Mem.aM,Mem.aQ,Mem.aX,bY,cf,List.cons_append,List.nil_append,List.append_nil,↓reduceIte,eq_self,and_true,true_and,and_self,and_false,false_and,reduceCtorEq,Oid.sub.injEq,Nat.reduceEqDiff,aK,h0,h1]
   exact h'
  ·cases h'
end Go.Proofs.YtngffmnomciogaaGreatDoor
namespace Go.Proofs.YtngffmnomciogaaGreatDoor
open Go Go.Ab
theorem dW:∀ (k n:Nat),n < 10 ^ (k+1)→(Lib.decDigits n).length≤k+1
 | 0,n,h=>by rw [bG (by simpa using h)];simp
 | k+1,n,h=>by
  by_cases hs:n < 10
  ·rw [bG hs];simp
  ·rw [dT hs,List.length_append]
   have:=dW k (n / 10) (by rw [Nat.pow_succ] at h;omega)
   simp only [List.length_cons,List.length_nil];omega
theorem xe (n:Nat):∀ b,b ∈ Lib.decDigits n→¬ b=58:=by
 have one:∀ d,d < 10→¬ UInt8.ofNat (48+d)=58:=fun d hd e=>by
  have h1:=congrArg UInt8.toNat e
  rw [UInt8.toNat_ofNat'] at h1
  have:(58:UInt8).toNat=58:=rfl
  omega
 induction n using Nat.strongRecOn with
 | ind n ih =>
  intro b hb
  by_cases h:n < 10
  ·rw [bG h,List.mem_singleton] at hb;subst hb;exact one n h
  ·rw [dT h] at hb
   rcases List.mem_append.1 hb with hb|hb
   ·exact ih _ (by omega) b hb
   ·rw [List.mem_singleton] at hb;subst hb;exact one _ (by omega)
theorem A3 (u:Str):∀ t:Str,(∀ b,b ∈ t→¬ b=58)→Lib.indexByte (t++58::u) 58=t.length
 | [],_=>by simp [Lib.indexByte]
 | b::t,h=>by
  have hb:(b == 58)=false:=by simpa using h b (by simp)
  have ih:=A3 u t fun b hb=>h b (by simp [hb])
  simp only [List.cons_append,Lib.indexByte,hb,Bool.false_eq_true,if_false,ih,beq_iff_eq]
  rw [if_neg (by omega),List.length_cons];omega
theorem ib {n:Nat} (h:n < 1000000000):gM (Lib.decDigits n)=n:=by
 have hl:=dW 8 n h
 rw [gM,if_neg,l8]
 rintro (h|h|⟨h,h'⟩)
 ·exact kh n h
 ·omega
 ·have:=kN n h
  subst this
  rw [bG (by decide)] at h'
  simp at h'
theorem sU (s t:Str) (hs:s.length < 1000000000):q8 (chunk s++t)=(q8 t).map (s::·):=by
 have he:chunk s++t=Lib.decDigits s.length++58::(s++44::t):=by
  rw [chunk,Lib.itoa_nonneg];simp only [List.append_assoc,List.singleton_append,List.cons_append,List.nil_append]
 have hi:=A3 (s++44::t) _ (xe s.length)
 have hne:¬ chunk s++t=[]:=fun e=>by rw [he] at e;simp at e
 have hcol:colon (chunk s++t)=(Lib.decDigits s.length).length:=by rw [colon,he,hi];rfl
 have hhead:kP (chunk s++t)=Lib.decDigits s.length:=by rw [kP,hcol,he,List.take_left'];rfl
 have hrest:iS (chunk s++t)=s++44::t:=by
  rw [iS,hcol,he,← List.drop_drop,List.drop_left'];· rfl
  ·rfl
 obtain ⟨n1,n2⟩:=jM (kP (chunk s++t))
 rw [hhead,ib hs] at n1 n2
 have hg:ew (kP (chunk s++t))=true:=by rw [hhead,n1];simp
 have ha:bu (kP (chunk s++t))=s.length:=by rw [hhead];exact n2 (by rw [← hhead];exact hg)
 have hsz:kQ (chunk s++t)=s.length:=by rw [kQ,ha];rfl
 have hok:okS (chunk s++t):=by
  refine ⟨by rw [he,hi];omega,hg,by rw [ha,hrest];simp;omega,?_⟩
  rw [hsz,hrest];simp
 rw [wY hne hok,hsz,hrest]
 have h1:(s++44::t).take s.length=s:=by rw [List.take_left'];rfl
 have h2:(s++44::t).drop (s.length+1)=t:=by
  rw [← List.drop_drop,List.drop_left'];· rfl
  ·rfl
 rw [h1,h2]
theorem rn:∀ l:List Str,(∀ s,s ∈ l→s.length < 1000000000)→q8 (b5 l)=some l
 | [],_=>rfl
 | s::l,h=>by
  rw [b5,sU s _ (h s (by simp)),rn l fun s hs=>h s (by simp [hs])];rfl
theorem pz (b:Bits) (h1:1≤b.k∧b.k≤3) (h2:0≤b.m∧b.m≤7) (h3:¬ (b.k=2∧¬ b.l=[])) (h4:b.l.length < 1000000000):kj (cN b)=(b,0):=by
 obtain ⟨k,m,l⟩:=b
 simp only at h1 h2 h3 h4
 obtain ⟨k,rfl⟩:=Int.eq_ofNat_of_zero_le (by omega:0≤k)
 obtain ⟨m,rfl⟩:=Int.eq_ofNat_of_zero_le h2.1
 have hv:cN ⟨k,m,l⟩=b5 [Lib.decDigits k,Lib.decDigits m,l]:=by
  rw [cN,if_neg (by simp only;omega),Lib.itoa_nonneg,Lib.itoa_nonneg]
 have hne:¬ cN ⟨k,m,l⟩=[]:=fun e=>by
  rw [hv] at e
  have:=congrArg List.length e
  have hc:=dU (Lib.decDigits k)
  simp only [b5,List.length_append,List.length_nil] at this
  omega
 have hd:q8 (cN ⟨k,m,l⟩)=some [Lib.decDigits k,Lib.decDigits m,l]:=by
  rw [hv]
  refine rn _ fun s hs=>?_
  have d1:=dW 0 k (by omega)
  have d2:=dW 0 m (by omega)
  simp only [List.mem_cons,List.not_mem_nil,or_false] at hs
  rcases hs with rfl|rfl|rfl<;>omega
 have hk:=ib (n:=k) (by omega)
 have hm:=ib (n:=m) (by omega)
 have hC:sO (cN ⟨k,m,l⟩) (Lib.decDigits k) (Lib.decDigits m) l=true:=AG.2 ⟨by rw [hk];omega,by rw [hk];omega,by rw [hm];omega,by rw [hm];omega,by rw [hk];exact h3,by rw [hk,hm]⟩
 rw [kj,if_neg hne,hd]
 simp only
 rw [RG,if_pos hC,hk,hm]
end Go.Proofs.YtngffmnomciogaaGreatDoor
namespace Go.Proofs.YtngffmnomciogaaGreatDoor
open Go Go.Ab
set_option maxRecDepth 20000
set_option maxHeartbeats 4000000
theorem ni (st t:Oid) (es:List ME) (clock:Nat) (hts:¬ t=st) (p:Oid) (hs:¬ Oid.under p st) (ht:¬ Oid.under p t) (n:Str) (hln:n.length≤140737488355000) (hkl:∀ e ∈ es,(dN e).length≤140737488355328) (hel:es.length≤2000000000000) :
  aq Tryz.prog 149 [.ptr st 0,.str n] (Oid.under p) ⟨[(st,.cells [.map t,.nilPtr]),(t,.map [.ss] false es clock)],.list 1 ((cz (ko n es)).map .str),[]⟩:=by
 have hs':∀ c i,¬ Oid.under (.sub c i p) st:=fun c i h=>hs (Oid.ae h)
 have ht':∀ c i,¬ Oid.under (.sub c i p) t:=fun c i h=>ht (Oid.ae h)
 refine aV (n:=15) (rs:=[.tmp 4]) Tryz.func149 rfl rfl (by decide) rfl rfl rfl ?_;rintro x rfl hrd hng
 refine qw (ai (uu ht) (ai (uu hs) hts)) ?_
 refine qr .o (ai (uu ht) (ai (uu hs) hts)) (cq (tM st t _ (hs' _ _) n true) trivial) ?_
 refine qr .o (ai (uu ht) (ai (uu hs) hts)) (cq (mw t n hln es clock hkl hel _ (ht' _ _)) trivial) ?_
 refine qw (ai (uu ht) (ai (uu hs) hts)) ?_
 refine aE (aS rfl ?_ ?_)
 all_goals simp only [List.mem_cons,List.not_mem_nil,or_false,forall_eq_or_imp,forall_eq,Option.some.injEq,forall_eq',Mem.ao,eq_self,if_true,↓reduceIte,reduceCtorEq,implies_true,not_true_eq_false,false_imp_iff,true_and,and_true,false_and,and_false,imp_self,Oid.ab ht,Oid.aa ht,Oid.ab hs,Oid.aa hs,hts]
end Go.Proofs.YtngffmnomciogaaGreatDoor
namespace Go.Ab
section
variable {P:Program} [Laid P] {x:Ctx} {n:Nat} {Q:AX→AS→Prop} {fr:List (Nat × AV)} {m:Mem} {c:Nat} {ds:List AD} {ks:List Pc}
theorem ax.cells {x:Ctx} {g:Gh} {m:Mem} {w:World} (h:ax x g m w) {i:Oid} {vs ws:List AV} (hi:m i=some (.cells vs)) (hw:eI vs ws):ax x g (m.set i (some (.cells ws))) w:=by
 obtain ⟨b,hb,_,_,cc,t,fz,h1,h2,h3,h4⟩:=h.obj i _ hi
 exact h.fS hi hb rfl rfl ⟨rfl,Nat.le_refl _⟩ (Nat.le_refl _) (fun _ _ _=>rfl) (fun r hr=>h.rows b r hr) (fun _ t' fz' h9=>⟨_,_,h9⟩)
  ⟨cc,t,fz,h1,h2.trans hw.length,h3,fun j hj=>hw.at j _ _ (h4 j (by rw [hw.length];exact hj))⟩
def Gho (x:Ctx) (n:Nat) (R:AS→Prop) (s:AS):Prop:=∀ g a w,Rel x n g s a w→∃ g' s',Rel x n g' s' a w∧R s'
theorem Gho.now {R:AS→Prop} {s:AS} (h:R s):Gho x n R s:=fun g _ _ hr=>⟨g,s,hr,h⟩
theorem Gho.step {R:AS→Prop} {s s':AS} (hg:∀ g a w,Rel x n g s a w→∃ g',Rel x n g' s' a w) (h:Gho x n R s'):Gho x n R s:=fun g a w hr=>let ⟨g',hr'⟩:=hg g a w hr;h g' a w hr'
theorem abS {b:Code} {R:AS→Prop} {s:AS} (h:Gho x n R s) (h2:∀ s,R s→T P x n b s Q):T P x n b s Q:=fun g a w hr=>let ⟨g',_,hr',hR⟩:=h g a w hr;h2 _ hR g' a w hr'
theorem Rel.cells {g:Gh} {a:Act} {w:World} (hr:Rel x n g ⟨fr,m,c,ds⟩ a w) (i:Oid) (vs ws:List AV) (hi:m i=some (.cells vs)) (hw:eI vs ws):∃ g',Rel x n g' ⟨fr,m.set i (some (.cells ws)),c,ds⟩ a w :=
 ⟨g,hr.mr.cells hi hw,hr.tm,hr.df,hr.fr,hr.young⟩
theorem RY {R:AS→Prop} (i:Oid) (vs ws:List AV) (hi:m i=some (.cells vs)) (hw:eI vs ws) (h:Gho x n R ⟨fr,m.set i (some (.cells ws)),c,ds⟩):Gho x n R ⟨fr,m,c,ds⟩ :=
 Gho.step (s:=⟨fr,m,c,ds⟩) (s':=⟨fr,m.set i (some (.cells ws)),c,ds⟩) (fun _ _ _ hr=>hr.cells i vs ws hi hw) h
theorem Rel.freeze {g:Gh} {a:Act} {w:World} (hr:Rel x n g ⟨fr,m,c,ds⟩ a w) (i:Oid) (sz:Nat) (xs:List AV) (hi:m i=some (.arr sz xs)) :
  ∃ g',Rel x n g' ⟨frz i sz xs fr,m.set i none,c,ds⟩ a w∧g.le g'∧g'.loc=g.loc∧∀ v u,VR g v u→VR g' (mY i sz xs v) u:=by
 obtain ⟨g',h1,h2,h3,h4⟩:=hr.mr.freeze hi
 have key:∀ v u,VR g v u→VR g' (mY i sz xs v) u:=fun v u hv=>by
  unfold mY
  split
  ·split
   ·rename_i e
    obtain ⟨rfl,rfl,rfl⟩:=e
    have:=h4 _ _ hv (Nat.le_refl _)
    rwa [List.take_length] at this
   ·exact hv.mono h1
  ·exact hv.mono h1
 exact ⟨g',⟨h3,hr.tm,hr.df.mono h1,fun t ht=>by rw [tE];exact key _ _ (hr.fr t ht),fun k hk=>by rw [h2];exact hr.young k hk⟩,h1,by funext k;exact h2 k,key⟩
inductive Frz (i:Oid) (sz:Nat) (xs:List AV):List AV→List AV→Prop
 | nil:Frz i sz xs [] []
 | keep {v:AV} {vs ws:List AV} (h:Frz i sz xs vs ws):Frz i sz xs (v::vs) (v::ws)
 | fS {n:Nat} {vs ws:List AV} (hn:n=xs.length) (h:Frz i sz xs vs ws):Frz i sz xs (.sl i sz n::vs) (.list sz xs::ws)
theorem Frz.at {i:Oid} {sz:Nat} {xs vs ws:List AV} (h:Frz i sz xs vs ws):vs.length=ws.length∧∀ j,ws.getD j .undef=vs.getD j .undef∨ws.getD j .undef=mY i sz xs (vs.getD j .undef):=by
 induction h with
 | nil=>exact ⟨rfl,fun _=>.inl rfl⟩
 | keep _ ih =>
  refine ⟨by simp [ih.1],fun j=>?_⟩
  cases j with
  | zero=>exact .inl rfl
  | succ j=>simpa using ih.2 j
 | fS hn _ ih =>
  refine ⟨by simp [ih.1],fun j=>?_⟩
  cases j with
  | zero=>right;simp [mY,hn]
  | succ j=>simpa using ih.2 j
theorem Rel.tU {g:Gh} {a:Act} {w:World} (hr:Rel x n g ⟨fr,m,c,ds⟩ a w) (i j:Oid) (sz:Nat) (xs vs ws:List AV) (hi:m i=some (.arr sz xs)) (hj:m j=some (.cells vs)) (hij:¬ j=i) (hw:Frz i sz xs vs ws) :
  ∃ g',Rel x n g' ⟨frz i sz xs fr,(m.set i none).set j (some (.cells ws)),c,ds⟩ a w:=by
 obtain ⟨g',hr',h1,h2,key⟩:=hr.freeze i sz xs hi
 refine ⟨g',?_,hr'.tm,hr'.df,hr'.fr,hr'.young⟩
 obtain ⟨b',hb,_,_,cc,t,fz,k1,k2,k3,k4⟩:=hr.mr.obj j _ hj
 have hj':(m.set i none) j=some (.cells vs):=by simp only [Mem.set,if_neg hij];exact hj
 have h3:=hr'.mr
 refine h3.fS hj' (by rw [h2];exact hb) rfl rfl ⟨rfl,Nat.le_refl _⟩ (Nat.le_refl _) (fun _ _ _=>rfl) (fun r hr'=>h3.rows b' r hr') (fun _ t' fz' h9=>⟨_,_,h9⟩)
  ⟨cc,t,fz,k1,k2.trans hw.at.1,k3,fun q hq=>?_⟩
 have k5:=k4 q (by rw [hw.at.1];exact hq)
 rcases hw.at.2 q with e|e<;>rw [e]
 ·exact k5.mono h1
 ·exact key _ _ k5
theorem xf {a:Code} (i j:Oid) (sz:Nat) (xs vs ws:List AV) (hi:m i=some (.arr sz xs)) (hj:m j=some (.cells vs)) (hij:¬ j=i) (hw:Frz i sz xs vs ws) (h:T P x n a ⟨frz i sz xs fr,(m.set i none).set j (some (.cells ws)),c,ds⟩ Q):T P x n a ⟨fr,m,c,ds⟩ Q :=
 iv (s:=⟨fr,m,c,ds⟩) ⟨frz i sz xs fr,(m.set i none).set j (some (.cells ws)),c,ds⟩ (fun _ _ _ hr=>hr.tU i j sz xs vs ws hi hj hij hw) h
theorem gh {R:AS→Prop} (i j:Oid) (sz:Nat) (xs vs ws:List AV) (hi:m i=some (.arr sz xs)) (hj:m j=some (.cells vs)) (hij:¬ j=i) (hw:Frz i sz xs vs ws) (h:Gho x n R ⟨frz i sz xs fr,(m.set i none).set j (some (.cells ws)),c,ds⟩):Gho x n R ⟨fr,m,c,ds⟩ :=
 Gho.step (s:=⟨fr,m,c,ds⟩) (s':=⟨frz i sz xs fr,(m.set i none).set j (some (.cells ws)),c,ds⟩) (fun _ _ _ hr=>hr.tU i j sz xs vs ws hi hj hij hw) h
theorem A4 {R:AS→Prop} (i:Oid) (sz:Nat) (xs:List AV) (hi:m i=some (.arr sz xs)) (h:Gho x n R ⟨frz i sz xs fr,m.set i none,c,ds⟩):Gho x n R ⟨fr,m,c,ds⟩ :=
 Gho.step (s:=⟨fr,m,c,ds⟩) (s':=⟨frz i sz xs fr,m.set i none,c,ds⟩) (fun _ _ _ hr=>let ⟨g',h',_⟩:=hr.freeze i sz xs hi;⟨g',h'⟩) h
def abT (P:Program) (x:Ctx) (n:Nat) (Q:AX→AS→Prop) (ks:List Pc) (ts:List Nat) (R:AS→Prop):AX→AS→Prop
 | .normal,s=>Gho x n (fun s=>∃ m',(∀ i o,m' i=some o→s.mem i=some o)∧R ⟨cb ts s.fr,m',s.c,s.ds⟩) s
 | e,s=>after P x n Q ks e s
theorem aas {a b:Code} {s:AS} (ts:List Nat) (R:AS→Prop) (h:T P x n a s (after P x n (abT P x n Q ks ts R) [])) (h2:∀ s,R s→T P x n b s (after P x n Q ks)):T P x n a s (after P x n Q (.code b::ks)) :=
 iV h fun e s h=>by
  cases e with
  | normal =>
   refine abS h fun s ⟨m',h1,h3⟩=>?_
   obtain ⟨fr',m1,c',ds'⟩:=s
   refine ju (s:=⟨fr',m1,c',ds'⟩) (cb ts fr') (fun t _=>lp ts fr' t) ?_
   exact oE (s:=⟨cb ts fr',m1,c',ds'⟩) m' h1 (h2 _ h3)
  | _=>exact h
theorem tV {ts:List Nat} {R:AS→Prop} (h:Gho x n (fun s=>∃ m',(∀ i o,m' i=some o→s.mem i=some o)∧R ⟨cb ts s.fr,m',s.c,s.ds⟩) ⟨fr,m,c,ds⟩):after P x n (abT P x n Q ks ts R) [] .normal ⟨fr,m,c,ds⟩:=h
def acG (x:Ctx) (n:Nat) (Q:AX→AS→Prop):AX→AS→Prop
 | .panic v,s=>Q (.panic v) s
 | e,s=>Gho x n (Q e) s
theorem mx {a:Code} {s:AS} (h:T P x n a s (after P x n (acG x n Q) [])):T P x n a s (after P x n Q []):=fun g b w hr =>
 wpIn_mono (h g b w hr) fun e b' w' ⟨g',ex,s',h1,h2,h3⟩=>by
  cases ex with
  | panic v=>exact ⟨g',.panic v,s',h1,h2,h3⟩
  | normal=>obtain ⟨g2,s2,k1,k2⟩:=h3 g' b' w' h1;exact ⟨g2,.normal,s2,k1,(by cases e<;>exact h2),k2⟩
  | ret=>obtain ⟨g2,s2,k1,k2⟩:=h3 g' b' w' h1;exact ⟨g2,.ret,s2,k1,(by cases e<;>exact h2),k2⟩
  | exit i=>obtain ⟨g2,s2,k1,k2⟩:=h3 g' b' w' h1;exact ⟨g2,.exit i,s2,k1,(by cases e<;>exact h2),k2⟩
end
theorem kZ.lx (sz:Nat):kZ .nilSl (.list sz []):=fun _ _ h=>by rw [h.bF];exact .listNil _
theorem eI.refl:∀ l:List AV,eI l l
 | []=>.nil
 | _::l=>.cons (.refl _) (eI.refl l)
end Go.Ab
namespace Go.Proofs.YtngffmnomciogaaGreatDoor
open Go Go.Ab
abbrev PL:=List (Str × Bits)
theorem gi (a b:UInt8) (x y:Str):ltS (a::x) (b::y)=true↔a.toNat < b.toNat∨(a.toNat=b.toNat∧ltS x y=true):=by
 simp only [ltS,Op.bytesLess,Bool.or_eq_true,Bool.and_eq_true,decide_eq_true_eq,beq_iff_eq,UInt8.lt_iff_toNat_lt,← UInt8.toNat_inj]
theorem oc:∀ a b c:Str,ltS a b=true→ltS b c=true→ltS a c=true
 | [],_,[],_,h=>by cases ‹Str› <;> simp [ltS,Op.bytesLess] at h
 | [],_,_::_,_,_=>rfl
 | _::_,[],_,h,_=>by simp [ltS,Op.bytesLess] at h
 | _::_,_::_,[],_,h=>by simp [ltS,Op.bytesLess] at h
 | a::x,b::y,c::z,h1,h2=>by
  rw [gi] at h1 h2 ⊢
  rcases h1 with h1|⟨h1,h3⟩<;>rcases h2 with h2|⟨h2,h4⟩
  ·exact .inl (by omega)
  ·exact .inl (by omega)
  ·exact .inl (by omega)
  ·exact .inr ⟨by omega,oc x y z h3 h4⟩
theorem tW:∀ a:Str,ltS a a=false
 | []=>rfl
 | a::x=>by
  have:=tW x
  rw [Bool.eq_false_iff] at this ⊢
  intro h
  rw [gi] at h
  rcases h with h|⟨_,h⟩
  ·omega
  ·exact this h
theorem tX:∀ a b:Str,ltS a b=false→ltS b a=false→a=b
 | [],[],_,_=>rfl
 | [],_::_,h,_=>by simp [ltS,Op.bytesLess] at h
 | _::_,[],_,h=>by simp [ltS,Op.bytesLess] at h
 | a::x,b::y,h1,h2=>by
  rw [Bool.eq_false_iff] at h1 h2
  have h3:=fun h=>h1 ((gi a b x y).2 h)
  have h4:=fun h=>h2 ((gi b a y x).2 h)
  have hab:a.toNat=b.toNat:=by
   rcases Nat.lt_trichotomy a.toNat b.toNat with h|h|h
   ·exact absurd (.inl h) h3
   ·exact h
   ·exact absurd (.inl h) h4
  have:=tX x y (by rw [Bool.eq_false_iff];exact fun h=>h3 (.inr ⟨hab,h⟩)) (by rw [Bool.eq_false_iff];exact fun h=>h4 (.inr ⟨hab.symm,h⟩))
  rw [this,UInt8.toNat_inj.1 hab]
theorem tY:∀ (p a b:Str),ltS (p++a) (p++b)=ltS a b
 | [],_,_=>rfl
 | c::p,a,b=>by
  have ih:=tY p a b
  rw [Bool.eq_iff_iff,List.cons_append,List.cons_append,gi,ih]
  constructor
  ·rintro (h|⟨_,h⟩)
   ·omega
   ·exact h
  ·exact fun h=>.inr ⟨rfl,h⟩
theorem sV:∀ {a b:Str},ltS a b=true→a < b
 | [],[],h=>by simp [ltS,Op.bytesLess] at h
 | [],_::_,_=>by simp
 | _::_,[],h=>by simp [ltS,Op.bytesLess] at h
 | a::x,b::y,h=>by
  rw [gi] at h
  rw [List.cons_lt_cons_iff,UInt8.lt_iff_toNat_lt,← UInt8.toNat_inj]
  exact h.imp id fun ⟨h1,h2⟩=>⟨h1,sV h2⟩
def ltB (a b:Str):Prop:=ltS a b=true
instance:DecidableRel ltB:=fun a b=>inferInstanceAs (Decidable (ltS a b=true))
theorem eT:Ord ltB where
 irr a h:=by rw [ltB,tW] at h;cases h
 tr:=oc
 tot a b h hn:=by
  cases h2:ltS b a with
  | true=>exact h2
  | false=>exact absurd (tX a b (Bool.eq_false_iff.2 h) h2) hn
def aI (L:PL) (n:Str):Bits:=if n=[] then ⟨2,7,[]⟩ else (aH n L).getD Bits.no
def dX (n:Str) (b:Bits) (L:PL):PL:=if n=[] then L else cY ltB n (if b.k=0 then none else some b) L
def bc (L:PL) (n:Str):List Str:=L.filterMap fun q=>cA n q.1
def fL (es:List ME) (L:PL):Prop:=jl AV.str Bits.av es L
theorem encS:iQ AV.str:=w6
theorem A5:fL [] []:=AK
theorem my {es:List ME} {L:PL} (h:fL es L) (n:Str):fv (.str n) (.agg [.int .i64 0,.int .i64 0,.str []]) es=((aH n L).getD Bits.no).av:=by
 rw [rf encS h]
 cases aH n L<;>rfl
theorem rp {es:List ME} {L:PL} (h:fL es L) (hs:aN ltB L) (n:Str) (b:Bits) (c:Nat):fL (pd n b es c) (dX n b L):=by
 unfold pd dX
 split
 ·exact h
 ·split
  ·exact AM encS h n ((cg eT n none hs).trans (.refl _))
  ·exact ma encS h n b c ((cg eT n (some b) hs).trans (.refl _))
theorem eZ {L:PL} (hs:aN ltB L) (n:Str) (b:Bits):aN ltB (dX n b L):=by
 unfold dX
 split
 ·exact hs
 ·exact eY eT _ _ hs
theorem sW {k p:Str} (h:fw k p=true):k=p++k.drop p.length:=by
 simp only [fw,Bool.and_eq_true,decide_eq_true_eq] at h
 have:=List.take_append_drop p.length k
 rw [h.2] at this
 exact this.symm
theorem fD {n k r:Str} (h:cA n k=some r):k=(n++[47])++r:=by
 unfold cA at h
 split at h
 ·rename_i hc
  simp only [Option.some.injEq] at h
  have:=sW hc.1
  rw [← h]
  simpa using this
 ·cases h
theorem xg {L:PL} (hs:aN ltB L) (n:Str):(bc L n).Pairwise (· ≤ ·):=by
 unfold bc
 rw [List.pairwise_filterMap]
 refine hs.imp fun {a b} h r hr r' hr'=>?_
 rw [ltB,fD hr,fD hr',tY] at h
 exact List.le_of_lt (sV h)
theorem kp {es:List ME} {L:PL} (h:fL es L) (hs:aN ltB L) (n:Str):cz (ko n es)=bc L n:=by
 refine rj ?_ (xg hs n)
 obtain ⟨E,rfl,h2,_⟩:=h
 have h3:ko n (E.map (ji AV.str Bits.av))=(E.map prj).filterMap fun q=>cA n q.1:=by
  unfold ko
  rw [List.filterMap_map,List.filterMap_map]
  rfl
 rw [h3]
 exact h2.filterMap _
structure POk (L:PL):Prop where
 len:L.length≤1000000
 key:∀ q ∈ L,q.1.length≤1000000
 val:∀ q ∈ L,q.2.ok
theorem jS {es:List ME} {L:PL} (h:fL es L):es.length=L.length:=by
 obtain ⟨E,rfl,h2,_⟩:=h
 rw [List.length_map,← h2.length_eq,List.length_map]
theorem mz {es:List ME} {L:PL} (h:fL es L) (ho:POk L):∀ e ∈ es,(dN e).length≤1000000:=by
 obtain ⟨E,rfl,h2,_⟩:=h
 intro e he
 obtain ⟨q,h3,rfl⟩:=List.mem_map.1 he
 exact ho.key (prj q) (h2.mem_iff.1 (List.mem_map_of_mem h3))
theorem sX {L:PL} (ho:POk L) {n r:Str} (h:r ∈ bc L n):r.length≤1000000:=by
 obtain ⟨q,h1,h2⟩:=List.mem_filterMap.1 h
 have h3:=ho.key q h1
 rw [fD h2,List.length_append] at h3
 omega
theorem pA {l:List Str} {k:Nat} (hk:k≤4000000000) (h:∀ s ∈ l,s.length≤k):(b5 l).length≤l.length * (k+100):=by
 induction l with
 | nil=>simp [b5]
 | cons a l ih =>
  have h1:=ih fun s hs=>h s (List.mem_cons_of_mem _ hs)
  have h2:=h a List.mem_cons_self
  have h3:=dU a
  have h4:=Lib.itoa_length_le a.length (by omega) (by omega)
  simp only [b5,List.length_append,List.length_cons,Nat.add_mul,Nat.one_mul]
  omega
theorem jo {L:PL} (ho:POk L) (n:Str):(b5 (bc L n)).length≤100000000000000∧(bc L n).length≤1000000:=by
 have h1:=pA (k:=1000000) (by decide) fun s hs=>sX ho (n:=n) hs
 have h2:(bc L n).length≤L.length:=List.length_filterMap_le _ _
 have h3:=ho.len
 refine ⟨Nat.le_trans h1 ?_,by omega⟩
 have:(bc L n).length * (1000000+100)≤1000000 * (1000000+100):=Nat.mul_le_mul_right _ (by omega)
 omega
end Go.Proofs.YtngffmnomciogaaGreatDoor
namespace Go.Proofs.YtngffmnomciogaaGreatDoor
open Go Go.Ab
set_option maxRecDepth 20000
set_option maxHeartbeats 4000000
instance:Inhabited Bits:=⟨Bits.no⟩
def aG (q:Str × Bits):AV:=.agg [.str q.1,.int .i64 q.2.k,.int .i64 q.2.m,.str q.2.l]
theorem A6 (L:PL) (hL:L.length≤140737488355328) (n:Str) (p:Oid):aq Tryz.prog 142 [.list 4 (L.map aG),.str n] (Oid.under p) ⟨[],(aI L n).av,[]⟩:=by
 refine aV (n:=28) (rs:=[.cell 4 86]) Tryz.func142 rfl rfl (by decide) rfl rfl rfl ?_;rintro x rfl hrd hng
 refine qw0 ?_
 refine bs rfl rfl (fun hb=>?_) (fun hb=>?_)
 ·refine qw0 ?_
  exact aE (bz (by rw [aI,if_pos hb];simp (disch:=first|omega|assumption) only [go_sem,Bits.av]))
 ·refine qw0 ?_
  refine cE [0,1,4,5] (fun k s'=>∃ i c:Nat,k=L.length - i∧i≤L.length∧0 < c∧aH n L=aH n (L.drop i)∧s' = ⟨[(0,.list 4 (L.map aG)),(1,.str n),(4,.ptr (.sub 0 0 x.p) 0),(5,.int .i64 i)],Mem.of [(.sub 0 0 x.p,.cells [.int .i64 0,.int .i64 0,.str []])],c,[]⟩) _ ⟨0,_,rfl,Nat.zero_le _,by omega,rfl,rfl⟩ ?_
  rintro k s' ⟨i,c,rfl,hi,hc,hlk,rfl⟩
  have hc0:¬ c=0:=by omega
  refine qw0 ?_
  refine bs rfl rfl (fun hb=>?_) (fun hb=>?_)
  ·have hlt:i < L.length:=by omega
   rw [drop_cons hlt,aH] at hlk
   generalize hq:L.getD i default=q at hlk
   obtain ⟨qn,qk,qm,ql⟩:=q
   simp only at hlk
   (repeat (first|(refine aB rfl rfl ?_)|(refine aC rfl rfl ?_)|(refine ay nmd [] hng (by kernel_rfl) fun hf C S K hC1 hC hS hK=>?_;simp (disch:=first|omega|assumption) only [go_sem,hq,aG,AV.cells];refine hK ?_;clear hK hS hC hC1 K S C hf)|((first|refine zn ?_|refine ze ?_|refine zk ?_);with_reducible (constructor;repeat constructor);try refine zl ?_)))
   refine bs rfl rfl (fun hb=>?_) (fun hb=>?_)
   ·rw [if_pos hb.symm] at hlk
    (repeat (first|(refine aB rfl rfl ?_)|(refine aC rfl rfl ?_)|(refine ay nmd [] hng (by kernel_rfl) fun hf C S K hC1 hC hS hK=>?_;simp (disch:=first|omega|assumption) only [go_sem,hq,aG,AV.cells];refine hK ?_;clear hK hS hC hC1 K S C hf)|((first|refine zn ?_|refine ze ?_|refine zk ?_);with_reducible (constructor;repeat constructor);try refine zl ?_)))
    exact aE (bz (by rw [aI,if_neg (by assumption),hlk];simp (disch:=first|omega|assumption) only [go_sem,Bits.av,Bits.no,Option.getD_some,Option.getD_none,aH]))
   ·rw [if_neg (fun e=>hb e.symm)] at hlk
    refine qw0 ?_
    exact ⟨_,_,by omega,fun _ _ h=>h,i+1,_,rfl,by omega,by omega,hlk,rfl⟩
  ·have:i=L.length:=by omega
   subst this
   rw [List.drop_length] at hlk
   refine qw0 ?_
   exact aE (bz (by rw [aI,if_neg (by assumption),hlk];simp (disch:=first|omega|assumption) only [go_sem,Bits.av,Bits.no,Option.getD_some,Option.getD_none,aH]))
theorem tZ {k n:Str}:fw k (n++[47])=true↔n.length < k.length∧k.take n.length=n∧k.getD n.length 0=47:=by
 simp only [fw,Bool.and_eq_true,decide_eq_true_eq,List.length_append,List.length_cons,List.length_nil]
 constructor
 ·rintro ⟨h1,h2⟩
  have hlt:n.length < k.length:=by omega
  rw [Nat.zero_add,List.take_succ_eq_append_getElem hlt] at h2
  have h3:=List.append_inj h2 (by simp;omega)
  refine ⟨hlt,h3.1,?_⟩
  rw [bK hlt]
  simpa using h3.2
 ·rintro ⟨h1,h2,h3⟩
  refine ⟨by omega,?_⟩
  rw [bK h1] at h3
  rw [Nat.zero_add,List.take_succ_eq_append_getElem h1,h2,h3]
def noB (r:Str) (k:Nat):Bool:=(r.take k).all fun b=>decide (¬ b=47)
theorem A7 {r:Str} {k:Nat} (h:k < r.length):noB r (k+1)=(noB r k && decide (¬ r.getD k 0=47)):=by
 unfold noB
 rw [List.take_succ_eq_append_getElem h,List.all_append,bK h]
 simp
theorem rq (r:Str):noB r r.length=true↔¬ 0≤Lib.indexByte r 47:=by
 unfold noB
 rw [List.take_length,List.all_eq_true]
 rcases rb 47 r with ⟨h1,h2⟩|⟨i,h1,h2,h3,_⟩
 ·refine ⟨fun _=>by omega,fun _ b hb=>?_⟩
  obtain ⟨j,hj,rfl⟩:=List.mem_iff_getElem.1 hb
  have:=h2 j hj
  rw [bK hj] at this
  simpa using this
 ·refine ⟨fun h=>?_,fun h=>by omega⟩
  have:=h (r.getD i 0) (by rw [bK h2];exact List.getElem_mem h2)
  rw [h3] at this
  simp at this
theorem sY (n k:Str):cA n k=if n.length < k.length∧k.take n.length=n∧k.getD n.length 0=47 then (if noB (k.drop (n.length+1)) (k.drop (n.length+1)).length=true then some (k.drop (n.length+1)) else none) else none:=by
 unfold cA
 by_cases h1:fw k (n++[47])=true
 ·rw [if_pos (tZ.1 h1)]
  by_cases h2:noB (k.drop (n.length+1)) (k.drop (n.length+1)).length=true
  ·rw [if_pos h2,if_pos ⟨h1,(rq _).1 h2⟩]
  ·rw [if_neg h2,if_neg fun h=>h2 ((rq _).2 h.2)]
 ·rw [if_neg fun h=>h1 h.1,if_neg fun h=>h1 (tZ.2 h)]
end Go.Proofs.YtngffmnomciogaaGreatDoor
namespace Go.Proofs.YtngffmnomciogaaGreatDoor
open Go Go.Ab
set_option maxRecDepth 20000
set_option maxHeartbeats 4000000
theorem od (L:PL) (hL:POk L) (n:Str) (hn:n.length≤140737488355000) (p:Oid):aq Tryz.prog 208 [.list 4 (L.map aG),.str n] (Oid.under p) ⟨[],.list 1 ((bc L n).map AV.str),[]⟩:=by
 have hL1:=hL.len
 refine aV (n:=66) (rs:=[.tmp 4]) Tryz.func208 rfl rfl (by decide) rfl rfl rfl ?_;rintro x rfl hrd hng
 refine qw0 ?_
 refine sf 5 1 rfl ?_
 simp (disch:=first|omega|assumption) only [go_sem]
 refine cE [0,1,5,6] (fun k s'=>∃ (i d j c:Nat) (done:List Str),k=L.length - i∧i≤L.length∧d < c∧done.length≤i∧bc L n=done++bc (L.drop i) n ∧
   s' = ⟨[(0,.list 4 (L.map aG)),(1,.str n),(5,.sl (.sub d j x.p) 1 done.length),(6,.int .i64 i)],Mem.of [(.sub d j x.p,.arr 1 (done.map AV.str))],c,[]⟩) _ ⟨0,3,0,4,[],rfl,Nat.zero_le _,by omega,Nat.le_refl _,rfl,rfl⟩ ?_
 rintro k s' ⟨i,d,j,c,done,rfl,hi,hdc,hdl,hnm,rfl⟩
 refine qw0 ?_
 refine bs rfl rfl (fun hb=>?_) (fun hb=>?_)
 ·have hlt:i < L.length:=by omega
  have hkl:=hL.key (L.getD i default) (by rw [bK hlt];exact List.getElem_mem hlt)
  have hstep:bc (L.drop i) n=(cA n (L.getD i default).1).toList++bc (L.drop (i+1)) n:=by
   rw [drop_cons hlt,bc,List.filterMap_cons]
   cases cA n (L.getD i default).1<;>rfl
  rw [hstep,sY] at hnm
  generalize hq:L.getD i default=q at hnm hkl
  obtain ⟨s,qk,qm,ql⟩:=q
  simp only at hnm hkl
  (repeat (first|(refine aB rfl rfl ?_)|(refine aC rfl rfl ?_)|(refine ay nmd [] hng (by kernel_rfl) fun hf C S K hC1 hC hS hK=>?_;simp (disch:=first|omega|assumption) only [go_sem];refine hK ?_;clear hK hS hC hC1 K S C hf)|((first|refine zv ?_|refine zw ?_|refine zu ?_);with_reducible (constructor;repeat constructor);try refine zl ?_)))
  refine iB ?_
  (repeat (first|(refine aB rfl rfl ?_)|(refine aC rfl rfl ?_)|(refine ay nmd [] hng (by kernel_rfl) fun hf C S K hC1 hC hS hK=>?_;simp (disch:=first|omega|assumption) only [go_sem,hq,aG,AV.cells];refine hK ?_;clear hK hS hC hC1 K S C hf)|((first|refine zn ?_|refine ze ?_|refine zk ?_);with_reducible (constructor;repeat constructor);try refine zl ?_)))
  refine dE [0,1,5,6,7,41] (fun s'=>∃ (b:Bool),s' = ⟨[(0,.list 4 (L.map aG)),(1,.str n),(5,.sl (.sub d j x.p) 1 done.length),(6,.int .i64 i),(7,.str s),(41,.bool b)],Mem.of [(.sub d j x.p,.arr 1 (done.map AV.str))],c+1+1+1,[]⟩∧(b=false↔(n.length < s.length∧s.take n.length=n∧s.getD n.length 0=47))) ?_ ?_
  ·refine ay nmd [(5,27),(13,35)] hng (by kernel_rfl) fun hf C S K hC1 hC hS hK=>?_;simp (disch:=first|omega|assumption) only [go_sem]
   (repeat' (first|(refine bV (fun hv=>?_) (fun hv=>?_)<;>(try simp only [zb1,zb2,zb3,zb4,zb5] at hv)<;>simp (disch:=first|omega|assumption) only [go_sem,hv,Int.reduceEq,Int.reduceNe,ne_eq,not_true_eq_false,not_false_eq_true,decide_true,decide_false])|(refine hK ?_;clear hK hS hC hC1 K S C hf)))
   ·rename_i h1
    refine aR ⟨_,rfl,?_⟩
    simp only [decide_eq_false_iff_not,Classical.not_not] at hv ⊢
    exact ⟨fun h=>⟨by omega,hv,UInt8.toNat_inj.1 (by have:(47:UInt8).toNat=47:=rfl;omega)⟩,fun h=>by rw [h.2.2];rfl⟩
   ·exact aR ⟨_,rfl,⟨fun h=>(by cases h),fun h=>absurd h.2.1 hv⟩⟩
   ·exact aR ⟨_,rfl,⟨fun h=>(by cases h),fun h=>(by omega)⟩⟩
  rintro s' ⟨b,rfl,hiff⟩
  refine oR rfl rfl (fun hb=>?_) (fun hb=>?_)
  ·have hC:¬ (n.length < s.length∧s.take n.length=n∧s.getD n.length 0=47):=fun h=>by rw [hiff.2 h] at hb;cases hb
   rw [if_neg hC] at hnm
   refine qw0 ?_
   exact ⟨_,_,by omega,fun _ _ h=>h,i+1,d,j,_,done,rfl,by omega,by omega,by omega,by simpa using hnm,rfl⟩
  ·have hC:=hiff.1 hb
   rw [if_pos hC] at hnm
   have hn1:((n.length:Int)+1).toNat=n.length+1:=by omega
   have hrl:(s.drop (n.length+1)).length≤1000000:=by rw [List.length_drop];omega
   generalize hr:s.drop (n.length+1)=r at hnm hrl
   have hsl:=hC.1
   refine qw (ai hn1 hr) ?_
   refine cE [0,1,5,6,8,9,10] (fun k s'=>∃ q c':Nat,k=r.length - q∧q≤r.length∧d < c'∧s' = ⟨[(0,.list 4 (L.map aG)),(1,.str n),(5,.sl (.sub d j x.p) 1 done.length),(6,.int .i64 i),(8,.str r),(9,.bool (noB r q)),(10,.int .i64 q)],Mem.of [(.sub d j x.p,.arr 1 (done.map AV.str))],c',[]⟩) _ ⟨0,_,rfl,Nat.zero_le _,by omega,rfl⟩ ?_
   rintro k s' ⟨q,c',rfl,hq2,hdc',rfl⟩
   refine qw0 ?_
   refine bs rfl rfl (fun hb=>?_) (fun hb=>?_)
   ·have hst:=A7 (r:=r) (k:=q) (by omega)
    cases hnb:noB r q with
    | true =>
     rw [hnb,Bool.true_and] at hst
     have h47:((r.getD q 0).toNat:Int)=47↔r.getD q 0=47:=Tl (n:=47) (by decide)
     refine qw0 ?_
     refine ay nmd [(1,54)] hng (by kernel_rfl) fun hf C S K hC1 hC hS hK=>?_;simp (disch:=first|omega|assumption) only [go_sem]
     refine hK ?_;clear hK hS hC hC1 K S C hf
     refine qw0 ?_
     exact ⟨_,_,by omega,fun _ _ h=>h,q+1,c' + 1+1+1,rfl,by omega,by omega,by rw [hst,← decide_eq_decide.2 (not_congr h47)];rfl⟩
    | false =>
     rw [hnb,Bool.false_and] at hst
     refine qw0 ?_
     refine ay nmd [(1,54)] hng (by kernel_rfl) fun hf C S K hC1 hC hS hK=>?_;simp (disch:=first|omega|assumption) only [go_sem]
     refine hK ?_;clear hK hS hC hC1 K S C hf
     refine qw0 ?_
     exact ⟨_,_,by omega,fun _ _ h=>h,q+1,c' + 1+1+1,rfl,by omega,by omega,by rw [hst];rfl⟩
   ·obtain rfl:q=r.length:=by omega
    cases hnb:noB r r.length with
    | true =>
     rw [hnb,if_pos rfl] at hnm
     refine qw0 ?_
     exact ⟨_,_,by omega,fun _ _ h=>h,i+1,c' + 1+1,3,c' + 1+1+1+1,done++[r],rfl,by omega,by omega,by simp only [List.length_append,List.length_cons,List.length_nil];omega,by simpa using hnm,by rw [List.length_append,List.map_append];rfl⟩
    | false =>
     rw [hnb,if_neg (by decide)] at hnm
     refine qw0 ?_
     exact ⟨_,_,by omega,fun _ _ h=>h,i+1,d,j,_,done,rfl,by omega,by omega,by omega,by simpa using hnm,rfl⟩
 ·obtain rfl:i=L.length:=by omega
  rw [List.drop_length] at hnm
  have hnm':bc L n=done:=by simpa [bc] using hnm
  refine qw0 ?_
  exact Te (xs:=done.map AV.str) rfl qs0 (by simp) (by rw [hnm'])
end Go.Proofs.YtngffmnomciogaaGreatDoor
namespace Go.Proofs.YtngffmnomciogaaGreatDoor
open Go Go.Ab
set_option maxRecDepth 20000
set_option maxHeartbeats 4000000
abbrev WL:=List (Str × Unit)
theorem ru (r:Oid) (LL OO RR bb:AV) (W:WL) (hW:W.length≤140737488355328) (n:Str) (p:Oid) (hr:¬ Oid.under p r) :
  aq Tryz.prog 125 [.ptr r 0,.str n] (Oid.under p) ⟨[(r,.cells [LL,OO,RR,.list 1 (W.map fun q=>.str q.1),bb])],.bool (aH n W).isSome,[]⟩:=by
 refine aV (n:=24) (rs:=[.tmp 4]) Tryz.func125 rfl rfl (by decide) rfl rfl rfl ?_;rintro x rfl hrd hng
 refine qw (uu hr) ?_
 refine cE [0,1,5] (fun k s'=>∃ i c:Nat,k=W.length - i∧i≤W.length∧aH n W=aH n (W.drop i)∧s' = ⟨[(0,.ptr r 0),(1,.str n),(5,.int .i64 i)],Mem.of [(r,.cells [LL,OO,RR,.list 1 (W.map fun q=>.str q.1),bb])],c,[]⟩) _ ⟨0,_,rfl,Nat.zero_le _,rfl,rfl⟩ ?_
 rintro k s' ⟨i,c,rfl,hi,hlk,rfl⟩
 refine qw (uu hr) ?_
 refine bs rfl rfl (fun hb=>?_) (fun hb=>?_)
 ·have hlt:i < W.length:=by omega
  rw [drop_cons hlt,aH] at hlk
  generalize hq:W.getD i default=q at hlk
  obtain ⟨qn,qu⟩:=q
  simp only at hlk
  refine qw (ai (uu hr) hq) ?_
  refine bs rfl rfl (fun hb=>?_) (fun hb=>?_)
  ·rw [if_pos hb.symm] at hlk
   refine qw (uu hr) ?_
   refine aE (aS (qs hlk) ?_ ?_)
   all_goals simp only [List.mem_cons,List.not_mem_nil,or_false,forall_eq_or_imp,forall_eq,Option.some.injEq,forall_eq',Mem.ao,eq_self,if_true,↓reduceIte,reduceCtorEq,implies_true,not_true_eq_false,false_imp_iff,true_and,and_true,false_and,and_false,imp_self]
  ·rw [if_neg (fun e=>hb e.symm)] at hlk
   refine qw (uu hr) ?_
   exact ⟨_,_,by omega,fun _ _ h=>h,i+1,_,rfl,by omega,hlk,rfl⟩
 ·have:i=W.length:=by omega
  subst this
  rw [List.drop_length] at hlk
  refine qw (uu hr) ?_
  refine aE (aS (by simp (disch:=first|omega|assumption) only [go_sem,hlk,aH]) ?_ ?_)
  all_goals simp only [List.mem_cons,List.not_mem_nil,or_false,forall_eq_or_imp,forall_eq,Option.some.injEq,forall_eq',Mem.ao,eq_self,if_true,↓reduceIte,reduceCtorEq,implies_true,not_true_eq_false,false_imp_iff,true_and,and_true,false_and,and_false,imp_self]
theorem gy {κ ν:Type} [DecidableEq κ] {lt:κ→κ→Prop} [DecidableRel lt] (n:κ) (o:Option ν):∀ (L:List (κ × ν)) (i:Nat),i≤L.length→(∀ j q,j < i→L[j]? = some q→lt q.1 n)→(∀ q,L[i]? = some q→¬ lt q.1 n) →
  cY lt n o L=L.take i++dL n o++(match L[i]? with|some q=>if q.1=n then L.drop (i+1) else L.drop i|none=>[])
 | [],i,h,_,_=>by
  obtain rfl:i=0:=by simpa using h
  simp [cY]
 | q::L,0,_,_,h2=>by
  have h3:=h2 q (by simp)
  simp only [cY,if_neg h3,List.take_zero,List.nil_append,List.getElem?_cons_zero,List.drop_succ_cons,List.drop_zero]
 | q::L,i+1,h,h1,h2=>by
  have h3:=h1 0 q (by omega) (by simp)
  have ih:=gy (lt:=lt) n o L i (by simpa using h) (fun j q' hj hq=>h1 (j+1) q' (by omega) (by simpa using hq)) (fun q' hq=>h2 q' (by simpa using hq))
  simp only [cY,if_pos h3,ih,List.take_succ_cons,List.cons_append,List.getElem?_cons_succ,List.drop_succ_cons]
theorem xh {κ ν:Type} [DecidableEq κ] {lt:κ→κ→Prop} [DecidableRel lt] (ho:Ord lt) {n:κ} {b:ν} {L:List (κ × ν)} (hs:aN lt L) (h:aH n L=some b):cY lt n (some b) L=L:=by
 have h1:=eY ho n (some b) hs
 refine nU ho ((cg ho n (some b) hs).trans ?_) h1 hs
 have hm:=(br (hs.nodup ho)).1 h
 have hd:=hs.nodup ho
 clear h1 h hs
 induction L with
 | nil=>cases hm
 | cons q L ih =>
  simp only [List.map_cons,List.nodup_cons] at hd
  rcases List.mem_cons.1 hm with rfl|hm'
  ·rw [List.filter_cons_of_neg (by simp),gg hd.1]
   exact .refl _
  ·have hne:¬ q.1=n:=fun e=>hd.1 (e ▸ List.mem_map_of_mem (f:=(·.1)) hm')
   rw [List.filter_cons_of_pos (by simpa using hne)]
   exact (List.Perm.swap _ _ _).trans ((ih hm' hd.2).cons q)
end Go.Proofs.YtngffmnomciogaaGreatDoor
