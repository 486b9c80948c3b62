/- A part of the proof: the texts Y50, Y51, MP, one behind the other. -/
import Derived.Test.YtlfeacmbhldjcaaGreatDoorPFg
import Derived.ChangeMaps5
set_option linter.unusedVariables false
set_option linter.unusedSimpArgs false
set_option linter.unusedSectionVars false
namespace Go.Proofs.YtlfeacmbhldjcaaGreatDoor
open Go Go.Ab
set_option maxRecDepth 20000
set_option maxHeartbeats 8000000
def mZ (l:List Pt):Str:=l.flatMap Pt.text
theorem ahh (vs:List Vr) (args:List Str):∀ (l:List Pt),(∀ p,p ∈ l→p.kind=0)→(l.flatMap (pcs vs args)).length=l.length∧((l.flatMap (pcs vs args)).map fun e=>e.2.length).sum≤wtL l∧(∀ e,e ∈ l.flatMap (pcs vs args)→e.1≤3)∧(l.flatMap (pcs vs args)).flatMap (cI false)=mZ l
 | [],_=>by simp [mZ]
 | p::l,h=>by
  obtain ⟨h1,h2,h3,h4⟩:=ahh vs args l fun q hq=>h q (List.mem_cons_of_mem _ hq)
  have hk:=h p (List.mem_cons_self ..)
  have e:pcs vs args p=[(if p.quoted=true then 1 else 0,p.text)]:=by
   unfold pcs
   rw [if_neg (by omega)]
  rw [List.flatMap_cons,e,List.singleton_append]
  refine ⟨by simp [h1],?_,fun a ha=>?_,?_⟩
  ·rw [List.map_cons,List.sum_cons,wtL,Pt.jW]
   simp only
   omega
  ·rcases List.mem_cons.1 ha with rfl|ha
   ·simp only;split<;>omega
   ·exact h3 a ha
  ·rw [List.flatMap_cons,h4]
   have:cI false (if p.quoted=true then 1 else 0,p.text)=p.text:=by
    unfold cI
    rw [if_neg (by simp only;split<;>omega),if_neg Bool.false_ne_true]
   rw [this];rfl
theorem vj:∀ (l:List Pt),(mZ l).length≤wtL l
 | []=>by simp [mZ]
 | p::l=>by
  have:=vj l
  rw [wtL,Pt.jW]
  simp only [mZ,List.flatMap_cons,List.length_append] at this ⊢
  omega
theorem oQ (x:Sd):(iw x).length≤2:=by
 rw [iw,List.length_take]
 exact Nat.min_le_right _ _
theorem vk (b:UInt8):(txB b).length≤3:=by
 unfold txB
 have h:b.toNat % 9 < 9:=Nat.mod_lt _ (by decide)
 generalize b.toNat % 9=k at h
 have:∀ k,k < 9→(wL.getD k []).length≤3:=by decide
 exact this k h
theorem uc (x:Sd):(Lib.join (iw x) [32]).length≤1000000000:=by
 have h:=oP (iw x)
 have h1:=XR (iw x) 3 (fun a ha=>by
  rcases List.mem_cons.1 (List.mem_of_mem_take ha) with rfl|ha
  ·exact vk _
  ·rw [List.mem_singleton.1 ha];exact vk _)
 have h2:=oQ x
 omega
theorem zO (x:Sd):(lb x).length≤3:=by
 unfold lb
 split
 ·rw [List.length_drop];exact Nat.sub_le _ _
 ·exact Nat.le_refl _
theorem plain16_ok (s:Str) (hs:s.length≤60000000000) (z:Sd) (p:Oid) (hp:p.mono=false):aA Tryz.prog 5 [.str s,z.av] (Oid.under p) ⟨[],.bool true,[]⟩:=by
 have hPa:=fun p=>rZ s hs p
 have hpb:=fun h=>mP 30 s h
 change (kv s).2=0→wtL (kv s).1≤2 * s.length at hpb
 generalize kv s=pm at hPa hpb
 obtain ⟨l,er⟩:=pm
 simp only at hpb hPa
 have hMa:=fun p (hp:p.mono=false)=>zN z p hp
 rw [vi] at hMa
 have hvl:=zO z
 have hal:=oQ z
 have hj:=uc z
 have hT:=fun h1 h2 h3 h4 p hp=>vh (lb z) (iw z) (by omega) hj z.d.toNat l h1 h2 h3 h4 false p hp
 have hSh:=fun p hp=>qb (lb z) (by omega) (iw z) (by omega) z.d.toNat p hp
 generalize lb z=vs at hMa hvl hT hSh
 generalize iw z=args at hMa hal hj hT hSh
 obtain ⟨sa,sb,sc,sd,se⟩:=z
 rw [Sd.av] at hMa ⊢
 simp only at hMa hT hSh
 refine aN (n:=73) (rs:=[.tmp 4]) Tryz.func5 rfl rfl (by decide) rfl rfl rfl ?_;rintro x rfl hrd hng
 (try ((first|refine zn ?_|refine ze ?_|refine zk ?_);with_reducible (constructor;repeat constructor));try refine zl ?_)
 refine af nmd [] hng (by kernel_rfl) fun hf C S K hC1 hC hS hK=>?_;simp (disch:=first|omega|assumption) only [go_sem]
 refine hK ?_;clear hK hS hC hC1 K S C hf
 (repeat (first|(refine ah rfl rfl ?_)|(refine aj rfl rfl ?_)|(refine af nmd [] hng (by kernel_rfl) fun hf C S K hC1 hC hS hK=>?_;simp (disch:=first|omega|assumption) only [go_sem];(repeat ((first|refine hC1 _ (ub _ (aH rfl hp)) (by simp (disch:=first|omega|assumption) only [go_sem]) ?_|refine hC1 _ (hPa _) (by simp (disch:=first|omega|assumption) only [go_sem]) ?_);simp (disch:=first|omega|assumption) only [go_sem]));refine hK ?_;clear hK hS hC hC1 K S C hf)|((first|refine zn ?_|refine ze ?_|refine zk ?_);with_reducible (constructor;repeat constructor);try refine zl ?_)))
 by_cases he:er=0
 case neg =>
  have e1:¬ (er:Int)=0:=by omega
  refine af nmd [(2,23)] hng (by kernel_rfl) fun hf C S K hC1 hC hS hK=>?_;simp (disch:=first|omega|assumption) only [go_sem,e1,decide_true,decide_false,ne_eq,not_true_eq_false,not_false_eq_true]
  (repeat' (first|(refine bm (fun hv=>?_) (fun hv=>?_)<;>(try simp only [zb1,zb2,zb3,zb4,zb5] at hv)<;>simp (disch:=first|omega|assumption) only [go_sem,hv,e1,decide_true,decide_false,ne_eq,not_true_eq_false,not_false_eq_true])|(refine hK ?_;clear hK hS hC hC1 K S C hf)))
  (repeat (first|(refine ah rfl rfl ?_)|(refine aj rfl rfl ?_)|(refine af nmd [] hng (by kernel_rfl) fun hf C S K hC1 hC hS hK=>?_;simp (disch:=first|omega|assumption) only [go_sem];refine hK ?_;clear hK hS hC hC1 K S C hf)|((first|refine zn ?_|refine ze ?_|refine zk ?_);with_reducible (constructor;repeat constructor);try refine zl ?_)))
  exact aC (aE (by simp (disch:=first|omega|assumption) only [go_sem]))
 subst he
 have e1:(((0:Nat):Int)=0)=True:=eq_true rfl
 by_cases h1:s.length≤200
 case neg =>
  have e2:(s.length:Int) > 200:=by omega
  refine af nmd [(2,23)] hng (by kernel_rfl) fun hf C S K hC1 hC hS hK=>?_;simp (disch:=first|omega|assumption) only [go_sem,e1,e2,decide_true,decide_false,ne_eq,not_true_eq_false,not_false_eq_true]
  (repeat' (first|(refine bm (fun hv=>?_) (fun hv=>?_)<;>(try simp only [zb1,zb2,zb3,zb4,zb5] at hv)<;>simp (disch:=first|omega|assumption) only [go_sem,hv,e1,e2,decide_true,decide_false,ne_eq,not_true_eq_false,not_false_eq_true])|(refine hK ?_;clear hK hS hC hC1 K S C hf)))
  (repeat (first|(refine ah rfl rfl ?_)|(refine aj rfl rfl ?_)|(refine af nmd [] hng (by kernel_rfl) fun hf C S K hC1 hC hS hK=>?_;simp (disch:=first|omega|assumption) only [go_sem];refine hK ?_;clear hK hS hC hC1 K S C hf)|((first|refine zn ?_|refine ze ?_|refine zk ?_);with_reducible (constructor;repeat constructor);try refine zl ?_)))
  exact aC (aE (by simp (disch:=first|omega|assumption) only [go_sem]))
 have e2:¬ (s.length:Int) > 200:=by omega
 have hw:wtL l≤400:=by have:=hpb rfl;omega
 have hll:=jt l
 have hx:=iH l
 refine af nmd [(2,23)] hng (by kernel_rfl) fun hf C S K hC1 hC hS hK=>?_;simp (disch:=first|omega|assumption) only [go_sem,e1,e2,decide_true,decide_false,ne_eq,not_true_eq_false,not_false_eq_true]
 (repeat' (first|(refine bm (fun hv=>?_) (fun hv=>?_)<;>(try simp only [zb1,zb2,zb3,zb4,zb5] at hv)<;>simp (disch:=first|omega|assumption) only [go_sem,hv,e1,e2,decide_true,decide_false,ne_eq,not_true_eq_false,not_false_eq_true])|(refine hK ?_;clear hK hS hC hC1 K S C hf)))
 (repeat (first|(refine ah rfl rfl ?_)|(refine aj rfl rfl ?_)|(refine af nmd [] hng (by kernel_rfl) fun hf C S K hC1 hC hS hK=>?_;simp (disch:=first|omega|assumption) only [go_sem];refine hK ?_;clear hK hS hC hC1 K S C hf)|((first|refine zn ?_|refine ze ?_|refine zk ?_);with_reducible (constructor;repeat constructor);try refine zl ?_)))
 refine a6 [0,3,5,6,8,9] (fun k s'=>∃ (i c:Nat),k=l.length - i∧i≤l.length∧2 < c∧(∀ p,p ∈ l.take i→p.kind=0)∧s' = ⟨[(0,.str s),(3,.ptr (.sub 0 0 x.p) 0),(5,.bool true),(6,.list 6 (Pt.avs l)),(8,.str (mZ (l.take i))),(9,.int .i64 i)],Mem.of [(Oid.sub 0 0 x.p,ar.cells [.int .u8 sa.toNat,.int .u8 sb.toNat,.int .u8 sc.toNat,.int .u8 sd.toNat,.int .u8 se.toNat])],c,[]⟩) _ ⟨0,_,rfl,Nat.zero_le _,by omega,(fun _ h=>by cases h),rfl⟩ ?_
 rintro k s' ⟨i,c,rfl,hi,hc,hk,rfl⟩
 by_cases hlt:i < l.length
 ·have hI:(i:Int) < l.length:=by omega
  obtain ⟨pt,hm,hdr,hg⟩:=mS hlt
  have hlx:i < (Pt.avs l).length:=by omega
  have htk:l.take (i+1)=l.take i++[pt]:=by
   have h1:=List.take_append_drop i l
   rw [hdr] at h1
   conv=>lhs;rw [← h1]
   rw [List.take_append,List.length_take,Nat.min_eq_left (by omega),List.take_of_length_le (by rw [List.length_take];omega)]
   simp
  have hwt:wtL (l.take i)+pt.wt≤wtL l:=by
   conv=>rhs;rw [← List.take_append_drop i l,hdr,C9,wtL]
   omega
  have htl:=vj (l.take i)
  have hpw:=pt.jW
  have htx:mZ (l.take (i+1))=mZ (l.take i)++pt.text:=by rw [htk,mZ,List.flatMap_append];simp [mZ]
  have hk':pt.kind=0→∀ p,p ∈ l.take (i+1)→p.kind=0:=fun h p hp=>by
   rw [htk] at hp
   rcases List.mem_append.1 hp with hp|hp
   ·exact hk p hp
   ·rw [List.mem_singleton.1 hp];exact h
  obtain ⟨pk,pq,pt,pn,po,pw⟩:=pt
  simp only [Pt.text,Pt.kind] at htx hpw hk'
  simp only [Pt.av] at hg
  have hbl:(mZ (l.take i)).length+pt.length≤140737488355328:=by omega
  by_cases hk0:pk=0
  ·subst hk0
   (repeat (first|(refine ah rfl rfl ?_)|(refine aj rfl rfl ?_)|(refine af nmd [] hng (by kernel_rfl) fun hf C S K hC1 hC hS hK=>?_;simp (disch:=first|omega|assumption) only [go_sem,hI,hlx,hg,hx,hbl,List.length_append,decide_true,decide_false,ne_eq,not_true_eq_false,not_false_eq_true];refine hK ?_;clear hK hS hC hC1 K S C hf)|((first|refine zn ?_|refine ze ?_|refine zk ?_);with_reducible (constructor;repeat constructor);try refine zl ?_)))
   exact ⟨_,_,by omega,fun _ _ h=>h,i+1,c+1+1+1+1,rfl,by omega,by omega,hk' rfl,by rw [htx];rfl⟩
  ·have hkI:¬ (pk:Int)=0:=by omega
   (repeat (first|(refine ah rfl rfl ?_)|(refine aj rfl rfl ?_)|(refine af nmd [] hng (by kernel_rfl) fun hf C S K hC1 hC hS hK=>?_;simp (disch:=first|omega|assumption) only [go_sem,hI,hlx,hg,hx,hkI,decide_true,decide_false,ne_eq,not_true_eq_false,not_false_eq_true];refine hK ?_;clear hK hS hC hC1 K S C hf)|((first|refine zn ?_|refine ze ?_|refine zk ?_);with_reducible (constructor;repeat constructor);try refine zl ?_)))
   exact aC (aE (by simp (disch:=first|omega|assumption) only [go_sem]))
 ·obtain rfl:i=l.length:=by omega
  have hI:¬ (l.length:Int) < l.length:=by omega
  rw [List.take_length] at hk ⊢
  obtain ⟨a1,a2,a3,a4⟩:=ahh vs args l hk
  have hT:=fun p hp=>hT (.inr hk) (by omega) (fun p hp=>.inl (hk p hp)) ⟨by omega,a3,by omega⟩ p hp
  rw [a4] at hT
  (repeat (first|(refine ah rfl rfl ?_)|(refine aj rfl rfl ?_)|(refine af nmd [] hng (by kernel_rfl) fun hf C S K hC1 hC hS hK=>?_;simp (disch:=first|omega|assumption) only [go_sem,hI,hx,decide_true,decide_false,ne_eq,not_true_eq_false,not_false_eq_true];refine hK ?_;clear hK hS hC hC1 K S C hf)|((first|refine zn ?_|refine ze ?_|refine zk ?_);with_reducible (constructor;repeat constructor);try refine zl ?_)))
  refine af nmd [] hng (by kernel_rfl) fun hf C S K hC1 hC hS hK=>?_;simp (disch:=first|omega|assumption) only [go_sem]
  refine hC1 _ (hMa _ (aH rfl hp)) (fun _ h=>by cases h) ?_
  simp (disch:=first|omega|assumption) only [go_sem]
  refine hC1 _ (hT _ (aH rfl hp)) (fun _ h=>by cases h) ?_
  simp (disch:=first|omega|assumption) only [go_sem]
  refine hK ?_;clear hK hS hC hC1 K S C hf
  (try ((first|refine zn ?_|refine ze ?_|refine zk ?_);with_reducible (constructor;repeat constructor));try refine zl ?_)
  refine bE nmd [(1,58),(5,62),(10,67)] [(11,13)] mixed hng (by kernel_rfl) [4] fun hf C S K hC hS hK=>?_;simp (disch:=first|omega|assumption) only [go_sem]
  (repeat' (first|(refine bm (fun hv=>?_) (fun hv=>?_)<;>(try simp only [zb1,zb2,zb3,zb4,zb5] at hv)<;>simp (disch:=first|omega|assumption) only [go_sem,hv,decide_true,decide_false,ne_eq,not_true_eq_false,not_false_eq_true])|(refine hC _ (hMa _ (aH rfl hp)) (by simp (disch:=first|omega|assumption) only [go_sem,decide_true,decide_false,ne_eq,not_true_eq_false,not_false_eq_true]) ?_;simp (disch:=first|omega|assumption) only [go_sem,decide_true,decide_false,ne_eq,not_true_eq_false,not_false_eq_true])|(refine hC _ (hSh _ (aH rfl hp)) (by simp (disch:=first|omega|assumption) only [go_sem,decide_true,decide_false,ne_eq,not_true_eq_false,not_false_eq_true]) ?_;simp (disch:=first|omega|assumption) only [go_sem,decide_true,decide_false,ne_eq,not_true_eq_false,not_false_eq_true])|((first|refine hK (aK rfl) ?_|refine hK (by simp (disch:=first|omega|assumption) only [go_sem,List.reverse_cons,List.reverse_nil,ne_eq,not_false_eq_true,implies_true]) ?_);clear hK hS hC K S C hf)))
  (try ((first|refine zn ?_|refine ze ?_|refine zk ?_);with_reducible (constructor;repeat constructor));try refine zl ?_)
  exact aC (aE (by simp (disch:=first|omega|assumption) only [go_sem]))
end Go.Proofs.YtlfeacmbhldjcaaGreatDoor
namespace Go.Ab
open Go.ChangeShapes Go.WideShapes
section
variable {β:Type}
theorem law_lifted_cond {C:Checked} [Laid C.prog] {os:Os} {f:FuncId} {fn:Func} {s:ChangeSpec} {k:(H:Type)→List (DataW H)→Bool} {F:Stop.Interp} {conds:List PathCond} {laid:List (String × DataW Unit)} {tb:TypeId} {H:Type} {enc:TypeId × Value→H} {ts:List TypeId} {B:β→List AV} {W W2:β→Prop}
  (own:ownKnob C.prog.godebug=none) (started:os.Started) (noInit:C.prog.inits.idxOf? f=none) (hfn:C.prog.funcs[f]? = some fn)
  (witness:∃ (w:World) (tape:Tape) (i:Input),w.os=os∧(w.forCall tape i).Shaped C.prog∧i.vars=[]∧Input.okWide C.prog (w.forCall tape i) .any w.heap.size f i ∧
   ({ OpenSpec.ofChange s with cond:=some k }:OpenSpec).preRow enc C.prog fn conds false laid (w.forCall tape i).memory i.args∧({}:Assume).holds C.prog (lone (Frame.enter C.prog f i.args .normal) [] (w.forCall tape i)))
  (hl:laidOutB C.prog=true) (hz:∀ t e,t < C.prog.types.size→C.prog.underlying t=some (.slice e)→0 < C.prog.cellsOf e) (hp:fn.params.toList=ts) (hrB:(ts.all fun t=>C.prog.readableRec t && decide (t < C.prog.types.size))=true)
  (hrt:fn.resultTypes=#[tb]) (htb:C.prog.underlying tb=some .bool) (hv:s.vars=[]) (hs:∀ ds:List (DataW H),ds.length=ts.length→s.fn H ds={ results:=[.lit (.bool true)],args:=ds })
  (hA:RdA C.prog ts B W)
  (hb:∀ {w:World} {base:Nat} {vs:List Value} {ds:List (DataW H)} {ps:List MemPlace} (b:β),(∀ (j:Nat) t v,ts[j]? = some t→vs[j]? = some v→Value.okWide C.prog w .any base t v)→DataW.TrodAll enc C.prog w 0 (fun _=>true) true ts vs ds ps →
   (∀ j,j < vs.length→VR (cz C.prog.globals.size w) ((B b).getD j .undef) (vs.getD j undef))→k H ds=true→W2 b)
  (hc:∀ b,W b→W2 b→aA C.prog f (B b) (Oid.under (.root C.prog.globals.size)) ⟨[],.bool true,[]⟩) (hLaid:∀ W:World,laidMetH C.prog laid W→W.ShapedOpen C.prog→Laid.facts C.prog (cz C.prog.globals.size W)) :
  ReturnsInHanded {} C os f .any (({ OpenSpec.ofChange s with cond:=some k }:OpenSpec).preRow enc C.prog fn conds false laid) ((({ OpenSpec.ofChange s with cond:=some k }:OpenSpec).at F).post enc C.prog fn false true false false):=by
 have hr:∀ t ∈ ts,C.prog.readableRec t=true∧t < C.prog.types.size:=fun t ht=>by
  have:=List.all_eq_true.1 hrB t ht
  simpa using this
 refine returnsInHanded_of_row own started noInit hfn witness ?_
 intro w base args ds gs before hval hW _ hk hsz hlaid hopen _
 have hW:DataW.Whole enc C.prog fn.params.toList s.vars false w args.toList ds gs before:=hW
 have hsz:(DataW.weightsEach C.prog (fn.params.toList++s.plain.varTypes C.prog) (ds++gs)).all (· ≤ reachBytes)=true:=hsz
 have hk:k H (ds++gs)=true:=hk k rfl
 have hW':=hW
 obtain ⟨p,q,hT,hV,rfl,hfz,hnd⟩:=hW
 rw [hv] at hV
 obtain ⟨rfl,rfl⟩:=trodVars_none hV
 have hlen:=ij hT
 rw [hp] at hT hlen
 have hvt:s.plain.varTypes C.prog=[]:=by
  have:s.plain.vars=[]:=hv
  unfold DataSpec.varTypes;rw [this];rfl
 rw [hvt,List.append_nil,List.append_nil,List.all_eq_true,hp] at hsz
 rw [List.append_nil] at hk
 have hval':∀ (j:Nat) t v,ts[j]? = some t→args.toList[j]? = some v→Value.okWide C.prog w .any base t v:=fun j t v ht hv'=>hval j t v (by rw [← Array.getElem?_toList,hp];exact ht) (by rw [← Array.getElem?_toList];exact hv')
 obtain ⟨b,k1,k2,k3⟩:=hA.rd (ng:=C.prog.globals.size) hval' hT fun n hn=>by simpa using hsz n hn
 refine A5 hl hz (by rw [hp];exact hr) hrt htb hv hW' (hs ds hlen) (avs:=B b) ⟨by simpa using k2,fun j hj=>?_⟩ (hc b k1 (hb b hval' hT k3 hk)) (hLaid _ hlaid hopen)
 have:=k3 j (by rw [k2];exact hj)
 simpa [List.getD_eq_getElem?_getD,Array.getD_eq_getD_getElem?] using this
theorem first_str {P:Program} {H:Type} {enc:TypeId × Value→H} {w:World} {base:Nat} {t:TypeId} {ts:List TypeId} {vs:List Value} {ds:List (DataW H)} {ps:List MemPlace} {g:Gh} {avs:List AV} {a:List UInt8} (ht:P.underlying t=some .string)
  (hok:∀ (j:Nat) t' v,(t::ts)[j]? = some t'→vs[j]? = some v→Value.okWide P w .any base t' v) (h:DataW.TrodAll enc P w 0 (fun _=>true) true (t::ts) vs ds ps)
  (hv:∀ j,j < vs.length→VR g ((AV.str a::avs).getD j .undef) (vs.getD j undef)):∃ rest,ds = .lit (.string a)::rest:=by
 obtain ⟨v0,vs0,d0,ds0,p0,q0,rfl,rfl,rfl,h0,_⟩:=trodAll_cons h
 obtain ⟨s,rfl,rfl,_,_⟩:=Go.ChangeMaps.open_string ht (hok 0 t v0 rfl rfl) h0
 obtain ⟨b,e,rfl⟩:=(hv 0 (Nat.succ_pos _)).bf
 obtain rfl:s=b:=by injection e
 exact ⟨ds0,rfl⟩
end
end Go.Ab
namespace Go.Proofs.YtlfeacmbhldjcaaGreatDoor
open Go Go.Ab
set_option maxRecDepth 100000
theorem band {a b:Bool} (h1:a=true) (h2:b=true):(a && b)=true:=by rw [h1,h2];rfl
theorem c_str:Tryz.prog.cellsOf 9=1:=by kernel_rfl
theorem qc:Tryz.prog.cellsOf 5=1:=by kernel_rfl
theorem ahG:Tryz.prog.cellsOf 54=5:=by kernel_rfl
theorem rd_sd:Rd Tryz.prog 54 Sd.av (fun _=>True) :=
 (vP Tryz.underlying54 (by kernel_rfl) (ig rfl (rk Tryz.underlying5 qc) (ig (by rw [qc]) (rk Tryz.underlying5 qc) (ig (by rw [qc]) (rk Tryz.underlying5 qc) (ig (by rw [qc]) (rk Tryz.underlying5 qc) (ig (by rw [qc]) (rk Tryz.underlying5 qc) (D7 _))))))).map
  (fun p=>⟨p.1,p.2.1,p.2.2.1,p.2.2.2.1,p.2.2.2.2.1⟩) (fun _ _=>rfl) (fun _=>ahG.symm) (fun _ _=>trivial)
theorem short16 {H:Type} {s:Str} {rest:List (DataW H)} (hk:Rows.uptoSmall H (.lit (.string s)::rest)=true):s.length≤60000000000:=by
 have h:Rows.uptoBulkAll (DataW.lit (H:=H) (.string s)::rest)≤1048576:=of_decide_eq_true hk
 simp only [Rows.uptoBulkAll,Rows.uptoBulk] at h
 omega
end Go.Proofs.YtlfeacmbhldjcaaGreatDoor
