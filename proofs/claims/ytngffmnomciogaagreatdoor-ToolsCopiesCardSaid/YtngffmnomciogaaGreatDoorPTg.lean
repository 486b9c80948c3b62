/- A part of the proof: the texts TJ, TK, one behind the other. -/
import Derived.Test.YtngffmnomciogaaGreatDoorPTf
set_option linter.unusedVariables false
set_option linter.unusedSimpArgs false
set_option linter.unusedSectionVars false
namespace Go.Proofs.YtngffmnomciogaaGreatDoor
open Go Go.Ab
set_option maxRecDepth 20000
set_option maxHeartbeats 8000000
def mP (s:Str):Bits:=⟨1,6,s⟩
def tA (s:Str):PL:=[([47,97],mP s)]
def tAB (s:Str):PL:=[([47,97],mP s),([47,98],mP s)]
def tBC (s:Str):PL:=[([47,98],mP s),([47,99],mP s)]
theorem jZ (p:Str) (d:Str) (h:d.length≤300):cT p ⟨1,bH 6 0,[]⟩ false d = .go [(p,mP d)]:=by
 unfold cT
 rw [if_neg (by show ¬ 100000 < d.length;omega)];rfl
theorem t_1 (s:Str) (h:s.length≤300):(aY [] [] 0 [97] s false).2 = .go [([47,97],mP s)] :=
 (show _=cT [47,97] ⟨1,bH 6 0,[]⟩ false s by kernel_rfl).trans (jZ _ _ h)
theorem t_2 (s:Str) (h:s.length≤300):(aY (tA s) [] 0 [98] s false).2 = .go [([47,98],mP s)] :=
 (show _=cT [47,98] ⟨1,bH 6 0,[]⟩ false s by kernel_rfl).trans (jZ _ _ h)
theorem t_3 (s:Str):mL (findF (tA s) [] [98] true).2 [97] [98]=[98]:=by kernel_rfl
theorem t_4 (s:Str):(a6 (tA s) [] [97]).2 = .go s:=by kernel_rfl
theorem t_5 (s:Str):(a6 (tAB s) [] [97]).2 = .go s:=by kernel_rfl
theorem t_6 (s:Str):(a6 (tAB s) [] [98]).2 = .go s:=by kernel_rfl
theorem t_7 (s:Str):mL (findF (tAB s) [] [99] true).2 [97] [99]=[99]:=by kernel_rfl
theorem t_8 (s:Str):(bP (tAB s) [] [97] [99]).2 = .go [([47,97],Bits.no),([47,99],mP s)]:=by kernel_rfl
theorem t_9 (s:Str):isE (findF (tBC s) [] [97] true).2=1:=by kernel_rfl
theorem acz (s:Str):(a6 (tBC s) [] [99]).2 = .go s:=by kernel_rfl
theorem ac4 (s:Str):(a6 (tAB s) [] [45]).2 = .err 10:=by kernel_rfl
theorem th:-9223372036854775808≤(0:Int)∧(0:Int)≤9223372036854775807:=by decide
theorem u_1 (s:Str) (h:s.length≤300):b0.after (aY b0.L [] 0 [97] s false)=⟨tA s,none⟩:=by
 unfold St.after
 rw [dh rfl,show (aY b0.L [] 0 [97] s false).2=_ from t_1 s h];kernel_rfl
theorem u_2 (s:Str) (h:s.length≤300):(⟨tA s,none⟩:St).after (aY (tA s) [] 0 [98] s false)=⟨tAB s,none⟩:=by
 unfold St.after
 rw [dh rfl,t_2 s h];kernel_rfl
theorem u_3 (s:Str):(⟨tAB s,none⟩:St).after (bP (tAB s) [] [97] [99])=⟨tBC s,none⟩:=by
 unfold St.after
 rw [dh rfl,t_8 s];kernel_rfl
theorem copies_ok (s t:Str) (hs:s.length≤140737488355328) (ht:t.length≤140737488355328) (p:Oid) (hp:p.mono=false):aq Tryz.prog 4 [.str s,.str t] (Oid.under p) ⟨[],.bool true,[]⟩:=by
 refine aV (n:=155) (rs:=[.tmp 4]) Tryz.func4 rfl rfl (by decide) rfl rfl rfl ?_;rintro x rfl hrd hng
 (repeat (first|(refine aB rfl rfl ?_)|(refine aC rfl rfl ?_)|(refine ay nmd [] hng (by kernel_rfl) fun hf C S K hC1 hC hS hK=>?_;simp (disch:=first|omega|assumption) only [go_sem];(repeat ((first|refine hC1 _ (tg _ (ar rfl hp)) (by simp (disch:=first|omega|assumption) only [go_sem]) ?_);simp (disch:=first|omega|assumption) only [go_sem]));refine hK ?_;clear hK hS hC hC1 K S C hf)|((first|refine zn ?_|refine ze ?_|refine zk ?_);with_reducible (constructor;repeat constructor);try refine zl ?_)))
 obtain ⟨y,st,pp,r,qq,N,M,H,hPK,hun,hB⟩:=rR 0 (.sub 3 0 x.p) (ar rfl hp)
 have hO:=BG hun
 clear hun
 rw [show gz 0 7=0 from rfl] at hPK
 refine ay nmd [] hng (by kernel_rfl) fun hf C S K hC1 hC hS hK=>?_;simp (disch:=first|omega|assumption) only [go_sem]
 refine hC1 _ hB (fun _ h=>by cases h) ?_
 simp (disch:=first|omega|assumption) only [go_sem]
 refine hK ?_;clear hK hS hC hC1 K S C hf
 clear hB
 (try ((first|refine zn ?_|refine ze ?_|refine zk ?_);with_reducible (constructor;repeat constructor));try refine zl ?_)
 refine sg (Mem.blk [] [(KB y pp qq N M,H)]) (fun i o h=>by rw [← Mem.aQ];exact uv _ _ _ i o h) ?_
 by_cases h1:s.length≤300
 case neg =>
  have e1:(s.length:Int) > 300:=by omega
  refine ay nmd [(2,27),(7,32)] hng (by kernel_rfl) fun hf C S K hC1 hC hS hK=>?_;simp (disch:=first|omega|assumption) only [go_sem,e1,eq_self,decide_true,decide_false,ne_eq,not_true_eq_false,not_false_eq_true]
  refine hK ?_;clear hK hS hC hC1 K S C hf
  (repeat (first|(refine aB rfl rfl ?_)|(refine aC rfl rfl ?_)|(refine ay nmd [] hng (by kernel_rfl) fun hf C S K hC1 hC hS hK=>?_;simp (disch:=first|omega|assumption) only [go_sem];refine hK ?_;clear hK hS hC hC1 K S C hf)|((first|refine zn ?_|refine ze ?_|refine zk ?_);with_reducible (constructor;repeat constructor);try refine zl ?_)))
  refine ay nmd [(2,39)] hng (by kernel_rfl) fun hf C S K hC1 hC hS hK=>?_;simp (disch:=first|omega|assumption) only [go_sem,eq_self,decide_true,decide_false,ne_eq,not_true_eq_false,not_false_eq_true]
  refine hK ?_;clear hK hS hC hC1 K S C hf
  (repeat (first|(refine aB rfl rfl ?_)|(refine aC rfl rfl ?_)|(refine ay nmd [] hng (by kernel_rfl) fun hf C S K hC1 hC hS hK=>?_;simp (disch:=first|omega|assumption) only [go_sem];refine hK ?_;clear hK hS hC hC1 K S C hf)|((first|refine zn ?_|refine ze ?_|refine zk ?_);with_reducible (constructor;repeat constructor);try refine zl ?_)))
  exact aE (b6 rfl)
 by_cases h2:t.length≤300
 case neg =>
  have e0:¬ (s.length:Int) > 300:=by omega
  have e1:(t.length:Int) > 300:=by omega
  refine ay nmd [(2,27),(7,32)] hng (by kernel_rfl) fun hf C S K hC1 hC hS hK=>?_;simp (disch:=first|omega|assumption) only [go_sem,e0,e1,eq_self,decide_true,decide_false,ne_eq,not_true_eq_false,not_false_eq_true]
  refine hK ?_;clear hK hS hC hC1 K S C hf
  (repeat (first|(refine aB rfl rfl ?_)|(refine aC rfl rfl ?_)|(refine ay nmd [] hng (by kernel_rfl) fun hf C S K hC1 hC hS hK=>?_;simp (disch:=first|omega|assumption) only [go_sem];refine hK ?_;clear hK hS hC hC1 K S C hf)|((first|refine zn ?_|refine ze ?_|refine zk ?_);with_reducible (constructor;repeat constructor);try refine zl ?_)))
  refine ay nmd [(2,39)] hng (by kernel_rfl) fun hf C S K hC1 hC hS hK=>?_;simp (disch:=first|omega|assumption) only [go_sem,eq_self,decide_true,decide_false,ne_eq,not_true_eq_false,not_false_eq_true]
  refine hK ?_;clear hK hS hC hC1 K S C hf
  (repeat (first|(refine aB rfl rfl ?_)|(refine aC rfl rfl ?_)|(refine ay nmd [] hng (by kernel_rfl) fun hf C S K hC1 hC hS hK=>?_;simp (disch:=first|omega|assumption) only [go_sem];refine hK ?_;clear hK hS hC hC1 K S C hf)|((first|refine zn ?_|refine ze ?_|refine zk ?_);with_reducible (constructor;repeat constructor);try refine zl ?_)))
  exact aE (b6 rfl)
 have e1:¬ (s.length:Int) > 300:=by omega
 have e2:¬ (t.length:Int) > 300:=by omega
 refine ay nmd [(2,27),(7,32)] hng (by kernel_rfl) fun hf C S K hC1 hC hS hK=>?_;simp (disch:=first|omega|assumption) only [go_sem,e1,e2,eq_self,decide_true,decide_false,ne_eq,not_true_eq_false,not_false_eq_true]
 refine hK ?_;clear hK hS hC hC1 K S C hf
 (repeat (first|(refine aB rfl rfl ?_)|(refine aC rfl rfl ?_)|(refine ay nmd [] hng (by kernel_rfl) fun hf C S K hC1 hC hS hK=>?_;simp (disch:=first|omega|assumption) only [go_sem];refine hK ?_;clear hK hS hC hC1 K S C hf)|((first|refine zn ?_|refine ze ?_|refine zk ?_);with_reducible (constructor;repeat constructor);try refine zl ?_)))
 have hyN:=hPK.ap.yN;have hyM:=hPK.ap.yM;have hpN:=hPK.ap.pN;have hpM:=hPK.ap.pM;have hqN:=hPK.ap.qN;have hqM:=hPK.ap.qM;have hdj:=hPK.ap.dj;have hcy:=hPK.cy;have hcp:=hPK.cp;have hcq:=hPK.cq;have yp:=hPK.ap.yp;have yq:=hPK.ap.yq;have pq:=hPK.ap.pq;have yp':¬ pp=y:=fun e=>yp e.symm;have yq':¬ qq=y:=fun e=>yq e.symm;have pq':¬ qq=pp:=fun e=>pq e.symm
 have hON:mo x.p 4 N:=fun j hj h=>hO j (by simp [hj]) h
 have hpp:∀ c i,4≤c→¬ Oid.under (.sub c i x.p) pp:=fun c i h=>hO.sub h i pp (by simp)
 have hs':∀ c i,4≤c→¬ Oid.sub c i x.p=y∧¬ y=Oid.sub c i x.p∧¬ Oid.sub c i x.p=pp∧¬ pp=Oid.sub c i x.p∧¬ Oid.sub c i x.p=qq∧¬ qq=Oid.sub c i x.p∧Oid.sub c i x.p ∉ N∧Oid.sub c i x.p ∉ M:=fun c i h=>by
  have hm:=hO.mem (c:=c) (i:=i) h
  simp only [List.mem_cons,List.mem_append,not_or] at hm
  exact ⟨hm.1,fun e=>hm.1 e.symm,hm.2.1,fun e=>hm.2.1 e.symm,hm.2.2.1,fun e=>hm.2.2.1 e.symm,hm.2.2.2.1,hm.2.2.2.2⟩
 have Q7:=hs' 5 10 (by omega);have n7:=Q7.2.2.2.2.2.2.1;have m7:=Q7.2.2.2.2.2.2.2
 have Q8:=hs' 6 9 (by omega);have n8:=Q8.2.2.2.2.2.2.1;have m8:=Q8.2.2.2.2.2.2.2
 have Q9:=hs' 7 10 (by omega);have n9:=Q9.2.2.2.2.2.2.1;have m9:=Q9.2.2.2.2.2.2.2
 have Q10:=hs' 8 9 (by omega);have n10:=Q10.2.2.2.2.2.2.1;have m10:=Q10.2.2.2.2.2.2.2
 have Q11:=hs' 9 9 (by omega);have n11:=Q11.2.2.2.2.2.2.1;have m11:=Q11.2.2.2.2.2.2.2
 have Q12:=hs' 10 9 (by omega);have n12:=Q12.2.2.2.2.2.2.1;have m12:=Q12.2.2.2.2.2.2.2
 have Q13:=hs' 11 9 (by omega);have n13:=Q13.2.2.2.2.2.2.1;have m13:=Q13.2.2.2.2.2.2.2
 clear hs'
 have sp0:cj st b0 N H:=hPK.sp
 have k0:KS b0 [] 0:=KS.new
 have hu:(0:Int)≤0∧(0:Int)≤7:=by omega
 have o1:=ly k0.st 0 (jY hu).1 [97] s false
 obtain ⟨F1,F2,sp1,a1,a2⟩:=bR (s:=b0) sp0 k0 (by omega) o1.b
 have k1:=k0.op (by omega) o1
 have sp1:cj st (b0.after (aY b0.L [] 0 [97] s false)) N F2:=sp1
 have k1:KS (b0.after (aY b0.L [] 0 [97] s false)) [] 1:=k1
 rw [u_1 s h1] at sp1 k1
 have o2:=fM k1.lk [] [98] true
 obtain ⟨F3,F3',sp2,f3,f3'⟩:=bR (s:=⟨tA s,none⟩) sp1 k1 (by omega) (o2.opb (by decide))
 obtain rfl:F3=F3':=f3'
 have k2:=k1.rd (by omega) o2 (by decide)
 have sp2:cj st ((⟨tA s,none⟩:St).rds (findF (tA s) [] [98] true).1) N F3:=sp2
 rw [dh rfl] at k2 sp2
 have o3:=gF k2.lk [] [97]
 obtain ⟨F4,F4',sp3,f4,f4'⟩:=bR (s:=⟨tA s,none⟩) sp2 k2 (by omega) (o3.opb (by decide))
 obtain rfl:F4=F4':=f4'
 have k3:=k2.rd (by omega) o3 (by decide)
 have sp3:cj st ((⟨tA s,none⟩:St).rds (a6 (tA s) [] [97]).1) N F4:=sp3
 rw [dh rfl] at k3 sp3
 have o4:=ly k3.st 0 (jY hu).1 [98] s false
 obtain ⟨F5,F6,sp4,f5,f6⟩:=bR (s:=⟨tA s,none⟩) sp3 k3 (by omega) o4.b
 have k4:=k3.op (by omega) o4
 have sp4:cj st ((⟨tA s,none⟩:St).after (aY (tA s) [] 0 [98] s false)) N F6:=sp4
 have k4:KS ((⟨tA s,none⟩:St).after (aY (tA s) [] 0 [98] s false)) [] 4:=k4
 rw [u_2 s h1] at sp4 k4
 have o5:=gF k4.lk [] [97]
 obtain ⟨F7,F7',sp5,f7,f7'⟩:=bR (s:=⟨tAB s,none⟩) sp4 k4 (by omega) (o5.opb (by decide))
 obtain rfl:F7=F7':=f7'
 have k5:=k4.rd (by omega) o5 (by decide)
 have sp5:cj st ((⟨tAB s,none⟩:St).rds (a6 (tAB s) [] [97]).1) N F7:=sp5
 rw [dh rfl] at k5 sp5
 have o6:=gF k5.lk [] [98]
 obtain ⟨F8,F8',sp6,f8,f8'⟩:=bR (s:=⟨tAB s,none⟩) sp5 k5 (by omega) (o6.opb (by decide))
 obtain rfl:F8=F8':=f8'
 have k6:=k5.rd (by omega) o6 (by decide)
 have sp6:cj st ((⟨tAB s,none⟩:St).rds (a6 (tAB s) [] [98]).1) N F8:=sp6
 rw [dh rfl] at k6 sp6
 have o7:=gF k6.lk [] [97]
 obtain ⟨F9,F9',sp7,f9,f9'⟩:=bR (s:=⟨tAB s,none⟩) sp6 k6 (by omega) (o7.opb (by decide))
 obtain rfl:F9=F9':=f9'
 have k7:=k6.rd (by omega) o7 (by decide)
 have sp7:cj st ((⟨tAB s,none⟩:St).rds (a6 (tAB s) [] [97]).1) N F9:=sp7
 rw [dh rfl] at k7 sp7
 have o8:=gF k7.lk [] [98]
 obtain ⟨F10,F10',sp8,f10,f10'⟩:=bR (s:=⟨tAB s,none⟩) sp7 k7 (by omega) (o8.opb (by decide))
 obtain rfl:F10=F10':=f10'
 have k8:=k7.rd (by omega) o8 (by decide)
 have sp8:cj st ((⟨tAB s,none⟩:St).rds (a6 (tAB s) [] [98]).1) N F10:=sp8
 rw [dh rfl] at k8 sp8
 have o9:=fM k8.lk [] [99] true
 obtain ⟨F11,F11',sp9,f11,f11'⟩:=bR (s:=⟨tAB s,none⟩) sp8 k8 (by omega) (o9.opb (by decide))
 obtain rfl:F11=F11':=f11'
 have k9:=k8.rd (by omega) o9 (by decide)
 have sp9:cj st ((⟨tAB s,none⟩:St).rds (findF (tAB s) [] [99] true).1) N F11:=sp9
 rw [dh rfl] at k9 sp9
 have o10:=BD k9.st [97] [99]
 obtain ⟨F12,F13,sp10,f12,f13⟩:=bR (s:=⟨tAB s,none⟩) sp9 k9 (by omega) o10.b
 have k10:=k9.op (by omega) o10
 have sp10:cj st ((⟨tAB s,none⟩:St).after (bP (tAB s) [] [97] [99])) N F13:=sp10
 have k10:KS ((⟨tAB s,none⟩:St).after (bP (tAB s) [] [97] [99])) [] 10:=k10
 rw [u_3 s] at sp10 k10
 have o11:=fM k10.lk [] [97] true
 obtain ⟨F14,F14',sp11,f14,f14'⟩:=bR (s:=⟨tBC s,none⟩) sp10 k10 (by omega) (o11.opb (by decide))
 obtain rfl:F14=F14':=f14'
 have k11:=k10.rd (by omega) o11 (by decide)
 have sp11:cj st ((⟨tBC s,none⟩:St).rds (findF (tBC s) [] [97] true).1) N F14:=sp11
 rw [dh rfl] at k11 sp11
 have o12:=gF k11.lk [] [99]
 obtain ⟨F15,F15',sp12,f15,f15'⟩:=bR (s:=⟨tBC s,none⟩) sp11 k11 (by omega) (o12.opb (by decide))
 obtain rfl:F15=F15':=f15'
 have k12:=k11.rd (by omega) o12 (by decide)
 have sp12:cj st ((⟨tBC s,none⟩:St).rds (a6 (tBC s) [] [99]).1) N F15:=sp12
 rw [dh rfl] at k12 sp12
 have hn3:∀ nm:Str,nm.length≤10→nm.length≤4000000000:=fun _ h=>by omega
 have hU1:=Se k0.kl (by simp) 0 hpN [116,101,101] s ⟨0,[],[]⟩ (by decide) (by decide) [97] (by decide) (by omega) a1 a2 (by rw [show bj (aY b0.L [] 0 [97] s false).2=0 from by rw [show (aY b0.L [] 0 [97] s false).2=_ from t_1 s h1];rfl];decide)
 rw [show bj (aY b0.L [] 0 [97] s false).2=0 from by rw [show (aY b0.L [] 0 [97] s false).2=_ from t_1 s h1];rfl,ox] at hU1
 have hU2:=SK k1.kl (by simp) 0 hpN [99,112] [] ⟨0,[],[]⟩ (by decide) (by decide) [97] [98] s (by decide) (by decide) (by omega) f3 f4 (t_4 s) [98] (t_3 s) (by decide) f5 f6 (by rw [t_2 s h1];exact th)
 rw [t_2 s h1,show bj (.go [([47,98],mP s)]:Rs Pts)=0 from rfl,ox] at hU2
 have hU3:=s8 (cwd:=[]) k4.kl (by simp) 0 hpN [99,97,116] t ⟨0,[],[]⟩ (by decide) (by omega) (by decide) (by decide) [[97],[45],[98]] (by simp) (by decide) (by simp) (F:=F6) (F':=F8) (by
  unfold lf;rw [if_neg (by decide)]
  refine ⟨F7,f7,?_⟩
  unfold lf;rw [if_pos rfl]
  unfold lf;rw [if_neg (by decide)]
  exact ⟨F8,f8,rfl⟩) (fun a ha=>by
   simp only [List.mem_cons,List.not_mem_nil,or_false] at ha
   rcases ha with rfl|rfl|rfl
   ·rw [t_5 s];exact ⟨th,by show s.length≤_;omega⟩
   ·rw [ac4 s];exact ⟨⟨by decide,by decide⟩,Nat.zero_le _⟩
   ·rw [t_6 s];exact ⟨th,by show s.length≤_;omega⟩)
 rw [show gC (tAB s) [] [99,97,116] t [[97],[45],[98]] ⟨0,[],[]⟩=⟨0,s++t++s,[]⟩ from by
  unfold gC;rw [if_neg (by decide),t_5 s]
  show gC _ _ _ _ [[45],[98]] ⟨0,[]++s,[]⟩=_
  unfold gC;rw [if_pos rfl]
  show gC _ _ _ _ [[98]] ⟨0,[]++s++t,[]⟩=_
  unfold gC;rw [if_neg (by decide),t_6 s]
  rfl] at hU3
 have hU4:=Si k6.kl (by simp) 0 hpN [99,109,112] [] ⟨0,[],[]⟩ (by decide) (by decide) [97] [98] (by decide) (by decide) f9 f10 (by rw [t_5 s];exact th) (by rw [t_6 s];exact th)
 rw [t_5 s,t_6 s,show aaJ (.go s) (.go s) [99,109,112] [97] [98] ⟨0,[],[]⟩=⟨0,[],[]⟩ from if_neg (fun h=>h.2 rfl)] at hU4
 have hU5:=aaH k8.kl (by simp) 0 hpN [109,118] [] ⟨0,[],[]⟩ (by decide) (by decide) [97] [99] (by decide) (by decide) f11 [99] (t_7 s) (by decide) f12 f13 (by rw [t_8 s];exact th)
 rw [t_8 s,show bj (.go [([47,97],Bits.no),([47,99],mP s)]:Rs Pts)=0 from rfl,ox] at hU5
 have hU6:=Sh k10.kl (by simp) 0 hpN [116,101,115,116] [] ⟨0,[],[]⟩ [97] (by decide) f14
 rw [t_9 s] at hU6
 have hU7:=s8 (cwd:=[]) k11.kl (by simp) 0 hpN [99,97,116] [] ⟨0,[],[]⟩ (by decide) (by decide) (by decide) (by decide) [[99]] (by simp) (by decide) (by simp) (F:=F14) (F':=F15) (by unfold lf;rw [if_neg (by decide)];exact ⟨F15,f15,rfl⟩) (fun a ha=>by rw [List.mem_singleton.1 ha,acz s];exact ⟨th,by show s.length≤_;omega⟩)
 rw [show gC (tBC s) [] [99,97,116] [] [[99]] ⟨0,[],[]⟩=⟨0,s,[]⟩ from by
  unfold gC;rw [if_neg (by decide),acz s]
  rfl] at hU7
 have hA1:=fun p hp hpp hO=>cV [116,101,101] [[97]] s 48 (by kernel_rfl) (by kernel_rfl) _ hU1 hpN p hp hpp hO
 have hA2:=fun p hp hpp hO=>cV [99,112] [[97],[98]] [] 36 (by kernel_rfl) (by kernel_rfl) _ hU2 hpN p hp hpp hO
 have hA3:=fun p hp hpp hO=>cV [99,97,116] [[97],[45],[98]] t 35 (by kernel_rfl) (by kernel_rfl) _ hU3 hpN p hp hpp hO
 have hA4:=fun p hp hpp hO=>cV [99,109,112] [[97],[98]] [] 47 (by kernel_rfl) (by kernel_rfl) _ hU4 hpN p hp hpp hO
 have hA5:=fun p hp hpp hO=>cV [109,118] [[97],[99]] [] 37 (by kernel_rfl) (by kernel_rfl) _ hU5 hpN p hp hpp hO
 have hA6:=fun p hp hpp hO=>cV [116,101,115,116] [[45,101],[97]] [] 45 (by kernel_rfl) (by kernel_rfl) _ hU6 hpN p hp hpp hO
 have hA7:=fun p hp hpp hO=>cV [99,97,116] [[99]] [] 35 (by kernel_rfl) (by kernel_rfl) _ hU7 hpN p hp hpp hO
 clear hU1 hU2 hU3 hU4 hU5 hU6 hU7 sp0 k0 o1 sp1 a1 a2 k1 o2 sp2 f3 k2 o3 sp3 f4 k3 o4 sp4 f5 f6 k4 o5 sp5 f7 k5 o6 sp6 f8 k6 o7 sp7 f9 k7 o8 sp8 f10 k8 o9 sp9 f11 k9 o10 sp10 f12 f13 k10 o11 sp11 f14 k11 o12 sp12 f15 k12 hu hPK hn3
 simp only [Res.av,List.map_cons,List.map_nil] at hA1 hA2 hA3 hA4 hA5 hA6 hA7
 unfold prC at hA1 hA2 hA3 hA4 hA5 hA6 hA7 hcp hcq
 rw [mO,hcy,hcp,hcq]
 (try ((first|refine zn ?_|refine ze ?_|refine zk ?_);with_reducible (constructor;repeat constructor));try refine zl ?_)
 refine ay nmd [] hng (by kernel_rfl) fun hf C S K hC1 hC hS hK=>?_;simp (disch:=first|omega|assumption) only [go_sem,Q7,Q8,Q9,Q10,Q11,Q12,Q13,hyN,hpN,hqN,hdj,hyM,hpM,hqM,yp,yq,pq,yp',yq',pq']
 refine hC1 _ (hA1 _ (ar rfl hp) (hpp _ _ (by omega)) (hON.sub (by omega) _)) (by simp only [List.mem_cons,forall_eq_or_imp];exact ⟨by simp (disch:=first|omega|assumption) only [go_sem,Q7,Q8,Q9,Q10,Q11,Q12,Q13,hyN,hpN,hqN,hdj,hyM,hpM,hqM,yp,yq,pq,yp',yq',pq'],(by first|exact gG _|exact iu (by simp [hyN,hpN,hqN,Q7,Q8,Q9,Q10,Q11,Q12,Q13]) _)⟩) ?_
 simp (disch:=first|omega|assumption) only [go_sem,Q7,Q8,Q9,Q10,Q11,Q12,Q13,hyN,hpN,hqN,hdj,hyM,hpM,hqM,yp,yq,pq,yp',yq',pq']
 refine hK ?_;clear hK hS hC hC1 K S C hf
 (try ((first|refine zn ?_|refine ze ?_|refine zk ?_);with_reducible (constructor;repeat constructor));try refine zl ?_)
 refine ay nmd [] hng (by kernel_rfl) fun hf C S K hC1 hC hS hK=>?_;simp (disch:=first|omega|assumption) only [go_sem,Q7,Q8,Q9,Q10,Q11,Q12,Q13,hyN,hpN,hqN,hdj,hyM,hpM,hqM,yp,yq,pq,yp',yq',pq']
 refine hC1 _ (hA2 _ (ar rfl hp) (hpp _ _ (by omega)) (hON.sub (by omega) _)) (by simp only [List.mem_cons,forall_eq_or_imp];exact ⟨by simp (disch:=first|omega|assumption) only [go_sem,Q7,Q8,Q9,Q10,Q11,Q12,Q13,hyN,hpN,hqN,hdj,hyM,hpM,hqM,yp,yq,pq,yp',yq',pq'],(by first|exact gG _|exact iu (by simp [hyN,hpN,hqN,Q7,Q8,Q9,Q10,Q11,Q12,Q13]) _)⟩) ?_
 simp (disch:=first|omega|assumption) only [go_sem,Q7,Q8,Q9,Q10,Q11,Q12,Q13,hyN,hpN,hqN,hdj,hyM,hpM,hqM,yp,yq,pq,yp',yq',pq']
 refine hK ?_;clear hK hS hC hC1 K S C hf
 (try ((first|refine zn ?_|refine ze ?_|refine zk ?_);with_reducible (constructor;repeat constructor));try refine zl ?_)
 refine ay nmd [] hng (by kernel_rfl) fun hf C S K hC1 hC hS hK=>?_;simp (disch:=first|omega|assumption) only [go_sem,Q7,Q8,Q9,Q10,Q11,Q12,Q13,hyN,hpN,hqN,hdj,hyM,hpM,hqM,yp,yq,pq,yp',yq',pq']
 refine hC1 _ (hA3 _ (ar rfl hp) (hpp _ _ (by omega)) (hON.sub (by omega) _)) (by simp only [List.mem_cons,forall_eq_or_imp];exact ⟨by simp (disch:=first|omega|assumption) only [go_sem,Q7,Q8,Q9,Q10,Q11,Q12,Q13,hyN,hpN,hqN,hdj,hyM,hpM,hqM,yp,yq,pq,yp',yq',pq'],(by first|exact gG _|exact iu (by simp [hyN,hpN,hqN,Q7,Q8,Q9,Q10,Q11,Q12,Q13]) _)⟩) ?_
 simp (disch:=first|omega|assumption) only [go_sem,Q7,Q8,Q9,Q10,Q11,Q12,Q13,hyN,hpN,hqN,hdj,hyM,hpM,hqM,yp,yq,pq,yp',yq',pq']
 refine hK ?_;clear hK hS hC hC1 K S C hf
 (try ((first|refine zn ?_|refine ze ?_|refine zk ?_);with_reducible (constructor;repeat constructor));try refine zl ?_)
 refine ay nmd [] hng (by kernel_rfl) fun hf C S K hC1 hC hS hK=>?_;simp (disch:=first|omega|assumption) only [go_sem,Q7,Q8,Q9,Q10,Q11,Q12,Q13,hyN,hpN,hqN,hdj,hyM,hpM,hqM,yp,yq,pq,yp',yq',pq']
 refine hC1 _ (hA4 _ (ar rfl hp) (hpp _ _ (by omega)) (hON.sub (by omega) _)) (by simp only [List.mem_cons,forall_eq_or_imp];exact ⟨by simp (disch:=first|omega|assumption) only [go_sem,Q7,Q8,Q9,Q10,Q11,Q12,Q13,hyN,hpN,hqN,hdj,hyM,hpM,hqM,yp,yq,pq,yp',yq',pq'],(by first|exact gG _|exact iu (by simp [hyN,hpN,hqN,Q7,Q8,Q9,Q10,Q11,Q12,Q13]) _)⟩) ?_
 simp (disch:=first|omega|assumption) only [go_sem,Q7,Q8,Q9,Q10,Q11,Q12,Q13,hyN,hpN,hqN,hdj,hyM,hpM,hqM,yp,yq,pq,yp',yq',pq']
 refine hK ?_;clear hK hS hC hC1 K S C hf
 (try ((first|refine zn ?_|refine ze ?_|refine zk ?_);with_reducible (constructor;repeat constructor));try refine zl ?_)
 refine ay nmd [] hng (by kernel_rfl) fun hf C S K hC1 hC hS hK=>?_;simp (disch:=first|omega|assumption) only [go_sem,Q7,Q8,Q9,Q10,Q11,Q12,Q13,hyN,hpN,hqN,hdj,hyM,hpM,hqM,yp,yq,pq,yp',yq',pq']
 refine hC1 _ (hA5 _ (ar rfl hp) (hpp _ _ (by omega)) (hON.sub (by omega) _)) (by simp only [List.mem_cons,forall_eq_or_imp];exact ⟨by simp (disch:=first|omega|assumption) only [go_sem,Q7,Q8,Q9,Q10,Q11,Q12,Q13,hyN,hpN,hqN,hdj,hyM,hpM,hqM,yp,yq,pq,yp',yq',pq'],(by first|exact gG _|exact iu (by simp [hyN,hpN,hqN,Q7,Q8,Q9,Q10,Q11,Q12,Q13]) _)⟩) ?_
 simp (disch:=first|omega|assumption) only [go_sem,Q7,Q8,Q9,Q10,Q11,Q12,Q13,hyN,hpN,hqN,hdj,hyM,hpM,hqM,yp,yq,pq,yp',yq',pq']
 refine hK ?_;clear hK hS hC hC1 K S C hf
 (try ((first|refine zn ?_|refine ze ?_|refine zk ?_);with_reducible (constructor;repeat constructor));try refine zl ?_)
 refine ay nmd [] hng (by kernel_rfl) fun hf C S K hC1 hC hS hK=>?_;simp (disch:=first|omega|assumption) only [go_sem,Q7,Q8,Q9,Q10,Q11,Q12,Q13,hyN,hpN,hqN,hdj,hyM,hpM,hqM,yp,yq,pq,yp',yq',pq']
 refine hC1 _ (hA6 _ (ar rfl hp) (hpp _ _ (by omega)) (hON.sub (by omega) _)) (by simp only [List.mem_cons,forall_eq_or_imp];exact ⟨by simp (disch:=first|omega|assumption) only [go_sem,Q7,Q8,Q9,Q10,Q11,Q12,Q13,hyN,hpN,hqN,hdj,hyM,hpM,hqM,yp,yq,pq,yp',yq',pq'],(by first|exact gG _|exact iu (by simp [hyN,hpN,hqN,Q7,Q8,Q9,Q10,Q11,Q12,Q13]) _)⟩) ?_
 simp (disch:=first|omega|assumption) only [go_sem,Q7,Q8,Q9,Q10,Q11,Q12,Q13,hyN,hpN,hqN,hdj,hyM,hpM,hqM,yp,yq,pq,yp',yq',pq']
 refine hK ?_;clear hK hS hC hC1 K S C hf
 (try ((first|refine zn ?_|refine ze ?_|refine zk ?_);with_reducible (constructor;repeat constructor));try refine zl ?_)
 refine ay nmd [] hng (by kernel_rfl) fun hf C S K hC1 hC hS hK=>?_;simp (disch:=first|omega|assumption) only [go_sem,Q7,Q8,Q9,Q10,Q11,Q12,Q13,hyN,hpN,hqN,hdj,hyM,hpM,hqM,yp,yq,pq,yp',yq',pq']
 refine hC1 _ (hA7 _ (ar rfl hp) (hpp _ _ (by omega)) (hON.sub (by omega) _)) (by simp only [List.mem_cons,forall_eq_or_imp];exact ⟨by simp (disch:=first|omega|assumption) only [go_sem,Q7,Q8,Q9,Q10,Q11,Q12,Q13,hyN,hpN,hqN,hdj,hyM,hpM,hqM,yp,yq,pq,yp',yq',pq'],(by first|exact gG _|exact iu (by simp [hyN,hpN,hqN,Q7,Q8,Q9,Q10,Q11,Q12,Q13]) _)⟩) ?_
 simp (disch:=first|omega|assumption) only [go_sem,Q7,Q8,Q9,Q10,Q11,Q12,Q13,hyN,hpN,hqN,hdj,hyM,hpM,hqM,yp,yq,pq,yp',yq',pq']
 refine hK ?_;clear hK hS hC hC1 K S C hf
 (try ((first|refine zn ?_|refine ze ?_|refine zk ?_);with_reducible (constructor;repeat constructor));try refine zl ?_)
 refine ay nmd [(1,108),(7,114),(12,119),(22,129),(27,134),(32,139),(37,144),(42,149)] hng (by kernel_rfl) fun hf C S K hC1 hC hS hK=>?_;simp (disch:=first|omega|assumption) only [go_sem,Q7,Q8,Q9,Q10,Q11,Q12,Q13,hyN,hpN,hqN,hdj,hyM,hpM,hqM,yp,yq,pq,yp',yq',pq',eq_self,decide_true,decide_false,ne_eq,not_true_eq_false,not_false_eq_true]
 refine hK ?_;clear hK hS hC hC1 K S C hf
 (repeat (first|(refine aB rfl rfl ?_)|(refine aC rfl rfl ?_)|(refine ay nmd [] hng (by kernel_rfl) fun hf C S K hC1 hC hS hK=>?_;simp (disch:=first|omega|assumption) only [go_sem];refine hK ?_;clear hK hS hC hC1 K S C hf)|((first|refine zn ?_|refine ze ?_|refine zk ?_);with_reducible (constructor;repeat constructor);try refine zl ?_)))
 exact aE (b6 rfl)
end Go.Proofs.YtngffmnomciogaaGreatDoor
namespace Go.Proofs.YtngffmnomciogaaGreatDoor
open Go Go.Ab
set_option maxRecDepth 100000
theorem c_str:Tryz.prog.cellsOf 9=1:=by kernel_rfl
end Go.Proofs.YtngffmnomciogaaGreatDoor
