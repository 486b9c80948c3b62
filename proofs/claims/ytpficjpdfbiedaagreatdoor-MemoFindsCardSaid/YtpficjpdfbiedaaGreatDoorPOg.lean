/- A part of the proof: the texts E1, FwW, FwG, G1, G2, SY, G3, G4, FwO, E2, FwQ, E3, E4, E5, E6, E7, E8, E9, E10, E11, E12, E13, E14, E15, E16, E17, MZ, one behind the other. -/
import Derived.Test.YtpficjpdfbiedaaGreatDoorPOf
set_option linter.unusedVariables false
set_option linter.unusedSimpArgs false
set_option linter.unusedSectionVars false
namespace Go.Proofs.YtpficjpdfbiedaaGreatDoor
open Go Go.Ab
set_option maxRecDepth 20000
theorem xJ:∀ (k:Nat) (s:Str) (l:List Str),s.length≤k→gZ s=some l→bg l=s
 | 0,s,l,hk,h=>by
  obtain rfl:=List.length_eq_zero_iff.1 (Nat.le_zero.1 hk)
  rw [oB] at h
  obtain rfl:=Option.some.inj h;rfl
 | k+1,s,l,hk,h=>by
  by_cases h0:s=[]
  ·subst h0
   rw [oB] at h
   obtain rfl:=Option.some.inj h;rfl
  by_cases hok:okS s
  ·rw [ma h0 hok,Option.map_eq_some_iff] at h
   obtain ⟨t,ht,rfl⟩:=h
   have hlt:=ly h0
   have ih:=xJ k _ t (by omega) ht
   rw [bg,ih]
   obtain ⟨a1,a2,a3,a4⟩:=hok
   have hnum:Lib.itoa (bn (cY s))=cY s:=by
    simp only [eN,Bool.and_eq_true,decide_eq_true_eq] at a2;exact a2.2
   have hpos:=tK a2
   have hsz:(dQ s:Int)=bn (cY s):=by unfold dQ;omega
   have hlen:((cI s).take (dQ s)).length=dQ s:=by rw [List.length_take];omega
   have hidx:=oC 58 s
   obtain ⟨i,e1,e2,e3,e4⟩:=hidx.resolve_left (fun h=>by omega)
   have hcol:colon s=i:=by unfold colon;omega
   have hs:s=cY s++58::cI s:=by
    have h1:s.drop i=58::s.drop (i+1):=by rw [oA e2,e3]
    have h2:=(List.take_append_drop i s).symm
    rw [h1] at h2
    unfold cY cI
    rw [hcol];exact h2
   have hr:cI s=(cI s).take (dQ s)++44::(cI s).drop (dQ s+1):=by
    have h1:(cI s).drop (dQ s)=44::(cI s).drop (dQ s+1):=by rw [oA (by omega),a4]
    have h2:=(List.take_append_drop (dQ s) (cI s)).symm
    rw [h1] at h2;exact h2
   rw [chunk,hlen,hsz,hnum]
   conv=>rhs;rw [hs,hr]
   simp only [List.append_assoc,List.singleton_append,List.cons_append,List.nil_append]
  ·rw [iI h0 hok] at h;cases h
theorem CM {s:Str} {l:List Str} (h:gZ s=some l):bg l=s:=xJ s.length s l (Nat.le_refl _) h
def xK (b:Bool):Str:=if b=true then [49] else [48]
def spT:List Tch→List Str
 | []=>[]
 | t::l=>t.1.1::xK t.1.2::t.2::spT l
def lL:List Str→Option (List Tch)
 | []=>some []
 | a::b::c::l=>if b=[48]∨b=[49] then (lL l).map (((a,decide (b=[49])),c)::·) else none
 | _=>none
def fV (l:List Tch):Str:=bg (spT l)
def mZ (s:Str):Option (List Tch):=(gZ s).bind lL
theorem sB:∀ l:List Tch,(spT l).length=3 * l.length
 | []=>rfl
 | _::l=>by simp only [spT,List.length_cons,sB l];omega
structure Mm where
 key:Str
 rd:List Tch
 wr:List Tch
 st:Int
 out:Str
 err:Str
def Mm.no:Mm:=⟨[],[],[],0,[],[]⟩
def CN (m:Mm):Str:=bg [m.key,fV m.rd,fV m.wr,Lib.itoa m.st,m.out,m.err]
def mk6 (k:Str) (r w:Option (List Tch)) (n o e:Str):Option Mm:=match r,w with
 | some r,some w=>if eN n=true then some ⟨k,r,w,bn n,o,e⟩ else none
 | _,_=>none
def uE (s:Str):Option Mm:=match gZ s with
 | some [k,r,w,n,o,e]=>mk6 k (mZ r) (mZ w) n o e
 | _=>none
structure Mm.small (m:Mm) (c:Nat):Prop where
 k:m.key.length≤c
 o:m.out.length≤c
 e:m.err.length≤c
 r:∀ t ∈ m.rd,t.1.1.length≤c∧t.2.length≤c
 w:∀ t ∈ m.wr,t.1.1.length≤c∧t.2.length≤c
 rl:m.rd.length≤c
 wl:m.wr.length≤c
end Go.Proofs.YtpficjpdfbiedaaGreatDoor
namespace Go.Ab
abbrev W32:=BitVec 32
def w32 (x:W32):AV:=.int .u32 x.toNat
theorem uF:IntKind.u32.bits=32:=rfl
theorem wrap32 (n:Int):IntKind.u32.wrap n=((BitVec.ofInt 32 n).toNat:Int):=by
 rw [BitVec.toNat_ofInt]
 have e:IntKind.u32.wrap n=n % (2 ^ 32:Int):=by simp [IntKind.wrap,IntKind.signed,IntKind.bits]
 rw [e]
 have:=Int.emod_nonneg n (show (2 ^ 32:Int)≠0 by decide)
 omega
theorem ofInt32 (x:W32):BitVec.ofInt 32 (x.toNat:Int)=x:=by
 rw [BitVec.ofInt_natCast,BitVec.ofNat_toNat,BitVec.setWidth_eq]
theorem wm (a b:W32):dI .add .u32 (a.toNat:Int) (b.toNat:Int)=some (.int .u32 ((a+b).toNat:Int)):=by
 rw [show dI .add .u32 (a.toNat:Int) (b.toNat:Int)=some (.int .u32 (IntKind.u32.wrap ((a.toNat:Int)+(b.toNat:Int)))) from rfl,wrap32,BitVec.ofInt_add,ofInt32,ofInt32]
theorem pa (a b:W32):dI .and .u32 (a.toNat:Int) (b.toNat:Int)=some (.int .u32 ((a &&& b).toNat:Int)):=by
 rw [show dI .and .u32 (a.toNat:Int) (b.toNat:Int)=some (.int .u32 (IntKind.u32.wrap (BitVec.ofInt 32 a.toNat &&& BitVec.ofInt 32 b.toNat).toNat)) from rfl,wrap32,ofInt32,ofInt32,ofInt32]
theorem zJ (a b:W32):dI .or .u32 (a.toNat:Int) (b.toNat:Int)=some (.int .u32 ((a ||| b).toNat:Int)):=by
 rw [show dI .or .u32 (a.toNat:Int) (b.toNat:Int)=some (.int .u32 (IntKind.u32.wrap (BitVec.ofInt 32 a.toNat ||| BitVec.ofInt 32 b.toNat).toNat)) from rfl,wrap32,ofInt32,ofInt32,ofInt32]
theorem wo (a b:W32):dI .xor .u32 (a.toNat:Int) (b.toNat:Int)=some (.int .u32 ((a ^^^ b).toNat:Int)):=by
 rw [show dI .xor .u32 (a.toNat:Int) (b.toNat:Int)=some (.int .u32 (IntKind.u32.wrap (BitVec.ofInt 32 a.toNat ^^^ BitVec.ofInt 32 b.toNat).toNat)) from rfl,wrap32,ofInt32,ofInt32,ofInt32]
theorem sC (a:W32) (b:Int):fL .shl .u32 (a.toNat:Int) b=gd (0≤b) (some (.int .u32 ((a <<< b.toNat).toNat:Int))):=by
 unfold fL gd
 by_cases h:0≤b
 ·rw [if_neg (by omega),if_pos h]
  simp only [uF,wrap32]
  congr 3
  rw [BitVec.toNat_shiftLeft,Nat.shiftLeft_eq]
  have e:((a.toNat:Int) * 2 ^ (min b.toNat 32))=((a.toNat * 2 ^ (min b.toNat 32):Nat):Int):=by push_cast;rfl
  rw [e,BitVec.ofInt_natCast,BitVec.toNat_ofNat]
  by_cases h2:b.toNat≤32
  ·rw [Nat.min_eq_left h2]
  ·rw [Nat.min_eq_right (by omega),Nat.mul_mod_left]
   have e2:b.toNat=32+(b.toNat - 32):=by omega
   rw [e2,Nat.pow_add,← Nat.mul_assoc,Nat.mul_right_comm,Nat.mul_mod_left]
 ·rw [if_pos (by omega),if_neg h]
theorem sD (a:W32) (b:Int):fL .shr .u32 (a.toNat:Int) b=gd (0≤b) (some (.int .u32 ((a >>> b.toNat).toNat:Int))):=by
 unfold fL gd
 by_cases h:0≤b
 ·rw [if_neg (by omega),if_pos h]
  simp only [uF]
  congr 2
  rw [BitVec.toNat_ushiftRight,Nat.shiftRight_eq_div_pow]
  have e:(2:Int) ^ (min b.toNat 32)=((2 ^ (min b.toNat 32):Nat):Int):=by push_cast;rfl
  rw [e,Int.fdiv_eq_ediv_of_nonneg _ (Int.natCast_nonneg _),← Int.natCast_ediv]
  congr 1
  by_cases h2:b.toNat≤32
  ·rw [Nat.min_eq_left h2]
  ·rw [Nat.min_eq_right (by omega),Nat.div_eq_of_lt a.isLt,Nat.div_eq_of_lt]
   exact Nat.lt_of_lt_of_le a.isLt (Nat.pow_le_pow_right (by decide) (by omega))
 ·rw [if_pos (by omega),if_neg h]
theorem zK (x:UInt8):IntKind.u32.wrap (x.toNat:Int)=((BitVec.ofNat 32 x.toNat).toNat:Int):=by
 rw [wrap32,BitVec.ofInt_natCast]
attribute [go_sem high] wm pa zJ wo sC sD zK
theorem Fw (x:W32):(w32 x).one=true:=rfl
theorem pb {l:List W32} {i:Nat} (h:i < l.length) (d:AV):(l.map w32).getD i d = .int .u32 ((l.getD i 0).toNat:Int):=by
 simp [List.getD_eq_getElem?_getD,List.getElem?_map,List.getElem?_eq_getElem h,w32]
def mD (x:W32) (n:Nat):W32:=x >>> n ||| x <<< (32 - n)
end Go.Ab
namespace Go.Ab
structure S8 where
 a:W32
 b:W32
 c:W32
 d:W32
 e:W32
 f:W32
 g:W32
 h:W32
def S8.l (x:S8):List W32:=[x.a,x.b,x.c,x.d,x.e,x.f,x.g,x.h]
def Jr (e:W32):W32:=mD e 6 ^^^ mD e 11 ^^^ mD e 25
def Js (a:W32):W32:=mD a 2 ^^^ mD a 13 ^^^ mD a 22
def chP (e f g:W32):W32:=g ^^^ (e &&& (f ^^^ g))
def Jt (a b c:W32):W32:=(a &&& b) ||| (c &&& (a ||| b))
def S8.rnd (x:S8) (k w:W32):S8 :=
 let t:=x.h+Jr x.e+chP x.e x.f x.g+k+w
 let u:=Js x.a+Jt x.a x.b x.c
 ⟨t+u,x.a,x.b,x.c,x.d+t,x.e,x.f,x.g⟩
def nE (K W:List W32) (x:S8):Nat→S8
 | 0=>x
 | n+1=>(nE K W x n).rnd (K.getD n 0) (W.getD n 0)
def Fx (b:UInt8):W32:=BitVec.ofNat 32 b.toNat
def wd (b:List UInt8):W32:=Fx (b.getD 0 0) <<< 24 ||| Fx (b.getD 1 0) <<< 16 ||| Fx (b.getD 2 0) <<< 8 ||| Fx (b.getD 3 0)
def Fy (x:W32):W32:=mD x 7 ^^^ mD x 18 ^^^ x >>> 3
def Fz (y:W32):W32:=mD y 17 ^^^ mD y 19 ^^^ y >>> 10
def uG (b:List UInt8) (l:List W32) (i:Nat):W32 :=
 if i < 16 then wd (b.drop (4 * i)) else l.getD (i - 16) 0+l.getD (i - 7) 0+Fy (l.getD (i - 15) 0)+Fz (l.getD (i - 2) 0)
def eT (b:List UInt8):Nat→List W32
 | 0=>[]
 | n+1=>eT b n++[uG b (eT b n) n]
theorem fh (b:List UInt8):∀ n,(eT b n).length=n
 | 0=>rfl
 | n+1=>by simp [eT,fh b n]
def bO (b:List UInt8) (n:Nat):List W32:=eT b n++List.replicate (64 - n) 0
theorem wq (b:List UInt8) {n:Nat} (h:n≤64):(bO b n).length=64:=by
 simp [bO,fh];omega
theorem jd (b:List UInt8) {n i:Nat} (h:i < n):(bO b n).getD i 0=(eT b n).getD i 0:=by
 simp [bO,List.getD_eq_getElem?_getD,List.getElem?_append_left (show i < (eT b n).length by rw [fh];exact h)]
theorem pc (b:List UInt8) {n:Nat} (h:n < 64):(bO b n).set n (uG b (eT b n) n)=bO b (n+1):=by
 unfold bO
 rw [List.set_append_right _ _ (by rw [fh];exact Nat.le_refl _),fh,Nat.sub_self]
 have e:List.replicate (64 - n) (0:W32)=0::List.replicate (64 - (n+1)) 0:=by
  rw [← List.replicate_succ];congr 1;omega
 rw [e,List.set_cons_zero]
 simp [eT]
theorem wu (b:List UInt8):bO b 64=eT b 64:=by simp [bO]
def lM (h x:List W32) (n:Nat):List W32:=(List.range 8).map fun j=>if j < n then h.getD j 0+x.getD j 0 else h.getD j 0
theorem jN (h x:List W32) (n:Nat):(lM h x n).length=8:=by simp [lM]
theorem CO (h x:List W32) (n:Nat) {j:Nat} (hj:j < 8):(lM h x n).getD j 0=if j < n then h.getD j 0+x.getD j 0 else h.getD j 0:=by
 simp [lM,List.getD_eq_getElem?_getD,hj]
theorem Ia {h:List W32} (hh:h.length=8) (x:List W32):lM h x 0=h:=by
 apply List.ext_getElem (by rw [jN,hh])
 intro j h1 h2
 simp [lM,List.getD_eq_getElem?_getD,h2]
theorem CP (h x:List W32) {n:Nat} (hn:n < 8):(lM h x n).set n (h.getD n 0+x.getD n 0)=lM h x (n+1):=by
 apply List.ext_getElem (by simp [jN])
 intro j h1 h2
 simp only [List.getElem_set]
 simp only [lM,List.getElem_map,List.getElem_range]
 by_cases e:n=j
 ·subst e;rw [if_pos rfl,if_pos (by omega)]
 ·rw [if_neg e]
  by_cases e2:j < n
  ·rw [if_pos e2,if_pos (by omega)]
  ·rw [if_neg e2,if_neg (by omega)]
def S8.of (l:List W32):S8:=⟨l.getD 0 0,l.getD 1 0,l.getD 2 0,l.getD 3 0,l.getD 4 0,l.getD 5 0,l.getD 6 0,l.getD 7 0⟩
theorem S8.Ju (x:S8):S8.of x.l=x:=rfl
def mE (K:List W32) (h:List W32) (b:List UInt8):List W32:=lM h (nE K (eT b 64) (S8.of h) 64).l 8
def fv (K:List W32):Nat→List W32→List UInt8→List W32
 | 0,h,_=>h
 | n+1,h,t=>fv K n (mE K h (t.take 64)) (t.drop 64)
def nt (n i:Nat):UInt8:=UInt8.ofNat (n * 8 / 2 ^ (8 * i))
def kP (n:Nat):List UInt8:=128::List.replicate ((64+56 - 1 - n % 64) % 64) 0++[nt n 7,nt n 6,nt n 5,nt n 4,nt n 3,nt n 2,nt n 1,nt n 0]
theorem pd (n:Nat):(kP n).length=1+(64+56 - 1 - n % 64) % 64+8:=by simp [kP];omega
theorem Ib (s:List UInt8):∃ k,(s++kP s.length).length=64 * (k+1):=by
 rw [List.length_append,pd]
 refine ⟨(s.length+(1+(64+56 - 1 - s.length % 64) % 64+8)) / 64 - 1,?_⟩
 omega
def I4:List UInt8:=[48,49,50,51,52,53,54,55,56,57,97,98,99,100,101,102]
def sE (x:W32) (k:Nat):UInt8:=I4.getD ((x >>> k) &&& 15).toNat 0
def mF (x:W32):List UInt8:=[sE x 28,sE x 24,sE x 20,sE x 16,sE x 12,sE x 8,sE x 4,sE x 0]
def cf:List W32:=[
 1116352408,1899447441,3049323471,3921009573,961987163,1508970993,2453635748,2870763221,
 3624381080,310598401,607225278,1426881987,1925078388,2162078206,2614888103,3248222580,
 3835390401,4022224774,264347078,604807628,770255983,1249150122,1555081692,1996064986,
 2554220882,2821834349,2952996808,3210313671,3336571891,3584528711,113926993,338241895,
 666307205,773529912,1294757372,1396182291,1695183700,1986661051,2177026350,2456956037,
 2730485921,2820302411,3259730800,3345764771,3516065817,3600352804,4094571909,275423344,
 430227734,506948616,659060556,883997877,958139571,1322822218,1537002063,1747873779,
 1955562222,2024104815,2227730452,2361852424,2428436474,2756734187,3204031479,3329325298]
def q7:List W32:=[1779033703,3144134277,1013904242,2773480762,1359893119,2600822924,528734635,1541459225]
def uH (s:List UInt8):List UInt8:=((fv cf ((s++kP s.length).length / 64) q7 (s++kP s.length)).map mF).flatten
theorem nb (K:List W32):∀ (n:Nat) (h:List W32) (t:List UInt8),h.length=8→(fv K n h t).length=8
 | 0,_,_,hh=>hh
 | n+1,h,t,_=>nb K n _ _ (jN _ _ _)
theorem CQ (s:List UInt8):(uH s).length=64:=by
 unfold uH
 have h:=nb cf ((s++kP s.length).length / 64) q7 (s++kP s.length) rfl
 generalize fv cf ((s++kP s.length).length / 64) q7 (s++kP s.length)=l at h
 rw [List.length_flatten,List.map_map]
 have e:(List.length ∘ mF)=fun _=>8:=rfl
 rw [e,List.map_const',h];rfl
end Go.Ab
namespace Go.Proofs.YtpficjpdfbiedaaGreatDoor
open Go Go.Ab
set_option maxRecDepth 20000
set_option maxHeartbeats 400000
theorem I5:∀ n:Nat,n < 32→0 < n→IntKind.u64.wrap (BitVec.ofInt IntKind.u64.bits (IntKind.u64.wrap (0 - (n:Int))) &&& BitVec.ofInt IntKind.u64.bits 31).toNat=((32 - n:Nat):Int):=by decide
theorem I6:∀ n:Nat,n < 32→0 < n→IntKind.u64.wrap (32 - ((32 - n:Nat):Int))=(n:Int):=by decide
theorem FA {n:Nat} (h:n < 32) (h0:0 < n):dI .and .u64 (IntKind.u64.wrap (0 - (n:Int))) 31=some (.int .u64 ((32 - n:Nat):Int)):=congrArg (fun z=>some (AV.int .u64 z)) (I5 n h h0)
theorem FB {n:Nat} (h:n < 32) (h0:0 < n):dI .sub .u64 32 ((32 - n:Nat):Int)=some (.int .u64 (n:Int)):=congrArg (fun z=>some (AV.int .u64 z)) (I6 n h h0)
attribute [go_sem high] FA FB
theorem FC (x:W32) (n:Nat) (h0:0 < n) (h:n < 32) (p:Oid):aj Tryz.prog 138 [.int .u32 x.toNat,.int .i64 (0 - (n:Int))] (Oid.under p) ⟨[],.int .u32 (mD x n).toNat,[]⟩:=by
 have h3:mD x n=x <<< (32 - n) ||| x >>> n:=BitVec.or_comm _ _
 refine aA (n:=17) (rs:=[.tmp 4]) Tryz.func138 rfl rfl (by decide) rfl rfl rfl ?_;rintro x rfl hrd hng
 refine qw0 ?_
 rw [h3]
 exact ay (bS rfl)
theorem dt (x:W32) (n:Nat) (h0:0 < n) (h:n < 32) (p:Oid):aj Tryz.prog 111 [.int .u32 x.toNat,.int .i64 n] (Oid.under p) ⟨[],.int .u32 (mD x n).toNat,[]⟩:=by
 have hr:=fun p=>FC x n h0 h p
 refine aA (n:=9) (rs:=[.tmp 4]) Tryz.func111 rfl rfl (by decide) rfl rfl rfl ?_;rintro x rfl hrd hng
 refine qw0 ?_
 refine qr1 (hr _) ?_
 refine qw0 ?_
 exact ay (bS rfl)
theorem FD (b:List UInt8) (h:4≤b.length) (p:Oid):aj Tryz.prog 137 [.str b] (Oid.under p) ⟨[],.int .u32 (wd b).toNat,[]⟩:=by
 refine aA (n:=21) (rs:=[.tmp 2]) Tryz.func137 rfl rfl (by decide) rfl rfl rfl ?_;rintro x rfl hrd hng
 refine qw0 ?_
 refine qd (.d [] [] [2]) trivial trivial ?_
 refine qw0 ?_
 exact ay (bS rfl)
theorem xL:∀ l:List W32,(l.map w32).all AV.one=true
 | []=>rfl
 | _::l=>by simp [Fw,xL l]
theorem cM:cf.length=64:=rfl
theorem uI:kx Tryz.prog 145 [(0,.int .u32 1116352408),(1,.int .u32 1899447441),(2,.int .u32 3049323471),(3,.int .u32 3921009573),(4,.int .u32 961987163),(5,.int .u32 1508970993),(6,.int .u32 2453635748),(7,.int .u32 2870763221),(8,.int .u32 3624381080),(9,.int .u32 310598401),(10,.int .u32 607225278),(11,.int .u32 1426881987),(12,.int .u32 1925078388),(13,.int .u32 2162078206),(14,.int .u32 2614888103),(15,.int .u32 3248222580),(16,.int .u32 3835390401),(17,.int .u32 4022224774),(18,.int .u32 264347078),(19,.int .u32 604807628),(20,.int .u32 770255983),(21,.int .u32 1249150122),(22,.int .u32 1555081692),(23,.int .u32 1996064986),(24,.int .u32 2554220882),(25,.int .u32 2821834349),(26,.int .u32 2952996808),(27,.int .u32 3210313671),(28,.int .u32 3336571891),(29,.int .u32 3584528711),(30,.int .u32 113926993),(31,.int .u32 338241895),(32,.int .u32 666307205),(33,.int .u32 773529912),(34,.int .u32 1294757372),(35,.int .u32 1396182291),(36,.int .u32 1695183700),(37,.int .u32 1986661051),(38,.int .u32 2177026350),(39,.int .u32 2456956037),(40,.int .u32 2730485921),(41,.int .u32 2820302411),(42,.int .u32 3259730800),(43,.int .u32 3345764771),(44,.int .u32 3516065817),(45,.int .u32 3600352804),(46,.int .u32 4094571909),(47,.int .u32 275423344),(48,.int .u32 430227734),(49,.int .u32 506948616),(50,.int .u32 659060556),(51,.int .u32 883997877),(52,.int .u32 958139571),(53,.int .u32 1322822218),(54,.int .u32 1537002063),(55,.int .u32 1747873779),(56,.int .u32 1955562222),(57,.int .u32 2024104815),(58,.int .u32 2227730452),(59,.int .u32 2361852424),(60,.int .u32 2428436474),(61,.int .u32 2756734187),(62,.int .u32 3204031479),(63,.int .u32 3329325298)]=some (.agg (cf.map w32)):=by kernel_rfl
theorem zM (fr:List (Nat × AV)):kx Tryz.prog 145 (prs (evA fr) (#[(0,.const (.int .u32 1116352408)),(1,.const (.int .u32 1899447441)),(2,.const (.int .u32 3049323471)),(3,.const (.int .u32 3921009573)),(4,.const (.int .u32 961987163)),(5,.const (.int .u32 1508970993)),(6,.const (.int .u32 2453635748)),(7,.const (.int .u32 2870763221)),(8,.const (.int .u32 3624381080)),(9,.const (.int .u32 310598401)),(10,.const (.int .u32 607225278)),(11,.const (.int .u32 1426881987)),(12,.const (.int .u32 1925078388)),(13,.const (.int .u32 2162078206)),(14,.const (.int .u32 2614888103)),(15,.const (.int .u32 3248222580)),(16,.const (.int .u32 3835390401)),(17,.const (.int .u32 4022224774)),(18,.const (.int .u32 264347078)),(19,.const (.int .u32 604807628)),(20,.const (.int .u32 770255983)),(21,.const (.int .u32 1249150122)),(22,.const (.int .u32 1555081692)),(23,.const (.int .u32 1996064986)),(24,.const (.int .u32 2554220882)),(25,.const (.int .u32 2821834349)),(26,.const (.int .u32 2952996808)),(27,.const (.int .u32 3210313671)),(28,.const (.int .u32 3336571891)),(29,.const (.int .u32 3584528711)),(30,.const (.int .u32 113926993)),(31,.const (.int .u32 338241895)),(32,.const (.int .u32 666307205)),(33,.const (.int .u32 773529912)),(34,.const (.int .u32 1294757372)),(35,.const (.int .u32 1396182291)),(36,.const (.int .u32 1695183700)),(37,.const (.int .u32 1986661051)),(38,.const (.int .u32 2177026350)),(39,.const (.int .u32 2456956037)),(40,.const (.int .u32 2730485921)),(41,.const (.int .u32 2820302411)),(42,.const (.int .u32 3259730800)),(43,.const (.int .u32 3345764771)),(44,.const (.int .u32 3516065817)),(45,.const (.int .u32 3600352804)),(46,.const (.int .u32 4094571909)),(47,.const (.int .u32 275423344)),(48,.const (.int .u32 430227734)),(49,.const (.int .u32 506948616)),(50,.const (.int .u32 659060556)),(51,.const (.int .u32 883997877)),(52,.const (.int .u32 958139571)),(53,.const (.int .u32 1322822218)),(54,.const (.int .u32 1537002063)),(55,.const (.int .u32 1747873779)),(56,.const (.int .u32 1955562222)),(57,.const (.int .u32 2024104815)),(58,.const (.int .u32 2227730452)),(59,.const (.int .u32 2361852424)),(60,.const (.int .u32 2428436474)),(61,.const (.int .u32 2756734187)),(62,.const (.int .u32 3204031479)),(63,.const (.int .u32 3329325298))]:Array (Nat × Operand)).toList)=some (.agg (cf.map w32)):=uI
attribute [go_sem ↓] zM
attribute [go_sem] xL cM List.append_nil
theorem CR (p:Oid):aj Tryz.prog 109 [] (Oid.under p) ⟨[],.agg (cf.map w32),[]⟩:=by
 refine aA (n:=2) (rs:=[.cell 0 145]) Tryz.func109 rfl rfl (by decide) rfl rfl rfl ?_;rintro x rfl hrd hng
 refine qw0 ?_
 exact ay (aQ (by simp (disch:=first|omega|assumption) only [go_sem];rfl))
theorem sF {l:List W32} {i:Nat} (h:i < l.length) (x:W32):List.take i (l.map w32)++[AV.int .u32 (x.toNat:Int)]++List.drop (i+1) (l.map w32)=(l.set i x).map w32:=by
 rw [List.set_eq_take_append_cons_drop,if_pos h]
 simp [w32]
theorem gV {l:List W32} {i:Nat} (h:i < l.length):(List.drop i (l.map w32)).getD 0 AV.undef = .int .u32 ((l.getD i 0).toNat:Int):=by
 rw [cQ,Nat.add_zero];exact pb h _
theorem CS (b:List UInt8) (l:List W32) {i:Nat} (h:i < 16):uG b l i=wd (b.drop (4 * i)):=if_pos h
theorem CT (b:List UInt8) {i:Nat} (h:¬ i < 16):uG b (eT b i) i=(bO b i).getD (i - 16) 0+(bO b i).getD (i - 7) 0+Fy ((bO b i).getD (i - 15) 0)+Fz ((bO b i).getD (i - 2) 0):=by
 rw [uG,if_neg h,jd b (by omega),jd b (by omega),jd b (by omega),jd b (by omega)]
theorem CU (b:List UInt8) (h:b.length=64) (p:Oid):aj Tryz.prog 110 [.str b] (Oid.under p) ⟨[],.agg ((eT b 64).map w32),[]⟩:=by
 refine aA (n:=57) (rs:=[.cell 2 145]) Tryz.func110 rfl rfl (by decide) rfl rfl rfl ?_;rintro x rfl hrd hng
 refine qw0 ?_
 refine bp [0,2,6] (fun k s'=>∃ i c:Nat,s' = ⟨[(0,.str b),(2,.ptr (.sub 0 0 x.p) 0),(6,.int .i64 i)],Mem.of [(.sub 0 0 x.p,.cells ((bO b i).map w32))],c,[]⟩∧k=64 - i∧i≤64) _ ⟨0,_,rfl,rfl,by omega⟩ ?_
 rintro k s' ⟨i,c,rfl,rfl,hi⟩
 have hl:=wq b hi
 refine qw0 ?_
 refine aK rfl rfl (fun hb=>?_) (fun hb=>?_)
 ·have hlt:i < 64:=by omega
  refine qw0 ?_
  refine aK rfl rfl (fun hb=>?_) (fun hb=>?_)
  ·have h16:i < 16:=by omega
   have f4:((4:Int) * i).toNat=4 * i:=by omega
   have hw:=fun p=>FD (b.drop (4 * i)) (by rw [List.length_drop];omega) p
   have hs:=pc b hlt
   rw [CS b _ h16] at hs
   have hset:=sF (l:=bO b i) (i:=i) (by omega) (wd (b.drop (4 * i)))
   rw [hs] at hset
   refine qw0 ?_
   have h63:i≤63:=by omega
   refine ar nmd [] hng (by kernel_rfl) fun hf C S K hC1 hC hS hK=>?_;simp (disch:=first|omega|assumption) only [go_sem,f4,hl,hset,h63,Nat.zero_add,Nat.mul_one]
   refine hC1 _ (hw _) (fun _ h=>by cases h) ?_
   simp (disch:=first|omega|assumption) only [go_sem,f4,hl,hset,h63,Nat.zero_add,Nat.mul_one]
   refine hK ?_;clear hK hS hC hC1 K S C hf
   refine qw0 ?_
   exact ⟨_,_,by omega,fun _ _ h=>h,i+1,_,rfl,rfl,by omega⟩
  ·have h16:¬ i < 16:=by omega
   have hs:=pc b hlt
   rw [CT b h16] at hs
   have hset:=sF (l:=bO b i) (i:=i) (by omega) ((bO b i).getD (i - 16) 0+(bO b i).getD (i - 7) 0+Fy ((bO b i).getD (i - 15) 0)+Fz ((bO b i).getD (i - 2) 0))
   rw [hs] at hset
   have g15:=gV (l:=bO b i) (i:=i - 15) (by omega)
   have g2:=gV (l:=bO b i) (i:=i - 2) (by omega)
   have g16:=gV (l:=bO b i) (i:=i - 16) (by omega)
   have g7:=gV (l:=bO b i) (i:=i - 7) (by omega)
   have f15:((i:Int) - 15).toNat=i - 15:=by omega
   have f2:((i:Int) - 2).toNat=i - 2:=by omega
   have f16:((i:Int) - 16).toNat=i - 16:=by omega
   have f7:((i:Int) - 7).toNat=i - 7:=by omega
   have p15:0 < 64 - (i - 15):=by omega
   have p2:0 < 64 - (i - 2):=by omega
   have p16:0 < 64 - (i - 16):=by omega
   have p7:0 < 64 - (i - 7):=by omega
   refine qw0 ?_
   refine bN nmd [] [] mixed hng (by kernel_rfl) [0,2,3,4,5,6] fun hf C S K hC hS hK=>?_;simp (disch:=first|omega|assumption) only [go_sem,hl,f15,f2,p15,p2,g15,g2,Nat.zero_add,Nat.mul_one]
   (first|refine hK (aG rfl) ?_|refine hK (by simp (disch:=first|omega|assumption) only [go_sem,List.reverse_cons,List.reverse_nil,ne_eq,not_false_eq_true,implies_true]) ?_);clear hK hS hC K S C hf
   (try ((first|refine zn ?_|refine ze ?_|refine zk ?_);with_reducible (constructor;repeat constructor));try refine zl ?_)
   generalize (bO b i).getD (i - 15) 0=X at hset
   generalize (bO b i).getD (i - 2) 0=Y at hset
   have h63:i≤63:=by omega
   clear g15 g2 p15 p2 f15 f2 hs
   simp only [Fy,Fz] at hset
   refine bN nmd [] [(4,11),(8,11),(4,13),(8,13),(4,20),(8,20),(4,22),(8,22)] mixed hng (by kernel_rfl) [0,2,6] fun hf C S K hC hS hK=>?_;simp (disch:=first|omega|assumption) only [go_sem,hl,f16,f7,p16,p7,g16,g7,h63,hset,Nat.zero_add,Nat.mul_one]
   refine hC _ (dt X 7 (by decide) (by decide) _) (fun _ h=>by cases h) ?_
   simp (disch:=first|omega|assumption) only [go_sem,hl,f16,f7,p16,p7,g16,g7,h63,hset,Nat.zero_add,Nat.mul_one]
   refine hC _ (dt X 18 (by decide) (by decide) _) (fun _ h=>by cases h) ?_
   simp (disch:=first|omega|assumption) only [go_sem,hl,f16,f7,p16,p7,g16,g7,h63,hset,Nat.zero_add,Nat.mul_one]
   refine hC _ (dt Y 17 (by decide) (by decide) _) (fun _ h=>by cases h) ?_
   simp (disch:=first|omega|assumption) only [go_sem,hl,f16,f7,p16,p7,g16,g7,h63,hset,Nat.zero_add,Nat.mul_one]
   refine hC _ (dt Y 19 (by decide) (by decide) _) (fun _ h=>by cases h) ?_
   simp (disch:=first|omega|assumption) only [go_sem,hl,f16,f7,p16,p7,g16,g7,h63,hset,Nat.zero_add,Nat.mul_one]
   (first|refine hK (aG rfl) ?_|refine hK (by simp (disch:=first|omega|assumption) only [go_sem,List.reverse_cons,List.reverse_nil,ne_eq,not_false_eq_true,implies_true]) ?_);clear hK hS hC K S C hf
   refine qw0 ?_
   exact ⟨_,_,by omega,fun _ _ h=>h,i+1,_,rfl,rfl,by omega⟩
 ·obtain rfl:i=64:=by omega
  have ht:List.take 64 ((bO b 64).map w32)=(bO b 64).map w32:=List.take_of_length_le (by rw [List.length_map,hl];exact Nat.le_refl _)
  have hd:List.drop 64 ((bO b 64).map w32)=[]:=List.drop_of_length_le (by rw [List.length_map,hl];exact Nat.le_refl _)
  rw [← wu]
  refine qw (ai hl (ai ht hd)) ?_
  exact ay (aQ (qs (ai hl (ai ht hd))))
end Go.Proofs.YtpficjpdfbiedaaGreatDoor
namespace Go.Proofs.YtpficjpdfbiedaaGreatDoor
open Go Go.Ab
set_option maxRecDepth 20000
set_option maxHeartbeats 1000000
def eU (s:S8):List AV:=[.int .u32 s.a.toNat,.int .u32 s.b.toNat,.int .u32 s.c.toNat,.int .u32 s.d.toNat,.int .u32 s.e.toNat,.int .u32 s.f.toNat,.int .u32 s.g.toNat,.int .u32 s.h.toNat]
theorem CV (s:S8):eU s=s.l.map w32:=rfl
theorem xM:(default:W32)=0:=rfl
theorem z64:zer Tryz.prog 145=some ((List.replicate 64 (0:W32)).map w32):=by kernel_rfl
theorem FE:(List.replicate 64 (0:W32)).length=64:=rfl
theorem CW:List.drop 64 ((List.replicate 64 (0:W32)).map w32)=[]:=rfl
attribute [go_sem] z64 FE CW
theorem Ic (q:Oid) (h:S8) (b:List UInt8) (hb:b.length=64) (p:Oid) (hq:¬ Oid.under p q):aj Tryz.prog 63 [.ptr q 0,.str b] (Oid.under p) ⟨[(q,.cells (eU h))],.tuple [],[(q,some (.cells ((mE cf h.l b).map w32)))]⟩:=by
 have hC:=CR
 have hW:=fun p=>CU b hb p
 have hlW:=fh b 64
 unfold mE
 rw [S8.Ju]
 generalize eT b 64=W at hW hlW ⊢
 refine aA (n:=104) (rs:=[]) Tryz.func63 rfl rfl (by decide) rfl rfl rfl ?_;rintro x rfl hrd hng
 refine qw0 ?_
 refine qr .o (uu hq) (cq (hC _) trivial) ?_
 simp only [eU]
 refine qw (uu hq) ?_
 refine qr .o (uu hq) (cq (hW _) trivial) ?_
 refine bp [0,4,5,18,19] (fun k s'=>∃ (i c:Nat) (X:S8),s' = ⟨[(0,.ptr q 0),(4,.ptr (.sub 0 1 x.p) 0),(5,.ptr (.sub 1 3 x.p) 0),(18,.agg (W.map w32)),(19,.int .i64 i)],Mem.of [(q,.cells (eU h)),(.sub 0 1 x.p,.cells (cf.map w32)),(.sub 1 3 x.p,.cells (eU X))],c,[]⟩∧k=64 - i∧i≤64∧X=nE cf W h i) _ ⟨0,_,h,rfl,rfl,by omega,rfl⟩ ?_
 rintro k s' ⟨i,c,X,rfl,rfl,hi,hX⟩
 refine qw0 ?_
 refine aK rfl rfl (fun hb=>?_) (fun hb=>?_)
 ·have hlt:i < 64:=by omega
  have gK:=gV (l:=cf) (i:=i) (by rw [cM];exact hlt)
  have gW:(W.map w32).getD i AV.undef = .int .u32 ((W.getD i 0).toNat:Int):=pb (by omega) _
  have pK:0 < 64 - i:=by omega
  have hR:nE cf W h (i+1)=X.rnd (cf.getD i 0) (W.getD i 0):=by rw [hX];rfl
  clear hX
  generalize cf.getD i 0=kk at gK hR
  obtain ⟨xa,xb,xc,xd,xe,xf,xg,xh⟩:=X
  simp only [eU]
  (try ((first|refine zn ?_|refine ze ?_|refine zk ?_);with_reducible (constructor;repeat constructor));try refine zl ?_)
  refine ar nmd [] hng (by kernel_rfl) fun hf C S K hC1 hC hS hK=>?_;simp (disch:=first|omega|assumption) only [go_sem,Oid.ab hq,Oid.aa hq,hlW,w32,xM,Nat.mul_one,Nat.zero_add]
  refine hK ?_;clear hK hS hC hC1 K S C hf
  generalize W.getD i 0=ww at hR ⊢
  refine qd (.d [] [] [0,4,5,6,7,8,9,18,19]) (uu hq) trivial ?_
  refine bN nmd [] [(1,3),(1,5),(1,8),(3,12),(5,12),(8,12),(3,15),(5,15),(8,15),(3,17),(5,17),(8,17),(3,24),(5,24),(8,24)] mixed hng (by kernel_rfl) [0,4,5,9,10,18,19] fun hf C S K hC hS hK=>?_;simp (disch:=first|omega|assumption) only [go_sem,Oid.ab hq,Oid.aa hq,cM,pK,gK,Nat.mul_one,Nat.zero_add]
  refine hC _ (dt xe 6 (by decide) (by decide) _) (fun _ h=>by cases h) ?_
  simp (disch:=first|omega|assumption) only [go_sem,Oid.ab hq,Oid.aa hq,cM,pK,gK,Nat.mul_one,Nat.zero_add]
  refine hC _ (dt xe 11 (by decide) (by decide) _) (fun _ h=>by cases h) ?_
  simp (disch:=first|omega|assumption) only [go_sem,Oid.ab hq,Oid.aa hq,cM,pK,gK,Nat.mul_one,Nat.zero_add]
  refine hC _ (dt xe 25 (by decide) (by decide) _) (fun _ h=>by cases h) ?_
  simp (disch:=first|omega|assumption) only [go_sem,Oid.ab hq,Oid.aa hq,cM,pK,gK,Nat.mul_one,Nat.zero_add]
  (first|refine hK (aG rfl) ?_|refine hK (by simp (disch:=first|omega|assumption) only [go_sem,List.reverse_cons,List.reverse_nil,ne_eq,not_false_eq_true,implies_true]) ?_);clear hK hS hC K S C hf
  (try ((first|refine zn ?_|refine ze ?_|refine zk ?_);with_reducible (constructor;repeat constructor));try refine zl ?_)
  refine bN nmd [] [(1,10),(3,10),(6,10),(1,13),(3,13),(6,13),(1,16),(3,16),(6,16)] mixed hng (by kernel_rfl) [0,4,5,10,11,18,19] fun hf C S K hC hS hK=>?_;simp (disch:=first|omega|assumption) only [go_sem,Oid.ab hq,Oid.aa hq,cM,pK,gK,Nat.mul_one,Nat.zero_add]
  refine hC _ (dt xa 2 (by decide) (by decide) _) (fun _ h=>by cases h) ?_
  simp (disch:=first|omega|assumption) only [go_sem,Oid.ab hq,Oid.aa hq,cM,pK,gK,Nat.mul_one,Nat.zero_add]
  refine hC _ (dt xa 13 (by decide) (by decide) _) (fun _ h=>by cases h) ?_
  simp (disch:=first|omega|assumption) only [go_sem,Oid.ab hq,Oid.aa hq,cM,pK,gK,Nat.mul_one,Nat.zero_add]
  refine hC _ (dt xa 22 (by decide) (by decide) _) (fun _ h=>by cases h) ?_
  simp (disch:=first|omega|assumption) only [go_sem,Oid.ab hq,Oid.aa hq,cM,pK,gK,Nat.mul_one,Nat.zero_add]
  (first|refine hK (aG rfl) ?_|refine hK (by simp (disch:=first|omega|assumption) only [go_sem,List.reverse_cons,List.reverse_nil,ne_eq,not_false_eq_true,implies_true]) ?_);clear hK hS hC K S C hf
  (try ((first|refine zn ?_|refine ze ?_|refine zk ?_);with_reducible (constructor;repeat constructor));try refine zl ?_)
  have h81:(8 - 1:Nat)=7:=rfl
  have m77:min 7 7=7:=rfl
  have m78:min 7 8=7:=rfl
  refine qd (.d [] [] [0,4,5,10,11,18,19]) (ai (uu hq) (ai h81 (ai m77 m78))) trivial ?_
  refine qw (uu hq) ?_
  exact ⟨_,_,by omega,fun _ _ h=>h,i+1,_,S8.rnd ⟨xa,xb,xc,xd,xe,xf,xg,xh⟩ kk ww,rfl,rfl,by omega,hR.symm⟩
 ·obtain rfl:i=64:=by omega
  rw [← hX]
  clear hX
  have e0:eU h=(lM h.l X.l 0).map w32:=by rw [Ia rfl];rfl
  rw [e0,show eU X=X.l.map w32 from rfl]
  clear e0 hW hC
  refine qw (uu hq) ?_
  refine bp [0,5,89] (fun k s'=>∃ i c:Nat,s' = ⟨[(0,.ptr q 0),(5,.ptr (.sub 1 3 x.p) 0),(89,.int .i64 i)],Mem.of [(q,.cells ((lM h.l X.l i).map w32)),(.sub 0 1 x.p,.cells (cf.map w32)),(.sub 1 3 x.p,.cells (X.l.map w32))],c,[]⟩∧k=8 - i∧i≤8) _ ⟨0,_,rfl,rfl,by omega⟩ ?_
  rintro k s' ⟨i,c,rfl,rfl,hi⟩
  refine qw0 ?_
  refine aK rfl rfl (fun hb=>?_) (fun hb=>?_)
  ·have hlt:i < 8:=by omega
   have hl:=jN h.l X.l i
   have hx:X.l.length=8:=rfl
   have d1:=gV (l:=lM h.l X.l i) (i:=i) (by omega)
   rw [CO _ _ _ hlt,if_neg (Nat.lt_irrefl i)] at d1
   have d2:=gV (l:=X.l) (i:=i) (by omega)
   have p8:0 < 8 - i:=by omega
   have h7:i≤7:=by omega
   have hset:=sF (l:=lM h.l X.l i) (i:=i) (by omega) (h.l.getD i 0+X.l.getD i 0)
   rw [CP _ _ hlt] at hset
   refine qw (uu hq) ?_
   refine bN nmd [] [] mixed hng (by kernel_rfl) [0,5,89] fun hf C S K hC hS hK=>?_;simp (disch:=first|omega|assumption) only [go_sem,Oid.ab hq,Oid.aa hq,hl,hx,d1,d2,p8,h7,hset,Nat.mul_one,Nat.zero_add]
   (first|refine hK (aG rfl) ?_|refine hK (by simp (disch:=first|omega|assumption) only [go_sem,List.reverse_cons,List.reverse_nil,ne_eq,not_false_eq_true,implies_true]) ?_);clear hK hS hC K S C hf
   refine qw0 ?_
   exact ⟨_,_,by omega,fun _ _ h=>h,i+1,_,rfl,rfl,by omega⟩
  ·obtain rfl:i=8:=by omega
   refine qw (uu hq) ?_
   refine b5 (cF rfl ?_ ?_)
   all_goals simp only [List.mem_cons,List.not_mem_nil,or_false,forall_eq_or_imp,forall_eq,Option.some.injEq,forall_eq',Mem.ao,eq_self,if_true,↓reduceIte,reduceCtorEq,implies_true,not_true_eq_false,false_imp_iff,true_and,and_true,false_and,and_false,imp_self,Oid.ab hq,Oid.aa hq]
end Go.Proofs.YtpficjpdfbiedaaGreatDoor
namespace Go.Proofs.YtpficjpdfbiedaaGreatDoor
open Go Go.Ab
set_option maxRecDepth 20000
theorem nc {P:Program} [Laid P] {o:Oper} {ρ:Operand→AV} {sp:Oid→Prop} {s d el:TypeId} {y:Operand} {id:Oid} {l:Str} {ag:Bool} {sz bt:Nat} (ho:o.op = .convert s d y) (hy:ρ y = .sl id 1 l.length) (h0:0 < l.length)
  (hs:tyk P s=some (.slice el ag sz bt)) (h8:u8K (tyk P el)=true) (hd:tyk P d=some .str):aD P o ρ sp ⟨[(id,.arr 1 (l.map byA))],.str l,[]⟩:=by
 refine aD.of fun x g a w m hm hn hop _=>?_
 have hv:=hop y (by simp [Op.operands,ho])
 rw [hy] at hv
 obtain ⟨ds,hds,rfl,_⟩:=aE hs
 obtain ⟨dd,hdd,rfl⟩:=aE hd
 have he8:P.underlying el=some (.int .u8):=by
  unfold u8K at h8
  split at h8
  ·rename_i hk;obtain ⟨d8,h9,rfl⟩:=aE hk;exact h9
  ·cases h8
 obtain ⟨b,cap,hu,hb,hcap,hrw⟩:=hv.ef.resolve_left (fun h=>by omega)
 obtain ⟨b',h1,h2,h3,h4⟩:=hm.jl (hn (id,.arr 1 (l.map byA)) (by simp)) hb
 rw [hb] at h1;simp only [Option.some.injEq] at h1;subst h1
 obtain ⟨c,t,fz,c1,c2,c3,c4,c5,c6⟩:=h4
 have hcell:∀ j (hj:j < l.length),w.cell? ((⟨b,0,none⟩:Addr).add j)=some (.int .u8 (l[j].toNat:Int)):=fun j hj=>by
  have h6:=c6 j 0 (by simpa using hj) (by omega)
  have hx:(l.map byA).getD j .undef=byA l[j]:=by rw [List.getD_eq_getElem?_getD,List.getElem?_map,List.getElem?_eq_getElem hj];rfl
  rw [hx] at h6
  have h7:(byA l[j]).cells.getD 0 .undef = .int .u8 (l[j].toNat:Int):=rfl
  rw [h7] at h6
  have h8:=h6.a6
  have hsz:j < c.size:=by simp at c2;omega
  have hadd:((⟨b,0,none⟩:Addr).add j)=⟨b,j,none⟩:=by
   unfold Addr.add
   by_cases hj0:j=0
   ·subst hj0;simp
   ·simp [hj0]
  rw [hadd]
  rw [Array.getD_eq_getD_getElem?] at h8
  rw [show j * 1+0=j by omega,Array.getElem?_eq_getElem hsz] at h8
  simp only [Option.getD_some] at h8
  simp [World.cell?,c1,Array.getElem?_eq_getElem hsz,h8]
 have hrun:=run_convert_bytes_back (P:=P) w s d el ⟨b,0,none⟩ cap l hds he8 hdd hcell
 refine ⟨g,.value (.string ⟨l.toArray⟩),_,w,?_,.inl rfl,Gh.le_refl g,fun _ _=>rfl,.str _ _ rfl,hm⟩
 simp [execOp,ho,hu,hrun]
end Go.Proofs.YtpficjpdfbiedaaGreatDoor
namespace Go.Proofs.YtpficjpdfbiedaaGreatDoor
open Go Go.Ab
set_option maxRecDepth 20000
set_option maxHeartbeats 1000000
def eV (n:Nat):Nat:=(64+56 - 1 - n % 64) % 64
def q8 (n:Nat):Nat→List UInt8
 | 0=>[]
 | i+1=>nt n i::q8 n i
def pf (n i:Nat):List UInt8:=(128::List.replicate (eV n+(8 - i)) 0)++q8 n i
theorem q9 (n:Nat):∀ i,(q8 n i).length=i
 | 0=>rfl
 | i+1=>by rw [q8,List.length_cons,q9 n i]
theorem CX (n:Nat) {i:Nat} (h:i≤8):(pf n i).length=1+eV n+8:=by
 simp only [pf,List.length_append,List.length_cons,List.length_replicate,q9];omega
theorem CY (n:Nat):pf n 8=kP n:=rfl
theorem CZ (n:Nat) {i:Nat} (h:i < 8):(pf n i).set (eV n+8 - i) (nt n i)=pf n (i+1):=by
 have e:pf n i=(128::List.replicate (eV n+(8 - (i+1))) 0)++0::q8 n i:=by
  have e1:eV n+(8 - i)=(eV n+(8 - (i+1)))+1:=by omega
  rw [pf,e1,List.replicate_succ']
  simp
 have e2:eV n+8 - i=((128:UInt8)::List.replicate (eV n+(8 - (i+1))) 0).length+0:=by
  simp only [List.length_cons,List.length_replicate];omega
 rw [e,e2,List.set_append_right _ _ (by omega),Nat.add_sub_cancel_left,List.set_cons_zero]
 rfl
theorem Ie (n:Nat):(List.replicate (1+eV n+8) (0:UInt8)).set 0 128=pf n 0:=by
 have e:1+eV n+8=(eV n+8)+1:=by omega
 rw [e,List.replicate_succ,List.set_cons_zero]
 simp [pf,q8]
theorem Ga (k:Nat):IntKind.u8.wrap (k:Int)=((UInt8.ofNat k).toNat:Int):=by
 have e:IntKind.u8.wrap (k:Int)=(k:Int) % (2 ^ 8:Int):=by simp [IntKind.wrap,IntKind.signed,IntKind.bits]
 rw [e,UInt8.toNat_ofNat']
 omega
theorem C0 (n:Nat) {i:Nat} (h:i < 8):IntKind.u8.wrap (((n:Int) * 8).fdiv (2 ^ (8 * i)))=((nt n i).toNat:Int):=by
 have e:(2:Int) ^ (8 * i)=((2 ^ (8 * i):Nat):Int):=by push_cast;rfl
 rw [e,Int.fdiv_eq_ediv_of_nonneg _ (Int.natCast_nonneg _),show (n:Int) * 8=((n * 8:Nat):Int) by push_cast;rfl,← Int.natCast_ediv,Ga]
 rfl
theorem xN (l:List UInt8) (i:Nat) (b:UInt8):(l.map byA).set i (AV.int .u8 (b.toNat:Int))=(l.set i b).map byA:=by
 rw [show AV.int .u8 (b.toNat:Int)=byA b from rfl,List.map_set]
theorem wv (n:Nat) (hn:n≤4000000000) (p:Oid):aj Tryz.prog 62 [.int .i64 n] (Oid.under p) ⟨[],.str (kP n),[]⟩:=by
 have hz:eV n < 64:=Nat.mod_lt _ (by decide)
 have h64:n % 64 < 64:=Nat.mod_lt _ (by decide)
 have e1:(n:Int).tmod 64=((n % 64:Nat):Int):=cx _ 64
 have e2:((119:Int) - ((n % 64:Nat):Int)).tmod 64=(eV n:Int):=by
  rw [show (119:Int) - ((n % 64:Nat):Int)=((64+56 - 1 - n % 64:Nat):Int) by omega,show (64:Int)=((64:Nat):Int) from rfl,cx];rfl
 have e3:(1:Int)+(eV n:Int)+8=((1+eV n+8:Nat):Int):=by omega
 refine aA (n:=33) (rs:=[.tmp 2]) Tryz.func62 rfl rfl (by decide) rfl rfl rfl ?_;rintro x rfl hrd hng
 refine qw0 ?_
 refine ar nmd [] hng (by kernel_rfl) fun hf C S K hC1 hC hS hK=>?_;simp (disch:=first|omega|assumption) only [go_sem,e1,e2,e3]
 refine hS _ _ _ (fun o' hd ho'=>(pU (nid:=.sub 1 6 x.p) (n:=1+eV n+8) (v0:=.int .u8 0) (sz:=1) (bytes:=1) ho' rfl rfl rfl rfl rfl rfl (by omega) (by omega) (by omega) (Oid.aq _) rfl).nd) (fun _ h=>by cases h) ?_ (fun _ _ h=>h.elim)
 rintro _ _ ⟨rfl,rfl⟩
 simp (disch:=first|omega|assumption) only [go_sem,e1,e2,e3]
 refine hK ?_;clear hK hS hC hC1 K S C hf
 (try ((first|refine zn ?_|refine ze ?_|refine zk ?_);with_reducible (constructor;repeat constructor));try refine zl ?_)
 rw [show List.replicate (1+eV n+8) (AV.int .u8 0)=(List.replicate (1+eV n+8) (0:UInt8)).map byA from by rw [List.map_replicate];rfl]
 have h0:=xN (List.replicate (1+eV n+8) (0:UInt8)) 0 128
 rw [Ie] at h0
 have hr:(List.replicate (1+eV n+8) (0:UInt8)).length=1+eV n+8:=List.length_replicate
 generalize List.replicate (1+eV n+8) (0:UInt8)=R at h0 hr ⊢
 change (R.map byA).set 0 (AV.int .u8 128)=_ at h0
 refine qw (ai hr h0) ?_
 refine bp [0,3,14] (fun k s'=>∃ i c:Nat,s' = ⟨[(0,.int .i64 n),(3,.sl (.sub 1 6 x.p) 1 (1+eV n+8)),(14,.int .i64 i)],Mem.of [(.sub 1 6 x.p,.arr 1 ((pf n i).map byA))],c,[]⟩∧k=8 - i∧i≤8) _ ⟨0,_,rfl,rfl,by omega⟩ ?_
 rintro k s' ⟨i,c,rfl,rfl,hi⟩
 refine qw0 ?_
 refine aK rfl rfl (fun hb=>?_) (fun hb=>?_)
 ·have hlt:i < 8:=by omega
  have hl:=CX n hi
  have hset:=xN (pf n i) (eV n+8 - i) (nt n i)
  rw [CZ n hlt] at hset
  have f1:(((1+eV n+8:Nat):Int) - 1 - i).toNat=eV n+8 - i:=by omega
  have hv:=C0 n hlt
  have hm:min ((8:Int) * i).toNat 64=8 * i:=by omega
  refine qw0 ?_
  have hlt2:eV n+8 - i < 1+eV n+8:=by omega
  refine qr .o (ai hl (ai hset (ai f1 (ai hv (ai hm hlt2))))) trivial ?_
  refine qw0 ?_
  exact ⟨_,_,by omega,fun _ _ h=>h,i+1,_,rfl,rfl,by omega⟩
 ·obtain rfl:i=8:=by omega
  rw [CY]
  refine qw0 ?_
  have hpl:=pd n
  refine ar nmd [] hng (by kernel_rfl) fun hf C S K hC1 hC hS hK=>?_;simp (disch:=first|omega|assumption) only [go_sem]
  refine hS _ _ _ (fun o' hd ho'=>(nc (id:=.sub 1 6 x.p) (l:=kP n) ho' (by rw [hpl];rfl) (by rw [hpl];omega) rfl rfl rfl).nd) qs0 ?_ (fun _ _ h=>h.elim)
  rintro _ _ ⟨rfl,rfl⟩
  simp (disch:=first|omega|assumption) only [go_sem]
  refine hK ?_;clear hK hS hC hC1 K S C hf
  refine qw0 ?_
  exact ay (aQ rfl)
theorem wx (a:W32):dI .and .u32 (a.toNat:Int) 15=some (.int .u32 ((a &&& 15).toNat:Int)):=pa a 15
attribute [go_sem high] wx
theorem C2 (a:W32):(a &&& 15).toNat < 16:=by
 have h:(a &&& 15).toNat≤(15:W32).toNat:=by rw [BitVec.toNat_and];exact Nat.and_le_right
 exact Nat.lt_succ_of_le h
theorem zN (x:W32) {j:Nat} (h:j < 8):(mF x).take (j+1)=(mF x).take j++[sE x (28 - 4 * j)]:=by
 have hj:j=0∨j=1∨j=2∨j=3∨j=4∨j=5∨j=6∨j=7:=by omega
 rcases hj with rfl|rfl|rfl|rfl|rfl|rfl|rfl|rfl<;>rfl
def kg (l:List W32):List UInt8:=(l.map mF).flatten
theorem zO {l:List W32} {i:Nat} (h:i < l.length):kg (l.take (i+1))=kg (l.take i)++mF (l.getD i 0):=by
 unfold kg
 rw [List.take_add_one,List.getElem?_eq_getElem h,List.getD_eq_getElem?_getD,List.getElem?_eq_getElem h,List.map_append,List.flatten_append]
 simp
theorem uJ (l:List W32):(kg l).length=8 * l.length:=by
 unfold kg
 induction l with
 | nil=>rfl
 | cons x l ih=>simp only [List.map_cons,List.flatten_cons,List.length_append,List.length_cons,ih];simp [mF];omega
theorem wy (X:S8) (p:Oid):aj Tryz.prog 64 [.agg (eU X)] (Oid.under p) ⟨[],.str (kg X.l),[]⟩:=by
 have hx8:X.l.length=8:=rfl
 rw [show eU X=X.l.map w32 from rfl]
 generalize X.l=l at hx8 ⊢
 refine aA (n:=26) (rs:=[.tmp 2]) Tryz.func64 rfl rfl (by decide) rfl rfl rfl ?_;rintro x rfl hrd hng
 refine qw0 ?_
 refine l4 3 1 rfl ?_
 simp (disch:=first|omega|assumption) only [go_sem]
 have t8:List.take 8 (l.map w32)=l.map w32:=List.take_of_length_le (by rw [List.length_map,hx8];exact Nat.le_refl _)
 refine qw (ai hx8 t8) ?_
 refine bp [3,7,8] (fun k s'=>∃ (i c d e:Nat),s' = ⟨[(3,.sl (.sub d e x.p) 1 (8 * i)),(7,.agg (l.map w32)),(8,.int .i64 i)],Mem.of [(.sub 0 0 x.p,.cells (l.map w32)),(.sub d e x.p,.arr 1 ((kg (l.take i)).map byA))],c,[]⟩∧k=8 - i∧i≤8∧0 < d∧d < c) _ ⟨0,_,2,0,rfl,rfl,by omega,by omega,by omega⟩ ?_
 rintro k s' ⟨i,c,d,e,rfl,rfl,hi,hd,hdc⟩
 refine qw0 ?_
 refine aK rfl rfl (fun hb=>?_) (fun hb=>?_)
 ·have hlt:i < 8:=by omega
  have gW:(l.map w32).getD i AV.undef = .int .u32 ((l.getD i 0).toNat:Int):=pb (by omega) _
  have hht:=zO (l:=l) (i:=i) (by omega)
  have hhl:=uJ (l.take i)
  rw [List.length_take,Nat.min_eq_left (by omega)] at hhl
  (repeat (first|(refine aB rfl rfl ?_)|(refine aC rfl rfl ?_)|(refine ar nmd [] hng (by kernel_rfl) fun hf C S K hC1 hC hS hK=>?_;simp (disch:=first|omega|assumption) only [go_sem,hx8,w32,xM,Nat.mul_one,Nat.zero_add];refine hK ?_;clear hK hS hC hC1 K S C hf)|((first|refine zn ?_|refine ze ?_|refine zk ?_);with_reducible (constructor;repeat constructor);try refine zl ?_)))
  generalize l.getD i 0=X at hht ⊢
  generalize kg (l.take i)=D at hht hhl ⊢
  refine bp [3,5,6,7,8] (fun k s'=>∃ (j c d e:Nat) (kk:Int),s' = ⟨[(3,.sl (.sub d e x.p) 1 (8 * i+j)),(5,.int .u32 X.toNat),(6,.int .i64 kk),(7,.agg (l.map w32)),(8,.int .i64 i)],Mem.of [(.sub 0 0 x.p,.cells (l.map w32)),(.sub d e x.p,.arr 1 ((D++(mF X).take j).map byA))],c,[]⟩∧k=8 - j∧j≤8∧kk=28 - 4 * (j:Int)∧0 < d∧d < c) _ ⟨0,_,d,e,28,by rw [List.take_zero,List.append_nil];rfl,rfl,by omega,by omega,by omega,by omega⟩ ?_
  rintro k s' ⟨j,c,d,e,kk,rfl,rfl,hj,hkk,hd,hdc⟩
  refine qw0 ?_
  refine aK rfl rfl (fun hb=>?_) (fun hb=>?_)
  ·have hj8:j < 8:=by omega
   have fk:kk.toNat=28 - 4 * j:=by omega
   have hht2:=zN X hj8
   have hl15:=C2 (X >>> (28 - 4 * j))
   have hDl:(D++(mF X).take j).length=8 * i+j:=by
    rw [List.length_append,hhl,List.length_take,Nat.min_eq_left (show j≤(mF X).length by show j≤8;omega)]
   have hrow:(D++(mF X).take (j+1)).map byA=(D++(mF X).take j).map byA++[AV.int .u8 ((I4.getD (X >>> (28 - 4 * j) &&& 15).toNat 0).toNat:Int)]:=by
    rw [hht2,← List.append_assoc,List.map_append];rfl
   generalize D++(mF X).take j=DD at hDl hrow ⊢
   refine qw0 ?_
   refine qr .o (ai fk hDl) trivial ?_
   refine qw0 ?_
   exact ⟨_,_,by omega,fun _ _ h=>h,j+1,c+1+1+1,c+1,7,kk - 4,by rw [hrow];rfl,rfl,by omega,by omega,by omega,by omega⟩
  ·obtain rfl:j=8:=by omega
   refine qw0 ?_
   exact ⟨_,_,by omega,fun _ _ h=>h,i+1,c+1+1,d,e,by rw [hht];rfl,rfl,by omega,by omega,by omega⟩
 ·obtain rfl:i=8:=by omega
  have hl8:l.take 8=l:=List.take_of_length_le (by omega)
  have hhl:=uJ l
  rw [hx8] at hhl
  rw [hl8]
  refine qw0 ?_
  refine ar nmd [] hng (by kernel_rfl) fun hf C S K hC1 hC hS hK=>?_;simp (disch:=first|omega|assumption) only [go_sem]
  refine hS _ _ _ (fun o' hd ho'=>(nc (id:=.sub d e x.p) (l:=kg l) ho' (by rw [hhl];rfl) (by rw [hhl];omega) rfl rfl rfl).nd) qs0 ?_ (fun _ _ h=>h.elim)
  rintro _ _ ⟨rfl,rfl⟩
  simp (disch:=first|omega|assumption) only [go_sem]
  refine hK ?_;clear hK hS hC hC1 K S C hf
  refine qw0 ?_
  exact ay (aQ rfl)
end Go.Proofs.YtpficjpdfbiedaaGreatDoor
namespace Go.Proofs.YtpficjpdfbiedaaGreatDoor
open Go Go.Ab
set_option maxRecDepth 20000
set_option maxHeartbeats 1000000
theorem Gb:∀ {l:List W32},l.length=8→(S8.of l).l=l
 | [_,_,_,_,_,_,_,_],_=>rfl
theorem C3 (s:List UInt8):uH s=kg (fv cf ((s++kP s.length).length / 64) q7 (s++kP s.length)):=rfl
def I7:S8:=⟨1779033703,3144134277,1013904242,2773480762,1359893119,2600822924,528734635,1541459225⟩
theorem Ig (s:List UInt8) (hl:s.length≤2000000000) (p:Oid):aj Tryz.prog 23 [.str s] (Oid.under p) ⟨[],.str (uH s),[]⟩:=by
 have hpad:=fun p=>wv s.length (by omega) p
 obtain ⟨m0,hm0⟩:=Ib s
 have hpl:=pd s.length
 rw [C3]
 generalize ht:s++kP s.length=total at hm0
 refine aA (n:=20) (rs:=[.tmp 2]) Tryz.func23 rfl rfl (by decide) rfl rfl rfl ?_;rintro x rfl hrd hng
 refine qw0 ?_
 refine qr .o ht (cq (hpad _) trivial) ?_
 refine bp [3,4] (fun k s'=>∃ (r:List UInt8) (X:S8) (c m:Nat),s' = ⟨[(3,.ptr (.sub 1 1 x.p) 0),(4,.str r)],Mem.of [(.sub 1 1 x.p,.cells (eU X))],c,[]⟩∧k=m∧r.length=64 * m∧1 < c∧fv cf m X.l r=fv cf (total.length / 64) q7 total) _ ⟨total,I7,_,m0+1,rfl,rfl,hm0,by omega,by rw [hm0,Nat.mul_div_cancel_left _ (by decide)];rfl⟩ ?_
 rintro k s' ⟨r,X,c,m,rfl,rfl,hr,hc,hbl⟩
 refine qw0 ?_
 refine ni rfl rfl (fun hb=>?_) (fun hb=>?_)
 ·have hb':¬ r=[]:=by simpa using hb
  obtain ⟨n,rfl⟩:∃ n,k=n+1:=by
   cases k with
   | zero=>exact absurd (List.eq_nil_of_length_eq_zero (by omega)) hb'
   | succ n=>exact ⟨n,rfl⟩
  have hadd:=fun p hq=>Ic (.sub 1 1 x.p) X (r.take 64) (by rw [List.length_take];omega) p hq
  have h8:(mE cf X.l (r.take 64)).length=8:=jN _ _ _
  rw [← Gb h8,← CV] at hadd
  have hbl2:fv cf (n+1) X.l r=fv cf n (S8.of (mE cf X.l (r.take 64))).l (r.drop 64):=by rw [Gb h8];rfl
  rw [hbl2] at hbl
  clear hbl2
  generalize S8.of (mE cf X.l (r.take 64))=Y at hadd hbl
  refine qw0 ?_
  refine ar nmd [] hng (by kernel_rfl) fun hf C S K hC1 hC hS hK=>?_;simp (disch:=first|omega|assumption) only [go_sem]
  refine hC1 _ (hadd _ (fun h=>by have:=(Oid.apart h (Oid.aq _)).1;omega)) qs0 ?_
  simp (disch:=first|omega|assumption) only [go_sem]
  refine hK ?_;clear hK hS hC hC1 K S C hf
  refine qw0 ?_
  exact ⟨_,_,by omega,fun _ _ h=>h,r.drop 64,Y,_,n,rfl,rfl,by rw [List.length_drop];omega,by omega,hbl⟩
 ·have hb':r=[]:=by simpa using hb
  subst hb'
  obtain rfl:k=0:=by simp at hr;omega
  have hX:X.l=fv cf (total.length / 64) q7 total:=hbl
  have hd:=fun p=>wy X p
  rw [hX] at hd
  have c8:(eU X).length=8:=rfl
  have t8:List.take 8 (eU X)=eU X:=rfl
  refine qw0 ?_
  refine qr .o (ai c8 t8) (cq (hd _) trivial) ?_
  refine qw0 ?_
  exact ay (bS rfl)
end Go.Proofs.YtpficjpdfbiedaaGreatDoor
namespace Go.Ab
theorem uK {P:Program} [Laid P] {o:Oper} {ρ:Operand→AV} {sp:Oid→Prop} {t el:TypeId} {y z:Operand} {nid:Oid} {sz n cp bytes:Nat} {agg:Bool} {k1 k2:IntKind} {v0:AV} (ho:o.op = .makeSlice t y z) (hy:ρ y = .int k1 n) (hz:ρ z = .int k2 cp) (hnc:n≤cp)
  (htk:tyk P t=some (.slice el agg sz bytes)) (hzer:zer P el=some v0.cells) (hone:v0.cells.all AV.one=true) (hsz:v0.cells.length=sz) (h0:0 < sz) (hb:bytes * cp≤281474976710656) (h63:cp≤9223372036854775807) (hs:sp nid) (hnt:nid.tyd=none) :
  aD P o ρ sp ⟨[],.sl nid sz n,[(nid,some (.arr sz (List.replicate n v0)))]⟩:=by
 intro x g a w m hm _ hop hsp hng next Q K
 have vy:=hop y (by simp [Op.operands,ho])
 have vz:=hop z (by simp [Op.operands,ho])
 rw [hy] at vy;rw [hz] at vz
 have hyv:=vy.a6
 have hzv:=vz.a6
 have htk':P.underlying t=some (.slice el)∧∃ i,P.info? el=some i∧i.bytes=bytes∧i.size=sz:=by
  unfold tyk at htk
  split at htk<;>try (cases htk;done)
  ·rename_i e hu
   split at htk
   ·rename_i q i hq hi
    simp only [Option.some.injEq,TyK.slice.injEq] at htk
    obtain ⟨rfl,-,h3,h4⟩:=htk
    refine ⟨hu,i,hi,h4,?_⟩
    obtain ⟨d,i',_,hi',_,hn'⟩:=eL (b:=q.1) (n:=q.2) hq
    rw [hi] at hi';simp only [Option.some.injEq] at hi';subst hi'
    rw [hn',h3]
   ·cases htk
  ·rename_i n' e' hu
   cases hs':shp P e'<;>simp [hs'] at htk
  ·rename_i fs hu
   cases hmm:(fs.toList.mapM fun f=>(shp P f.type).map fun q=>(f.offset,q.1,q.2))<;>simp [hmm] at htk
 obtain ⟨hu,i,hi,hbi,hsi⟩:=htk'
 obtain ⟨zv,hzv0,hzc⟩:∃ zv,i.zero=some zv∧(cP zv).cells=v0.cells:=by
  simp only [zer,hi,Option.bind_some] at hzer
  cases hzz:i.zero with
  | none=>rw [hzz] at hzer;cases hzer
  | some zv=>rw [hzz] at hzer;exact ⟨zv,rfl,by simpa using hzer⟩
 have hzs:zv.cells.size=sz:=by rw [← dH,hzc,hsz]
 have hcell:∀ (g:Gh) j,j < sz→VR g (v0.cells.getD j .undef) (zv.cells.getD j undef):=fun g j hj=>by
  rw [← hzc];exact fC g zv j (by rw [hzc,hsz];exact hj)
 have hbb:(i.bytes:Int) * (cp:Int)≤281474976710656:=by
  rw [hbi,← Int.natCast_mul]
  omega
 have hrun:=run_make (P:=P) w t el i zv hu hi hzv0 k1 k2 (n:Int) (cp:Int) (by omega) (by omega) hbb (by omega)
 simp only [Int.toNat_natCast,hsi] at hrun
 have hex:(execOp a.eval o).run P w = .ok (.value (.slice (some ⟨w.heap.size,0,none⟩) n cp)) (w.alloc (.cells (madeCells zv.cells (cp * sz)) el)):=by
  simp only [execOp,ho,hyv,hzv,Sem.run_bind,hrun,Result.andThen_ok,Sem.run_pure]
 refine ⟨fun _ _=>trivial,?_⟩
 rw [Oper.semAt_eq _ _ _ (fun c hc=>by rw [ho] at hc;cases hc),hex,Oper.uponIn_value]
 obtain ⟨hl,hun⟩:=hsp nid hs
 have hrn:g.row w.heap.size=none:=hm.jQ (Nat.le_refl _)
 have hcs:∀ i j,i < n→j < sz→(madeCells zv.cells (cp * sz)).getD (i * sz+j) undef=zv.cells.getD j undef:=fun i j hi hj=>by
  have hlt:i * sz+j < cp * sz:=by
   have:(i+1) * sz≤cp * sz:=Nat.mul_le_mul_right _ (by omega)
   rw [Nat.add_mul,Nat.one_mul] at this;omega
  have hmod:(i * sz+j) % sz=j:=by rw [Nat.mul_comm,Nat.mul_add_mod,Nat.mod_eq_of_lt hj]
  simp only [madeCells,Array.getD_eq_getD_getElem?,Array.getElem?_map,Array.getElem?_range,hlt,if_true,Option.map_some,Option.getD_some,hzs,hmod]
  rw [getElem!_def,Array.getElem?_eq_getElem (show j < zv.cells.size by rw [hzs];exact hj)]
  rfl
 have hone':∀ j,j < sz→(zv.cells.getD j undef).oneCell' = true:=fun j hj=>by
  have h1:=hcell g j hj
  have h2:(v0.cells.getD j .undef).one=true:=by
   rw [List.all_eq_true] at hone
   rw [List.getD_eq_getElem?_getD,List.getElem?_eq_getElem (by rw [hsz];exact hj),Option.getD_some]
   exact hone _ (List.getElem_mem _)
  generalize v0.cells.getD j .undef=q at h1 h2
  generalize zv.cells.getD j undef=r at h1 ⊢
  cases q<;>first|(simp [AV.one] at h2;done)|(cases h1<;>rfl)
 have hgetr:∀ i,i < n→(List.replicate n v0).getD i .undef=v0:=fun i hi=>by
  rw [List.getD_eq_getElem?_getD,List.getElem?_replicate,if_pos hi];rfl
 have hnew:=hm.new hl hun (o:=.arr sz (List.replicate n v0)) (ob:=.cells (madeCells zv.cells (cp * sz)) el) ⟨madeCells zv.cells (cp * sz),el,(0,0),bA w _,by rw [List.length_replicate,size_madeCells];exact Nat.mul_le_mul_right _ hnc,fun j _ hj=>by omega,fun i hi=>by
  rw [List.length_replicate] at hi
  rw [hgetr i hi];exact hsz,fun j hj=>by
  rw [List.length_replicate] at hj
  have hd:j / sz < n:=Nat.div_lt_of_lt_mul (by rw [Nat.mul_comm];exact hj)
  have:=hcs (j / sz) (j % sz) hd (Nat.mod_lt _ h0)
  rw [Nat.mul_comm (j / sz) sz,Nat.div_add_mod] at this
  rw [this];exact hone' _ (Nat.mod_lt _ h0),fun i j hi hj=>by
  rw [List.length_replicate] at hi
  rw [hgetr i hi,hcs i j hi hj];exact hcell _ j hj⟩ (fun t ht=>by rw [hnt] at ht;cases ht)
 refine K ((g.bind nid w.heap.size).measure w.heap.size (cp * sz)) _ _ (Gh.le_trans (Gh.bq hl) (Gh.dz (.inl hrn))) (fun j hj=>?_) ?_ (hnew.measure ⟨madeCells zv.cells (cp * sz),el,(0,0),bA w _,size_madeCells _ _⟩ (.inl hrn))
 ·have hne:¬ j=nid:=fun e=>by subst e;exact hj hs
  simp only [Gh.bind,Gh.measure];rw [if_neg hne]
 ·exact .sl _ _ _ _ _ (by simp [Gh.bind,Gh.measure]) hnc (by simp [Gh.measure])
theorem wz {P:Program} [Laid P] {o:Oper} {ρ:Operand→AV} {sp:Oid→Prop} {t el:TypeId} {y a1 a2 a3:Operand} {sz by':Nat} {ag:Bool} {xs:List AV} {k1 k2 k3:IntKind} {l h:Nat} (ho:o.op = .slice t y (some a1) (some a2) (some a3)) (hy:ρ y = .list sz xs)
  (h1:ρ a1 = .int k1 l) (h2:ρ a2 = .int k2 h) (h3:ρ a3 = .int k3 h) (htk:tyk P t=some (.slice el ag sz by')) (hlh:l < h) (hle:h≤xs.length):aD P o ρ sp ⟨[],.list sz ((xs.take h).drop l),[]⟩:=by
 refine aD.plain fun g a w hop=>?_
 have vy:=hop y (by simp [Op.operands,ho])
 have v1:=hop a1 (by simp [Op.operands,ho])
 have v2:=hop a2 (by simp [Op.operands,ho])
 have v3:=hop a3 (by simp [Op.operands,ho])
 rw [hy] at vy;rw [h1] at v1;rw [h2] at v2;rw [h3] at v3
 obtain ⟨d,hd,rfl,hs,_⟩:=aE htk
 rcases vy.fw with ⟨rfl,_⟩|⟨b,c,cap,cs,hu,hcap,hln,hc1,hc2⟩
 ·exact absurd hle (by simp;omega)
 have hlen:((xs.take h).drop l).length=h - l:=by simp;omega
 have hget:∀ i,i < h - l→((xs.take h).drop l).getD i .undef=xs.getD (l+i) .undef:=fun i hi=>by
  rw [cQ,getD_take _ _ _ _ (by omega)]
 have key:VR g (.list sz ((xs.take h).drop l)) (.slice (some ⟨b,c+l * sz,none⟩) (h - l) (h - l)):=by
  have:=VR.list (g:=g) sz ((xs.take h).drop l) b (c+l * sz) (h - l) (fun i j=>cs (l+i) j) (by omega)
   (fun i hi=>by rw [hlen] at hi;rw [hget i hi];exact hln _ (by omega))
   (fun i j hi hj=>by
    rw [hlen] at hi
    have:=hc1 (l+i) j (by omega) hj
    rw [Nat.add_mul,← Nat.add_assoc] at this;exact this)
   (fun i j hi hj=>by rw [hlen] at hi;rw [hget i hi];exact hc2 _ _ (by omega) hj)
  rwa [hlen] at this
 refine ⟨_,?_,key⟩
 have e0:¬ h=l:=by omega
 have hc':h≤cap:=by omega
 have hlh':l≤h:=by omega
 simp [execOp,ho,Instr.sliceAt,ae hd,Instr.slice,hu,v1.a6,v2.a6,v3.a6,Instr.sliceBounds,Instr.sliceBound,asIntOf,hc',hlh',run_sizeOf hs,addr_add,e0]
end Go.Ab
namespace Go.Proofs.YtpficjpdfbiedaaGreatDoor
open Go Go.Ab
set_option maxRecDepth 20000
set_option maxHeartbeats 1000000
theorem wA (a b:List Tch):spT (a++b)=spT a++spT b:=by
 induction a with
 | nil=>rfl
 | cons t a ih=>simp only [List.cons_append,spT,ih]
theorem C4 {l:List Tch} {i:Nat} (h:i < l.length):spT (l.take (i+1))=spT (l.take i)++[(l.getD i default).1.1,xK (l.getD i default).1.2,(l.getD i default).2]:=by
 rw [List.take_add_one,List.getElem?_eq_getElem h,List.getD_eq_getElem?_getD,List.getElem?_eq_getElem h,wA]
 rfl
theorem uL (l:List Tch) (hn:l.length≤1000000) (hl:(fV l).length≤140737488355328) (p:Oid) (hp:p.mono=false):aj Tryz.prog 36 [.list 3 (l.map aS)] (Oid.under p) ⟨[],.str (fV l),[]⟩:=by
 have hl3:=sB l
 have hE:=fun p hp=>e7 (spT l) hl (by omega) p hp
 have e3:(3:Int) * (l.length:Int)=((3 * l.length:Nat):Int):=by omega
 refine aA (n:=30) (rs:=[.tmp 2]) Tryz.func36 rfl rfl (by decide) rfl rfl rfl ?_;rintro x rfl hrd hng
 refine qw0 ?_
 refine ar nmd [] hng (by kernel_rfl) fun hf C S K hC1 hC hS hK=>?_;simp (disch:=first|omega|assumption) only [go_sem,e3,List.length_map]
 refine hS _ _ _ (fun o' hd ho'=>(uK (nid:=.sub 1 3 x.p) (n:=0) (cp:=3 * l.length) (v0:=.str []) (sz:=1) (bytes:=16) ho' rfl rfl (by omega) rfl rfl rfl rfl (by omega) (by omega) (by omega) (Oid.aq _) rfl).nd) (fun _ h=>by cases h) ?_ (fun _ _ h=>h.elim)
 rintro _ _ ⟨rfl,rfl⟩
 simp (disch:=first|omega|assumption) only [go_sem,e3,List.length_map,List.replicate_zero]
 refine hK ?_;clear hK hS hC hC1 K S C hf
 (repeat (first|(refine aB rfl rfl ?_)|(refine aC rfl rfl ?_)|(refine ar nmd [] hng (by kernel_rfl) fun hf C S K hC1 hC hS hK=>?_;simp (disch:=first|omega|assumption) only [go_sem,List.length_map];refine hK ?_;clear hK hS hC hC1 K S C hf)|((first|refine zn ?_|refine ze ?_|refine zk ?_);with_reducible (constructor;repeat constructor);try refine zl ?_)))
 refine bp [3,11,12,13] (fun k s'=>∃ (i c d j:Nat),s' = ⟨[(3,.sl (.sub d j x.p) 1 (3 * i)),(11,.list 3 (l.map aS)),(12,.int .i64 l.length),(13,.int .i64 i)],Mem.of [(.sub d j x.p,.arr 1 ((spT (l.take i)).map AV.str))],c,[]⟩∧k=l.length - i∧i≤l.length∧d < c) _ ⟨0,_,1,3,rfl,rfl,Nat.zero_le _,by omega⟩ ?_
 rintro k s' ⟨i,c,d,j,rfl,rfl,hi,hdc⟩
 refine qw0 ?_
 refine aK rfl rfl (fun hb=>?_) (fun hb=>?_)
 ·have hlt:i < l.length:=by omega
  have ht:=C4 (l:=l) hlt
  have hsl:=sB (l.take i)
  rw [List.length_take,Nat.min_eq_left hi] at hsl
  generalize hg:l.getD i default=g at ht
  obtain ⟨⟨gp,gf⟩,gv⟩:=g
  generalize spT (l.take i)=D at ht hsl ⊢
  have hDl:(D.map AV.str).length=3 * i:=by rw [List.length_map,hsl]
  cases gf
  ·(repeat (first|(refine aB rfl rfl ?_)|(refine aC rfl rfl ?_)|(refine ar nmd [] hng (by kernel_rfl) fun hf C S K hC1 hC hS hK=>?_;simp (disch:=first|omega|assumption) only [go_sem,hg,aS,AV.cells,List.length_map,hsl];refine hK ?_;clear hK hS hC hC1 K S C hf)|((first|refine zn ?_|refine ze ?_|refine zk ?_);with_reducible (constructor;repeat constructor);try refine zl ?_)))
   exact ⟨_,Mem.of [(.sub (c+1+1+1+1) 7 x.p,.arr 1 ((spT (l.take (i+1))).map AV.str))],by omega,wT (by rw [ht,List.map_append];simp (disch:=first|omega|assumption) only [go_sem,xK,Bool.false_eq_true,if_true,if_false]),i+1,c+1+1+1+1+1+1,c+1+1+1+1,7,rfl,rfl,by omega,by omega⟩
  ·(repeat (first|(refine aB rfl rfl ?_)|(refine aC rfl rfl ?_)|(refine ar nmd [] hng (by kernel_rfl) fun hf C S K hC1 hC hS hK=>?_;simp (disch:=first|omega|assumption) only [go_sem,hg,aS,AV.cells,List.length_map,hsl];refine hK ?_;clear hK hS hC hC1 K S C hf)|((first|refine zn ?_|refine ze ?_|refine zk ?_);with_reducible (constructor;repeat constructor);try refine zl ?_)))
   exact ⟨_,Mem.of [(.sub (c+1+1+1+1+1) 7 x.p,.arr 1 ((spT (l.take (i+1))).map AV.str))],by omega,wT (by rw [ht,List.map_append];simp (disch:=first|omega|assumption) only [go_sem,xK,Bool.false_eq_true,if_true,if_false]),i+1,c+1+1+1+1+1+1+1,c+1+1+1+1+1,7,rfl,rfl,by omega,by omega⟩
 ·obtain rfl:i=l.length:=by omega
  rw [List.take_length]
  refine qw0 ?_
  (refine gR (.sub d j x.p) _ _ (by simp (disch:=first|omega|assumption) only [go_sem];rfl) ?_;simp (disch:=first|omega|assumption) only [go_sem])
  simp (disch:=first|omega|assumption) only [go_sem,hl3]
  refine qr1 (hE _) ?_
  refine qw0 ?_
  exact ay (bS rfl)
theorem wB (m:Mm) (hr:m.rd.length≤1000000) (hw:m.wr.length≤1000000) (hlr:(fV m.rd).length≤140737488355328) (hlw:(fV m.wr).length≤140737488355328) (hs:-9223372036854775808≤m.st∧m.st≤9223372036854775807) (hl:(CN m).length≤140737488355328) (p:Oid) (hp:p.mono=false):aj Tryz.prog 16 [.agg [.str m.key,.list 3 (m.rd.map aS),.list 3 (m.wr.map aS),.int .i64 m.st,.str m.out,.str m.err]] (Oid.under p) ⟨[],.str (CN m),[]⟩:=by
 have hS1:=fun p hp=>uL m.rd hr hlr p hp
 have hS2:=fun p hp=>uL m.wr hw hlw p hp
 have hI:=fun p hp=>ig m.st hs.1 hs.2 p hp
 have hE:=fun p hp=>e7 [m.key,fV m.rd,fV m.wr,Lib.itoa m.st,m.out,m.err] hl (by simp) p hp
 rw [show bg [m.key,fV m.rd,fV m.wr,Lib.itoa m.st,m.out,m.err]=CN m from rfl] at hE
 simp only [List.map_cons,List.map_nil] at hE
 generalize CN m=E at hE ⊢
 clear hl hlr hlw
 refine aA (n:=23) (rs:=[.tmp 2]) Tryz.func16 rfl rfl (by decide) rfl rfl rfl ?_;rintro x rfl hrd hng
 refine qw0 ?_
 refine qd (.d [(1,4),(4,6),(1,7),(4,10),(7,10),(1,11),(4,14),(7,14),(11,14),(4,17),(7,17),(11,17)] [] [2]) trivial (cq (hS1 _) (cq (hS2 _) (cq (hI _) (cq (hE _) trivial)))) ?_
 refine qw0 ?_
 exact ay (bS rfl)
theorem Ih (a e:List Str) (cwd:Str) (um:Int) (inp:Str) (ha:(bg a).length≤100000000) (he:(bg e).length≤100000000) (ha2:a.length≤1000000) (he2:e.length≤1000000) (hc:cwd.length≤100000000) (hi:inp.length≤100000000) (hu:-9223372036854775808≤um∧um≤9223372036854775807) (p:Oid) (hp:p.mono=false) :
  aj Tryz.prog 10 [.list 1 (a.map AV.str),.list 1 (e.map AV.str),.str cwd,.int .i64 um,.str inp] (Oid.under p) ⟨[],.str (uH (bg [bg a,bg e,cwd,Lib.itoa um,inp])),[]⟩:=by
 have h1:=fun p hp=>e7 a (by omega) (by omega) p hp
 have h2:=fun p hp=>e7 e (by omega) (by omega) p hp
 have h3:=fun p hp=>ig um hu.1 hu.2 p hp
 have hlen:(bg [bg a,bg e,cwd,Lib.itoa um,inp]).length≤1000000000:=by
  have one:∀ s:Str,s.length≤100000000→(chunk s).length≤100000100:=fun s h=>by
   have h1:=dJ s
   have h2:=Lib.itoa_length_le s.length (by omega) (by omega)
   omega
  have c1:=one _ ha
  have c2:=one _ he
  have c3:=one _ hc
  have c5:=one _ hi
  have hii:=Lib.itoa_length_le um hu.1 hu.2
  have c4:=one (Lib.itoa um) (by omega)
  simp only [bg,List.length_append,List.length_nil];omega
 have h4:=fun p hp=>e7 [bg a,bg e,cwd,Lib.itoa um,inp] (by omega) (by simp) p hp
 have h5:=fun p=>Ig (bg [bg a,bg e,cwd,Lib.itoa um,inp]) (by omega) p
 simp only [List.map_cons,List.map_nil] at h4
 generalize uH (bg [bg a,bg e,cwd,Lib.itoa um,inp])=K0 at h5 ⊢
 generalize bg [bg a,bg e,cwd,Lib.itoa um,inp]=E0 at h4 h5
 refine aA (n:=22) (rs:=[.tmp 10]) Tryz.func10 rfl rfl (by decide) rfl rfl rfl ?_;rintro x rfl hrd hng
 refine qw0 ?_
 refine qr .o trivial (cq (h1 _) (cq (h2 _) (cq (h3 _) (cq (h4 _) (cq (h5 _) trivial))))) ?_
 refine qw0 ?_
 exact ay (bS rfl)
end Go.Proofs.YtpficjpdfbiedaaGreatDoor
namespace Go.Ab
def C5 (P:Program) [Laid P] (f:FuncId) (cap:List AV) (p:Oid) (need:List (Oid × ah)) (k:Nat) (V:List (List AV)→List AV→Prop) (S:Bool→List (List AV)→Prop):Prop :=
 ∀ (l:Nat) (J:Bool→List (List AV)→List (Oid × ah)→Prop) (L0:List (Oid × ah)),J true [] L0→(∀ q ∈ L0,∀ q' ∈ need,q.1≠q'.1)→(∀ q ∈ L0,¬ Oid.under p q.1) →
  (∀ pre xs L p',p'.mono=false→J true pre L→xs.length=k→V pre xs→lh P l xs (Oid.under p') L (fun val upd=>∃ b L',val = .bool b∧J b (pre++[xs]) L'∧jg L (Oid.under p') upd L')) →
  bQ P f (.fn (.yield l) [] []::cap) (Oid.under p) (need++L0) (fun _ upd=>∃ b pre L',S b pre∧J b pre L'∧jg (need++L0) (Oid.under p) upd (need++L')) (fun _ _=>False)
theorem zP {P:Program} [Laid P] {n:Nat} {fr:List (Nat × AV)} {l k:Nat} {lid:Oid} {r:Loop} {V:List (List AV)→List AV→Prop} {J:Option Code→List (List AV)→List (Oid × ah)→Prop} {A:List (List AV)→List AV→List (Oid × ah)→Oid→AS→Prop}
  (hst:r.state = .ready) (hps:r.params.size=k)
  (hassign:∀ (y:Ctx) pre xs L1,J none pre L1→xs.length=k→V pre xs→y.rd=some l→Fit P y→y.p.mono=false→T P y n r.assign ⟨kc r.params.toList xs fr,Mem.of L1,0,[]⟩ (fun e s=>e = .normal∧A pre xs L1 y.p s))
  (hbody:∀ (y:Ctx) pre xs L1 s,J none pre L1→xs.length=k→V pre xs→y.rd=some l→Fit P y→y.p.mono=false→A pre xs L1 y.p s→T P y n r.body s (rC J (pre++[xs]) L1 y.p))
  (pre:List (List AV)) (xs:List AV) (L1:List (Oid × ah)) (p':Oid) (hpm:p'.mono=false) (hj:J none pre L1) (hxs:xs.length=k) (hv:V pre xs) (hnl:∀ q ∈ L1,q.1≠lid) :
  lh P l xs (Oid.under p') ((lid,.loop l n fr r)::L1) (fun val upd=>∃ jump L',val = .bool jump.isNone∧J jump (pre++[xs]) L'∧(∀ q ∈ L',q.1≠lid) ∧
   jg ((lid,.loop l n fr r)::L1) (Oid.under p') upd ((lid,.loop l n fr { r with state:=if jump.isNone then .ready else .done,pending:=jump })::L')):=by
 intro y g args w m hm hn hargs hsp hng
 have hlid:=hn _ (List.mem_cons_self)
 simp only at hlid
 obtain ⟨c1,c2,c3,c4,c5,c6,hbusy⟩:=hm.iE (r':={ r with state:=.busy }) hlid rfl
 have hlt:l < w.heap.size:=(Array.getElem?_eq_some_iff.1 c1).1
 have hLn:∀ q ∈ L1,m q.1=some q.2:=fun q hq=>hn q (List.mem_cons_of_mem _ hq)
 have hnot:∀ q ∈ L1,g.loc q.1≠some (some l):=fun q hq e=>hnl q hq (hm.inj _ _ _ _ l (hLn q hq) hlid e c2)
 have hup:∀ i,Oid.under p' i→i≠lid:=fun i hi e=>by rw [e] at hi;have:=(hsp _ hi).1;rw [c2] at this;cases this
 have hpx:Oid.under y.p p':=(hsp p' (Oid.aq p')).2
 refine ⟨r.fn,_,r.assign,r.body,run_yield (P:=P) (args:=args) c1 (by rw [hargs.1,hxs,hps]),roundIn_of_wpIn (F:=Fc y.rd) trivial ?_⟩
 have hbind:=l3 (g:=g) (n:=n) r.params.toList xs args.toList fr r.tmps c5 c6 (by simp [hargs.1]) (fun j hj=>by
  have:=hargs.2 j hj
  simpa [List.getD_eq_getElem?_getD,Array.getD_eq_getD_getElem?] using this)
 have htm:(r.params.zip args).foldl (fun tmps (q:Tmp × Value)=>tmps.setIfInBounds q.1 q.2) r.tmps=(r.params.toList.zip args.toList).foldl (fun tmps q=>tmps.setIfInBounds q.1 q.2) r.tmps:=by
  rw [← Array.toList_zip,Array.foldl_toList]
 have hm1:aw { y.inner g w L1 p' with rd:=some l } g (Mem.of L1) w:=(hm.enter (need:=L1) (p:=p') hLn).rd (some l)
 have hrel:Rel { y.inner g w L1 p' with rd:=some l } n g ⟨kc r.params.toList xs fr,Mem.of L1,0,[]⟩ { tmps:=(r.params.zip args).foldl (fun tmps (q:Tmp × Value)=>tmps.setIfInBounds q.1 q.2) r.tmps,defers:=[] } w:=by
  rw [htm]
  exact ⟨hm1,hbind.1,.nil,hbind.2,fun i hi=>(hsp i hi.under).1⟩
 have kmay:∀ {o:Option Nat} {w0:World},w0.heap.size=w.heap.size→¬ (({ y.inner g w0 L1 p' with rd:=o }:Ctx).may0 l):=by
  rintro o w0 _ ⟨q,hq,hloc⟩;exact hnot q hq hloc
 refine wpIn_mono (hassign { y.inner g w L1 p' with rd:=some l } pre xs L1 hj hxs hv rfl (hng.inner rfl hm.le) hpm g _ w hrel) ?_
 rintro e1 a1 w1 ⟨g1,ex1,s1,r1,f1,rfl,hA⟩
 cases e1<;>simp only [AX.fits] at f1
 simp only [Exit.then]
 have k1:w1.heap[l]? = some (.loop r):=(r1.mr.kept l hlt (kmay rfl)).trans c1
 have hrow1:∀ rr,g1.row l≠some rr:=fun rr hrr=>by
  obtain ⟨cc,t,fz,h1,_⟩:=r1.mr.rows l rr hrr;rw [k1] at h1;cases h1
 refine ⟨_,run_beginRound k1 hst,?_⟩
 obtain ⟨hm2,_⟩:=aw.both (x:=y) (g0:=g) (w0:=w) (p:=p') (need:=L1) (ob:=.loop { r with state:=.busy }) (r1.mr.rd none) hlt hnot c4 hrow1 (fun c9 t9 fz9 h9=>by rw [k1] at h9;cases h9)
 have hrel2:Rel { y.inner g (w.putObj l (.loop { r with state:=.busy })) L1 p' with rd:=some l } n g1 s1 a1 (w1.putObj l (.loop { r with state:=.busy })):=⟨hm2.rd (some l),r1.tm,r1.df,r1.fr,r1.young⟩
 refine wpIn_mono (hbody { y.inner g (w.putObj l (.loop { r with state:=.busy })) L1 p' with rd:=some l } pre xs L1 s1 hj hxs hv rfl (hng.inner rfl hm.le) hpm hA g1 _ _ hrel2) ?_
 rintro e3 a3 w3 ⟨g3,ex3,s3,r3,f3,hq⟩
 have k3:w3.heap[l]? = some (.loop { r with state:=.busy }):=(r3.mr.kept l (by simpa [World.putObj,Ctx.inner] using hlt) (kmay (by simp [World.putObj]))).trans (World.putObj_heap_same hlt)
 have fin:∀ jump L',J jump (pre++[xs]) L'→(∀ q ∈ L',s3.mem q.1=some q.2)→(∀ q ∈ L',(∃ q' ∈ L1,q'.1=q.1)∨Oid.under p' q.1) →
   ∃ v w',(Instr.endRound l jump).run P w3 = .ok v w'∧∃ g' v' val upd,(Ending.returned v:Ending) = .returned v'∧(∃ jump L',val = .bool jump.isNone∧J jump (pre++[xs]) L'∧(∀ q ∈ L',q.1≠lid) ∧
    jg ((lid,.loop l n fr r)::L1) (Oid.under p') upd ((lid,.loop l n fr { r with state:=if jump.isNone then .ready else .done,pending:=jump })::L'))∧g.le g'∧(∀ i,¬ Oid.under p' i→g'.loc i=g.loc i)∧VR g' val v'∧aw y g' (m.aH upd) w':=by
  intro jump L' hJ' hL' hN'
  obtain ⟨s1',s2'⟩:=lf (L:=L1) (sp:=Oid.under p') hL' hN'
  have hL'n:∀ q ∈ L',q.1≠lid:=fun q hq e=>by
   rcases hN' q hq with ⟨q',h1,h2⟩|h1
   ·exact hnl q' h1 (h2.trans e)
   ·exact hup _ h1 e
  have hkey:∀ q ∈ clr L1++iD L',q.1≠lid:=fun q hq e=>by
   rcases List.mem_append.1 hq with h|h
   ·obtain ⟨q',h1,rfl⟩:=List.mem_map.1 h;exact hnl q' h1 e
   ·obtain ⟨q',h1,rfl⟩:=List.mem_map.1 h;exact hL'n q' h1 e
  have hlv:=hbusy.leave (need:=L1) (p:=p') (fun q hq=>by simp only [Mem.set];rw [if_neg (hnl q hq)];exact hLn q hq) hpx (g':=g3) (m':=s3.mem) (w':=w3) (upd:=clr L1++iD L') (r3.mr.rd none) s2'
  have hl3:((m.set lid (some (.loop l n fr { r with state:=.busy }))).aH (clr L1++iD L')) lid=some (.loop l n fr { r with state:=.busy }):=by
   rw [aY hkey];simp [Mem.set]
  obtain ⟨_,_,_,_,_,_,hfin⟩:=hlv.iE (r':={ r with state:=if jump.isNone then .ready else .done,pending:=jump }) hl3 rfl
  refine ⟨_,_,run_endRound jump k3,g3,_,.bool jump.isNone,(lid,some (.loop l n fr { r with state:=.busy }))::(clr L1++iD L')++[(lid,some (.loop l n fr { r with state:=if jump.isNone then .ready else .done,pending:=jump }))],rfl,⟨jump,L',rfl,hJ',hL'n,?_⟩,r3.mr.le,r3.mr.locs,.bool _,?_⟩
  ·refine ⟨fun q hq=>?_,fun q hq=>?_,fun q hq=>?_⟩
   ·rw [cj]
    rcases List.mem_cons.1 hq with rfl|hq
    ·simp [Mem.aH,Mem.set]
    ·simp only [Mem.aH,Mem.set]
     rw [if_neg (hL'n q hq),← s1'.got q hq]
     exact gI ⟨(q.1,some q.2),List.mem_append_right _ (List.mem_map.2 ⟨q,hq,rfl⟩),rfl⟩
   ·rcases List.mem_append.1 hq with h|h
    ·rcases List.mem_cons.1 h with rfl|h
     ·exact .inl ⟨_,List.mem_cons_self,rfl⟩
     ·exact (s1'.tou q h).imp (fun ⟨q',h1,h2⟩=>⟨q',List.mem_cons_of_mem _ h1,h2⟩) id
    ·simp only [List.mem_singleton] at h;subst h;exact .inl ⟨_,List.mem_cons_self,rfl⟩
   ·rcases List.mem_cons.1 hq with rfl|hq
    ·exact .inl ⟨_,List.mem_cons_self,rfl⟩
    ·exact (hN' q hq).imp (fun ⟨q',h1,h2⟩=>⟨q',List.mem_cons_of_mem _ h1,h2⟩) id
  ·rw [cj];exact hfin
 cases ex3 with
 | normal=>cases e3<;>simp only [AX.fits] at f3;obtain ⟨L',q1,q2,q3⟩:=hq;exact fin none L' q1 q2 q3
 | ret=>cases e3<;>simp only [AX.fits] at f3;obtain ⟨L',q1,q2,q3⟩:=hq;exact fin (some .ret) L' q1 q2 q3
 | exit i=>cases e3<;>simp only [AX.fits] at f3;subst f3;obtain ⟨L',q1,q2,q3⟩:=hq;exact fin (some (.exit i)) L' q1 q2 q3
 | panic v=>exact hq.elim
section
variable {P:Program} [Laid P] {x:Ctx} {n:Nat} {Q:AX→AS→Prop} {fr:List (Nat × AV)} {m:Mem} {c:Nat} {ds:List AD}
theorem lN {t:Nat} {ps:Array Tmp} {assign body:Code} {gf:FuncId} {cap:List AV} {need:List (Oid × ah)} {k:Nat} {V:List (List AV)→List AV→Prop} {S:Bool→List (List AV)→Prop}
  (hrd:x.rd=none) (hng:Fit P x) (ht:(decide (t < n))=true) (hg:F fr t = .fn (.func gf) [] cap) (hps:ps.size=k) (hseq:C5 P gf cap (.sub c 2 x.p) need k V S) (hneed:∀ q ∈ need,m q.1=some q.2)
  (J:Option Code→List (List AV)→List (Oid × ah)→Prop) (L:List (Oid × ah)) (hJ:J none [] L) (hL:∀ q ∈ L,m q.1=some q.2) (hdis:∀ q ∈ L,∀ q' ∈ need,q.1≠q'.1)
  (A:List (List AV)→List AV→List (Oid × ah)→Oid→AS→Prop)
  (hassign:∀ (y:Ctx) l pre xs L1,J none pre L1→xs.length=k→V pre xs→y.rd=some l→Fit P y→y.p.mono=false→T P y n assign ⟨kc ps.toList xs fr,Mem.of L1,0,[]⟩ (fun e s=>e = .normal∧A pre xs L1 y.p s))
  (hbody:∀ (y:Ctx) l pre xs L1 s,J none pre L1→xs.length=k→V pre xs→y.rd=some l→Fit P y→y.p.mono=false→A pre xs L1 y.p s→T P y n body s (rC J (pre++[xs]) L1 y.p))
  (hend:∀ pre L' m',S true pre→J none pre L'→(∀ q ∈ L',m' q.1=some q.2)→m' (.sub c 0 x.p)=some .dfr→(∀ i o,m i=some o→(∀ q ∈ L,q.1≠i)→m' i=some o)→(∀ q ∈ L',(∃ q' ∈ need,q'.1=q.1)∨(∃ q' ∈ L,q'.1=q.1)∨Oid.under (.sub c 2 x.p) q.1)→Q .normal ⟨fr,m',c+1,.coll (.sub c 0 x.p)::ds⟩)
  (hstop:∀ pre L' m' cd,S false pre→J (some cd) pre L'→(∀ q ∈ L',m' q.1=some q.2)→m' (.sub c 0 x.p)=some .dfr→(∀ i o,m i=some o→(∀ q ∈ L,q.1≠i)→m' i=some o)→(∀ q ∈ L',(∃ q' ∈ need,q'.1=q.1)∨(∃ q' ∈ L,q'.1=q.1)∨Oid.under (.sub c 2 x.p) q.1)→T P x n cd ⟨fr,m',c+1,.coll (.sub c 0 x.p)::ds⟩ Q) :
  T P x n (.rangeFunc (.tmp t) ps assign body) ⟨fr,m,c,ds⟩ Q:=by
 intro g a w hr
 have htn:t < n:=of_decide_eq_true ht
 have fresh:=hr.fresh
 have hyoung:∀ j,dN x.p c (.sub c j x.p):=fun j=>⟨c,j,Nat.le_refl _,Oid.aq _⟩
 have hyu:∀ j i,Oid.under (.sub c j x.p) i→dN x.p c i:=fun j i h=>⟨c,j,Nat.le_refl _,h⟩
 have hdl:g.loc (.sub c 0 x.p)=none:=hr.young _ (hyoung 0)
 have hll:g.loc (.sub c 1 x.p)=none:=hr.young _ (hyoung 1)
 have hne01:(Oid.sub c 0 x.p)≠Oid.sub c 1 x.p:=fun h=>by injection h with _ h;omega
 have hmd:m (.sub c 0 x.p)=none:=fresh _ (hyoung 0)
 have hml:m (.sub c 1 x.p)=none:=fresh _ (hyoung 1)
 refine wpIn_rangeFunc ?_
 intro fn _
 obtain ⟨rec,hrec⟩:∃ rec:LoopState→Option Code→Loop,rec=fun st pe=>{ state:=st,pending:=pe,fn,tmps:=a.tmps,params:=ps,assign,body,defers:=w.heap.size }:=⟨_,rfl⟩
 generalize hl:w.heap.size+1=l
 have h1:=hr.mr.new (i:=.sub c 0 x.p) hdl (hyoung 0).under (o:=.dfr) (ob:=.deferred (some [])) (bA _ _) (fun t9 h9=>by cases h9)
 have hs1:(w.alloc (.deferred (some []))).heap.size=l:=by simp [hl]
 have hl1:(g.bind (.sub c 0 x.p) w.heap.size).loc (.sub c 1 x.p)=none:=by simp only [Gh.bind];rw [if_neg hne01.symm];exact hll
 have h2:=h1.new (i:=.sub c 1 x.p) hl1 (hyoung 1).under (o:=.loop l n fr (rec .ready none)) (ob:=.loop (rec .ready none)) ⟨hs1,bA _ _,by rw [hrec];exact hr.tm,fun t ht=>by
  rw [hrec];exact (hr.fr t ht).mono (Gh.le_trans (Gh.bq hdl) (Gh.bq hl1))⟩ (fun t9 h9=>by cases h9)
 rw [hs1] at h2
 generalize hw2:(w.alloc (.deferred (some []))).alloc (.loop (rec .ready none))=w2 at h2
 generalize hg2:(g.bind (.sub c 0 x.p) w.heap.size).bind (.sub c 1 x.p) l=g2 at h2
 have hle2:g.le g2:=by rw [← hg2];exact Gh.le_trans (Gh.bq hdl) (Gh.bq hl1)
 have hloc2:∀ i,i≠.sub c 0 x.p→i≠.sub c 1 x.p→g2.loc i=g.loc i:=fun i h3 h4=>by rw [← hg2];simp only [Gh.bind];rw [if_neg h4,if_neg h3]
 have hd2:g2.loc (.sub c 0 x.p)=some (some w.heap.size):=by rw [← hg2];simp only [Gh.bind];rw [if_neg hne01];simp
 generalize hm2:(m.set (.sub c 0 x.p) (some .dfr)).set (.sub c 1 x.p) (some (.loop l n fr (rec .ready none)))=m2 at h2
 have m2old:∀ i o,m i=some o→m2 i=some o:=fun i o hi=>by
  rw [← hm2];simp only [Mem.set]
  rw [if_neg (fun e=>by rw [e,hml] at hi;cases hi),if_neg (fun e=>by rw [e,hmd] at hi;cases hi)];exact hi
 have m2l:m2 (.sub c 1 x.p)=some (.loop l n fr (rec .ready none)):=by rw [← hm2];simp [Mem.set]
 have m2d:m2 (.sub c 0 x.p)=some .dfr:=by rw [← hm2];simp only [Mem.set];rw [if_neg hne01];simp
 have hfv:=hr.fr t htn
 rw [hg] at hfv
 obtain ⟨fa,ca,hu,e1,e2,e3,e4⟩:=hfv.jo
 have hfa:fa=#[]:=Array.eq_empty_of_size_eq_zero (by simpa using e1)
 subst hfa
 have ltL:∀ q ∈ L,q.1≠.sub c 1 x.p:=fun q hq e=>by have:=hL q hq;rw [e,hml] at this;cases this
 have hcall:=hseq l (fun b pre LL=>∃ L1 pe,LL=(.sub c 1 x.p,.loop l n fr (rec (if pe.isNone then .ready else .done) pe))::L1∧J pe pre L1∧b=pe.isNone∧∀ q ∈ L1,q.1≠.sub c 1 x.p)
  ((.sub c 1 x.p,.loop l n fr (rec .ready none))::L) ⟨L,none,rfl,hJ,rfl,ltL⟩
  (fun q hq q' hq' e=>by
   rcases List.mem_cons.1 hq with rfl|hq
   ·have:=hneed q' hq';rw [← e,hml] at this;cases this
   ·exact hdis q hq q' hq' e)
  (fun q hq hu=>by
   rcases List.mem_cons.1 hq with rfl|hq
   ·have:=(Oid.apart hu (Oid.aq (.sub c 1 x.p))).2;omega
   ·have h8:=hL q hq;have h9:m q.1=none:=fresh _ (hyu 2 _ hu);rw [h9] at h8;cases h8)
  (by
   rintro pre xs LL p' hpm ⟨L1,pe,rfl,hj,hb,hnl⟩ hxs hv
   have hpe:pe=none:=by cases pe with|none=>rfl|some _=>cases hb
   subst hpe
   have hy:=zP (V:=V) (P:=P) (n:=n) (fr:=fr) (l:=l) (k:=k) (lid:=.sub c 1 x.p) (r:=rec .ready none) (J:=J) (A:=A) (by rw [hrec]) (by rw [hrec];exact hps)
    (fun y pre xs L1=>by rw [hrec];exact hassign y l pre xs L1) (fun y pre xs L1 s=>by rw [hrec];exact hbody y l pre xs L1 s) pre xs L1 p' hpm hj hxs hv hnl
   intro y g' args w' m' h3 h4 h5 h6 h7
   obtain ⟨f,tmps,ags,bo,k1,k2,k3⟩:=hy y g' args w' m' h3 h4 h5 h6 h7
   refine ⟨f,tmps,ags,bo,k1,k2,fun cc cs hroom=>?_⟩
   obtain ⟨en,w'',⟨g'',v,val,upd,rfl,⟨jump,L',q1,q2,q3,q4⟩,q5⟩,hc⟩:=k3 cc cs hroom
   refine ⟨.returned v,w'',⟨g'',v,val,upd,rfl,⟨jump.isNone,_,q1,⟨L',jump,rfl,q2,rfl,q3⟩,?_⟩,q5⟩,hc⟩
   rw [hrec] at q4 ⊢;exact q4)
 have hrun:(callFunc gf (#[.func (.yield l) #[] #[]]++ca)).run P w2 = .ok (.enter gf (#[.func (.yield l) #[] #[]]++ca)) w2:=by
  have he:=hcall.enters
  unfold cG at he
  cases hfn:P.funcs[gf]? with
  | none=>rw [hfn] at he;cases he
  | some fn =>
   rw [hfn] at he
   simp only [Bool.and_eq_true,bne_iff_ne,ne_eq] at he
   obtain ⟨he1,he2⟩:=he
   have hb:fn.body.isNone=false:=by cases hbb:fn.body<;>simp_all
   have hnm:(fn.name == "runtime.NumGoroutine")=false:=by simpa using he2
   simp only [callFunc,Sem.run_bind,run_program,hfn,hnm,hb,Bool.false_eq_true,if_false,Result.andThen_ok,Sem.run_pure]
 refine ⟨l,[{ target:=.collected w.heap.size,args:=#[] }],w2,{ target:=.fn (.func gf) ca,args:=#[.func (.yield l) #[] #[]] },w2,gf,#[.func (.yield l) #[] #[]]++ca,w2,?_,?_,fun _ _=>trivial,?_,fun h=>absurd h (by simp [Fc]),?_⟩
 ·have:=run_enterLoop_outer (P:=P) (w:=w) fn a.tmps ps assign body
  have e1:(Fc x.rd).round=none:=hrd
  rw [e1,this,← hl,← hw2,hrec]
 ·have:a.eval (.tmp t) = .func (.func gf) #[] ca:=hu
  simp only [resolve,Sem.run_bind,this,Deferred.ofValue,Sem.run_pure,Result.andThen_ok]
  simp [Act.eval]
 ·simpa [invoke] using hrun
 ·have hneed2:∀ q ∈ need++(Oid.sub c 1 x.p,ah.loop l n fr (rec .ready none))::L,m2 q.1=some q.2:=fun q hq=>by
   rcases List.mem_append.1 hq with h|h
   ·exact m2old _ _ (hneed q h)
   ·rcases List.mem_cons.1 h with rfl|h
    ·exact m2l
    ·exact m2old _ _ (hL q h)
  have hsp2:∀ i,Oid.under (.sub c 2 x.p) i→g2.loc i=none∧Oid.under x.p i:=fun i hi=>by
   refine ⟨?_,Oid.af hi⟩
   rw [hloc2 i (fun e=>by rw [e] at hi;have:=(Oid.apart hi (Oid.aq (.sub c 0 x.p))).2;omega) (fun e=>by rw [e] at hi;have:=(Oid.apart hi (Oid.aq (.sub c 1 x.p))).2;omega)]
   exact hr.young i (hyu 2 i hi)
  refine gM.2 ((hcall.calls x g2 _ w2 m2 h2 hneed2 ?_ hsp2 hng).mono ?_)
  ·refine ⟨by simp [e2,Nat.add_comm],fun j hj=>?_⟩
   cases j with
   | zero=>rw [bj (by simp)];simpa using VR.fn (g:=g2) (.yield l) [] [] #[] #[] rfl rfl (fun j hj=>absurd hj (Nat.not_lt_zero _)) (fun j hj=>absurd hj (Nat.not_lt_zero _))
   | succ j =>
    have:=(e4 j (by simpa using hj)).mono hle2
    rw [dy (by simp)]
    simpa using this
  ·rintro en w4 (⟨g4,v,val,upd,rfl,⟨b,pre,LL',hS,⟨L',pe,rfl,hj,hb,hnl⟩,hU⟩,k1,k2,k3,k4⟩|⟨_,_,_,_,_,hf,_⟩)
   ·have m4:∀ q ∈ need++(Oid.sub c 1 x.p,ah.loop l n fr (rec (if pe.isNone then .ready else .done) pe))::L',(m2.aH upd) q.1=some q.2:=fun q hq=>oc hneed2 (hU.got q hq)
    have hl4:=m4 (.sub c 1 x.p,.loop l n fr (rec (if pe.isNone then .ready else .done) pe)) (by simp)
    obtain ⟨c1,c2,_,_,_,_,hm5⟩:=k4.iE (r':={ rec (if pe.isNone then .ready else .done) pe with state:=.exhausted }) hl4 rfl
    have hstate:(rec (if pe.isNone then .ready else .done) pe).state≠.busy:=by rw [hrec];cases pe<;>simp
    have touch:∀ q ∈ upd,q.1 = .sub c 1 x.p∨(∃ q' ∈ need,q'.1=q.1)∨(∃ q' ∈ L,q'.1=q.1)∨Oid.under (.sub c 2 x.p) q.1:=fun q hq=>by
     rcases hU.tou q hq with ⟨q',h1,h2⟩|h1
     ·rcases List.mem_append.1 h1 with h|h
      ·exact .inr (.inl ⟨q',h,h2⟩)
      ·rcases List.mem_cons.1 h with rfl|h
       ·exact .inl h2.symm
       ·exact .inr (.inr (.inl ⟨q',h,h2⟩))
     ·exact .inr (.inr (.inr h1))
    have hd4:(m2.aH upd) (.sub c 0 x.p)=some .dfr:=by
     rw [aY (fun q hq e=>?_)];exact m2d
     rcases touch q hq with h|⟨q',h1,h2⟩|⟨q',h1,h2⟩|h
     ·exact hne01 (e.symm.trans h)
     ·have:=hneed q' h1;rw [h2,e,hmd] at this;cases this
     ·have:=hL q' h1;rw [h2,e,hmd] at this;cases this
     ·rw [e] at h;have:=(Oid.apart h (Oid.aq (.sub c 0 x.p))).2;omega
    have hold:∀ i o,m i=some o→(∀ q ∈ L,q.1≠i)→(m2.aH upd) i=some o:=fun i o hi hno=>by
     by_cases hk:∃ q,q ∈ upd∧q.1=i
     ·obtain ⟨q,hq,rfl⟩:=hk
      rcases touch q hq with h|⟨q',h1,h2⟩|⟨q',h1,h2⟩|h
      ·rw [h,hml] at hi;cases hi
      ·have h8:=m4 q' (by simp [h1]);have h9:=hneed q' h1
       rw [h2] at h8 h9;rw [hi] at h9;rw [h8,h9]
      ·exact absurd h2 (hno q' h1)
      ·have h9:m q.1=none:=fresh _ (hyu 2 _ h);rw [h9] at hi;cases hi
     ·rw [aY (fun q hq e=>hk ⟨q,hq,e⟩)];exact m2old i o hi
    have hpend:(rec (if pe.isNone then .ready else .done) pe).pending=pe:=by rw [hrec]
    have hel:(Instr.endLoop l).run P w4 = .ok pe (w4.putObj l (.loop { rec (if pe.isNone then .ready else .done) pe with state:=.exhausted })):=by
     have:=run_endLoop (P:=P) c1 hstate
     rw [this];congr 1
    refine ⟨pe,_,hel,?_⟩
    generalize hmf:(m2.aH upd).set (.sub c 1 x.p) (some (.loop l n fr { rec (if pe.isNone then .ready else .done) pe with state:=.exhausted }))=mf at hm5
    have p1:∀ q ∈ L',mf q.1=some q.2:=fun q hq=>by
     rw [← hmf];simp only [Mem.set];rw [if_neg (hnl q hq)];exact m4 q (by simp [hq])
    have p2:mf (.sub c 0 x.p)=some .dfr:=by rw [← hmf];simp only [Mem.set];rw [if_neg hne01];exact hd4
    have p3:∀ i o,m i=some o→(∀ q ∈ L,q.1≠i)→mf i=some o:=fun i o hi hno=>by
     rw [← hmf];simp only [Mem.set];rw [if_neg (fun e=>by rw [e,hml] at hi;cases hi)];exact hold i o hi hno
    have p4:∀ q ∈ L',(∃ q' ∈ need,q'.1=q.1)∨(∃ q' ∈ L,q'.1=q.1)∨Oid.under (.sub c 2 x.p) q.1:=fun q hq=>by
     rcases hU.nam q (by simp [hq]) with ⟨q',h1,h2⟩|h1
     ·rcases List.mem_append.1 h1 with h|h
      ·exact .inl ⟨q',h,h2⟩
      ·rcases List.mem_cons.1 h with rfl|h
       ·exact absurd h2.symm (hnl q hq)
       ·exact .inr (.inl ⟨q',h,h2⟩)
     ·exact .inr (.inr h1)
    have hle4:g.le g4:=Gh.le_trans hle2 k1
    have hrel:Rel x n g4 ⟨fr,mf,c+1,.coll (.sub c 0 x.p)::ds⟩ { a with defers:=[{ target:=.collected w.heap.size,args:=#[] }]++a.defers } (w4.putObj l (.loop { rec (if pe.isNone then .ready else .done) pe with state:=.exhausted })):=by
     refine ⟨hm5,hr.tm,.cons (.coll _ _ (k1.1 _ _ hd2)) (hr.df.mono hle4),fun t ht=>(hr.fr t ht).mono hle4,fun i hi=>?_⟩
     obtain ⟨c',j,hc',hu'⟩:=hi
     have hc'':c+1≤c':=hc'
     have na:∀ j',¬ Oid.under (.sub c j' x.p) i:=fun j' h=>by have:=(Oid.apart h hu').1;omega
     rw [k2 i (na 2),hloc2 i (fun e=>na 0 (by rw [e];exact Oid.aq _)) (fun e=>na 1 (by rw [e];exact Oid.aq _))]
     exact hr.young i ⟨c',j,Nat.le_of_succ_le hc'',hu'⟩
    cases pe with
    | none=>subst hb;exact ⟨g4,.normal,_,hrel,trivial,hend pre L' mf hS hj p1 p2 p3 p4⟩
    | some cd=>subst hb;exact hstop pre L' mf cd hS hj p1 p2 p3 p4 g4 _ _ hrel
   ·exact hf.elim
end
end Go.Ab
namespace Go.Proofs.YtpficjpdfbiedaaGreatDoor
open Go Go.Ab
set_option maxRecDepth 20000
set_option maxHeartbeats 4000000
def Mm.av (m:Mm):AV:=.agg [.str m.key,.list 3 (m.rd.map aS),.list 3 (m.wr.map aS),.int .i64 m.st,.str m.out,.str m.err]
instance:Inhabited Mm:=⟨Mm.no⟩
def uM (B L0 L:List (Oid × ah)) (p:Oid):Prop:=∀ q ∈ L,((∃ q' ∈ L0,q'.1=q.1)∨Oid.under p q.1)∧∀ q' ∈ B,¬ q.1=q'.1
theorem ph {B L0 L L':List (Oid × ah)} {m:Mem} {p p':Oid} {upd:List (Oid × Option ah)} (hU:jg L (Oid.under p') upd L') (hm:∀ q ∈ B++L,m q.1=some q.2) (hn:uM B L0 L p) (hpp:∀ i,Oid.under p' i→Oid.under p i) (hB:∀ q ∈ B,¬ Oid.under p q.1) :
  (∀ q ∈ B++L',(m.aH upd) q.1=some q.2)∧uM B L0 L' p∧∀ q ∈ L',Mem.of L' q.1=some q.2:=by
 have hym:=qg (B:=B) hU (fun q hq=>hm q (List.mem_append_right _ hq)) (fun q hq=>hm q (List.mem_append_left _ hq)) fun q hq=>⟨fun q' hq'=>(hn q' hq').2 q hq,fun hu=>hB q hq (hpp _ hu)⟩
 refine ⟨hym,fun q hq=>?_,fun q hq=>?_⟩
 ·rcases hU.nam q hq with ⟨q',h1,h2⟩|h1
  ·have:=hn q' h1
   rw [h2] at this;exact this
  ·exact ⟨.inr (hpp _ h1),fun q' hq' e=>hB q' hq' (e ▸ hpp _ h1)⟩
 ·obtain ⟨o',ho'⟩:=Mem.nv hq
  obtain ⟨q',h1,h2,h3⟩:=Mem.dR ho'
  have h4:=hym q (List.mem_append_right _ hq)
  have h5:=hym q' (List.mem_append_right _ h1)
  rw [h2,h4,h3] at h5
  rw [ho'];exact h5.symm
theorem lO {B L0 L:List (Oid × ah)} {p:Oid} {m:Mem} (hm:∀ q ∈ B++L,m q.1=some q.2) (hn:uM B L0 L p):jg (B++L0) (Oid.under p) (clr (B++L0)++iD (B++L)) (B++L)∧∀ i o,((Mem.of (B++L0)).aH (clr (B++L0)++iD (B++L))) i=some o→m i=some o :=
 lf hm fun q hq=>by
  rcases List.mem_append.1 hq with hq|hq
  ·exact .inl ⟨q,List.mem_append_left _ hq,rfl⟩
  ·rcases (hn q hq).1 with ⟨q',h1,h2⟩|h
   ·exact .inl ⟨q',List.mem_append_right _ h1,h2⟩
   ·exact .inr h
def im (l:List Mm) (k:Nat):List (List AV):=(List.range k).map fun j=>[.int .i64 ((l.length - 1 - j:Nat):Int),(l.getD (l.length - 1 - j) default).av]
theorem pj (l:List Mm) (k:Nat):im l (k+1)=im l k++[[.int .i64 ((l.length - 1 - k:Nat):Int),(l.getD (l.length - 1 - k) default).av]]:=by
 simp [im,List.range_succ]
theorem C6 (b:Oid) (l:List Mm) (hl:l.length≤4000000000) (p:Oid) (hp:p.mono=false) (hbb:¬ Oid.under p b) :
  C5 Tryz.prog 102 [.ptr b 0] p [(b,.cells [.list 6 (l.map Mm.av)])] 2 (fun pre xs=>pre.length < l.length∧xs=[.int .i64 ((l.length - 1 - pre.length:Nat):Int),(l.getD (l.length - 1 - pre.length) default).av]) (fun e pre=>∃ k,k≤l.length∧pre=im l k∧(e=true→k=l.length)):=by
 intro y J L0 hJ hdis hnp hY
 refine eI (by kernel_rfl) fun hcon=>?_
 refine gY (n:=19) (rs:=[]) Tryz.func102 rfl rfl (by decide) rfl rfl rfl ?_;rintro x rfl hrd hng
 have hd0:∀ q ∈ L0,∀ q' ∈ ([(b,.cells [.list 6 (l.map Mm.av)])]:List (Oid × ah)),¬ q.1=q'.1:=hdis
 have hcL:∀ q ∈ L0,Mem.of L0 q.1=some q.2:=fun q hq=>by
  have:=hcon q (List.mem_append_right _ hq)
  rwa [vG fun q' hq'=>hdis q hq q' hq'] at this
 generalize hQ:dP Tryz.prog [] ([(b,.cells [.list 6 (l.map Mm.av)])]++L0) _ _=Q
 (try ((first|refine zn ?_|refine ze ?_|refine zk ?_);with_reducible (constructor;repeat constructor));try refine zl ?_)
 refine ar nmd [] hng (by kernel_rfl) fun hf C S K hC1 hC hS hK=>?_;simp (disch:=first|omega|assumption) only [go_sem,Oid.aa hbb,Oid.ab hbb,aV]
 refine hK ?_;clear hK hS hC hC1 K S C hf
 (try ((first|refine zn ?_|refine ze ?_|refine zk ?_);with_reducible (constructor;repeat constructor));try refine zl ?_)
 refine bp [0,1,3] (fun q s'=>∃ (c k:Nat) (i:Int) (L:List (Oid × ah)),s' = ⟨[(0,.fn (.yield y) [] []),(1,.ptr b 0),(3,.int .i64 i)],Mem.of ([(b,.cells [.list 6 (l.map Mm.av)])]++L),c,[]⟩∧q=l.length - k∧k≤l.length∧i=(l.length:Int) - 1 - k∧J true (im l k) L∧(∀ q ∈ L,Mem.of L q.1=some q.2)∧uM [(b,.cells [.list 6 (l.map Mm.av)])] L0 L x.p) _ ⟨_,0,_,L0,rfl,rfl,Nat.zero_le _,by omega,hJ,hcL,fun q hq=>⟨.inl ⟨q,hq,rfl⟩,hd0 q hq⟩⟩ ?_
 rintro q s' ⟨c,k,i,L,rfl,rfl,hk,hi,hj,hcc,hnm⟩
 refine qw0 ?_
 have hall:=gS (L:=L) (B:=[(b,.cells [.list 6 (l.map Mm.av)])]) (by simp only [bM,cb,Mem.ao,Mem.a8,Mem.bh,Mem.bz,cX,db,List.cons_append,List.nil_append,List.append_nil,↓reduceIte,eq_self,and_true,true_and,and_self,and_false,false_and,reduceCtorEq,Oid.sub.injEq,Nat.reduceEqDiff]) (fun q hq=>(hnm q hq).2) hcc
 refine aK rfl rfl (fun hb=>?_) (fun hb=>?_)
 ·have hlt:k < l.length:=by omega
  have hn:i.toNat=l.length - 1 - k:=by omega
  have hni:((l.length - 1 - k:Nat):Int)=i:=by omega
  have hbl:(im l k).length=k:=by simp [im]
  have hbs:=pj l k
  rw [hni] at hbs
  have hY1:=hY (im l k) [.int .i64 i,(l.getD (l.length - 1 - k) default).av] L (.sub (c+1) 6 x.p) (ax rfl hp) hj rfl ⟨by omega,by rw [hbl,hni]⟩
  rw [← hbs] at hY1
  generalize hg:l.getD (l.length - 1 - k) default=g at hY1 hbs
  obtain ⟨gk,gr,gw,gs,go,ge⟩:=g
  (try ((first|refine zn ?_|refine ze ?_|refine zk ?_);with_reducible (constructor;repeat constructor));try refine zl ?_)
  refine ar nmd [] hng (by kernel_rfl) fun hf C S K hC1 hC hS hK=>?_;simp (disch:=first|omega|assumption) only [go_sem,Oid.aa hbb,Oid.ab hbb,aV,hn,hg,Mm.av,AV.cells]
  simp only [Mm.av] at hY1
  refine hS _ _ _ (fun o' hd ho'=>lZ ho' rfl hY1) (fun q hq=>hall q (List.mem_append_right _ hq)) ?_ (fun _ _ h=>h.elim)
  rintro val upd ⟨e,L',rfl,hj',hU⟩
  obtain ⟨hym,hnm',hcl⟩:=ph (B:=[(b,.cells [.list 6 (l.map Mm.av)])]) (L0:=L0) (p:=x.p) hU hall hnm (fun _ h=>Oid.af h) (fun q hq=>by rw [List.mem_singleton.1 hq];exact hbb)
  simp (disch:=first|omega|assumption) only [go_sem]
  refine hK ?_;clear hK hS hC hC1 K S C hf
  (try ((first|refine zn ?_|refine ze ?_|refine zk ?_);with_reducible (constructor;repeat constructor));try refine zl ?_)
  refine jh ([(b,.cells [.list 6 (l.map Mm.av)])]++L') (by rw [← Mem.bh];exact hym) ?_
  have hall':=gS (L:=L') (B:=[(b,.cells [.list 6 (l.map Mm.av)])]) (by simp only [bM,cb,Mem.ao,Mem.a8,Mem.bh,Mem.bz,cX,db,List.cons_append,List.nil_append,List.append_nil,↓reduceIte,eq_self,and_true,true_and,and_self,and_false,false_and,reduceCtorEq,Oid.sub.injEq,Nat.reduceEqDiff]) (fun q hq=>(hnm' q hq).2) hcl
  cases e with
  | true =>
   refine qw0 ?_
   exact ⟨_,Mem.of ([(b,.cells [.list 6 (l.map Mm.av)])]++L'),by omega,ll hall',_,k+1,i - 1,L',rfl,rfl,by omega,by omega,hj',hcl,hnm'⟩
  | false =>
   refine aB rfl rfl (ay ?_)
   subst hQ
   have hsw:=lO (m:=Mem.of ([(b,.cells [.list 6 (l.map Mm.av)])]++L')) hall' hnm'
   exact bR _ _ rfl ⟨false,_,L',⟨k+1,by omega,rfl,fun h=>by cases h⟩,hj',hsw.1⟩ hsw.2
 ·obtain rfl:k=l.length:=by omega
  (try ((first|refine zn ?_|refine ze ?_|refine zk ?_);with_reducible (constructor;repeat constructor));try refine zl ?_)
  subst hQ
  have hsw:=lO (m:=Mem.of ([(b,.cells [.list 6 (l.map Mm.av)])]++L)) hall hnm
  refine b5 ?_
  exact eH _ _ rfl ⟨true,_,L,⟨_,Nat.le_refl _,rfl,fun _=>rfl⟩,hj,hsw.1⟩ hsw.2
def chk (l:List Str) (k:Nat):List AV:=[.str (l.getD (3 * k) default),.str (l.getD (3 * k+1) default),.str (l.getD (3 * k+2) default)]
theorem Ii {l:List Str} {k:Nat} (h:3 * k+3≤l.length):((l.map AV.str).take (3 * k+3)).drop (3 * k)=chk l k:=by
 have e:∀ i,i < l.length→(l.map AV.str).drop i = .str (l.getD i default)::(l.map AV.str).drop (i+1):=fun i hi=>by
  rw [List.drop_eq_getElem_cons (by simpa using hi),List.getElem_map,List.getD_eq_getElem?_getD,List.getElem?_eq_getElem hi];rfl
 rw [List.drop_take,Nat.add_sub_cancel_left,e _ (by omega),e _ (by omega),e _ (by omega)]
 rfl
def mG (l:List Str) (k:Nat):List (List AV):=(List.range k).map fun j=>[.list 1 (chk l j)]
theorem rb (l:List Str) (k:Nat):mG l (k+1)=mG l k++[[.list 1 (chk l k)]]:=by
 simp [mG,List.range_succ]
theorem zQ (b b2:Oid) (l:List Str) (n:Nat) (hn:l.length=3 * n) (hl:l.length≤4000000000) (p:Oid) (hp:p.mono=false) (hne:¬ b2=b) (hbb:¬ Oid.under p b) (hb2:¬ Oid.under p b2) :
  C5 Tryz.prog 118 [.ptr b 0,.ptr b2 0] p [(b,.cells [.list 1 (l.map AV.str)]),(b2,.cells [.int .i64 3])] 1 (fun pre xs=>pre.length < n∧xs=[.list 1 (chk l pre.length)]) (fun e pre=>∃ k,k≤n∧pre=mG l k∧(e=true→k=n)):=by
 intro y J L0 hJ hdis hnp hY
 refine eI (by kernel_rfl) fun hcon=>?_
 refine gY (n:=31) (rs:=[]) Tryz.func118 rfl rfl (by decide) rfl rfl rfl ?_;rintro x rfl hrd hng
 have hd0:∀ q ∈ L0,∀ q' ∈ ([(b,.cells [.list 1 (l.map AV.str)]),(b2,.cells [.int .i64 3])]:List (Oid × ah)),¬ q.1=q'.1:=hdis
 have hcL:∀ q ∈ L0,Mem.of L0 q.1=some q.2:=fun q hq=>by
  have:=hcon q (List.mem_append_right _ hq)
  rwa [vG fun q' hq'=>hdis q hq q' hq'] at this
 generalize hQ:dP Tryz.prog [] ([(b,.cells [.list 1 (l.map AV.str)]),(b2,.cells [.int .i64 3])]++L0) _ _=Q
 (try ((first|refine zn ?_|refine ze ?_|refine zk ?_);with_reducible (constructor;repeat constructor));try refine zl ?_)
 refine ar nmd [] hng (by kernel_rfl) fun hf C S K hC1 hC hS hK=>?_;simp (disch:=first|omega|assumption) only [go_sem,hne,Oid.aa hbb,Oid.ab hbb,Oid.aa hb2,Oid.ab hb2,aV]
 refine hK ?_;clear hK hS hC hC1 K S C hf
 (try ((first|refine zn ?_|refine ze ?_|refine zk ?_);with_reducible (constructor;repeat constructor));try refine zl ?_)
 refine bp [0,1,2,4] (fun q s'=>∃ (c k:Nat) (i:Int) (L:List (Oid × ah)),s' = ⟨[(0,.fn (.yield y) [] []),(1,.ptr b 0),(2,.ptr b2 0),(4,.int .i64 i)],Mem.of ([(b,.cells [.list 1 (l.map AV.str)]),(b2,.cells [.int .i64 3])]++L),c,[]⟩∧q=n - k∧k≤n∧i=3 * (k:Int)∧J true (mG l k) L∧(∀ q ∈ L,Mem.of L q.1=some q.2)∧uM [(b,.cells [.list 1 (l.map AV.str)]),(b2,.cells [.int .i64 3])] L0 L x.p) _ ⟨_,0,_,L0,rfl,rfl,Nat.zero_le _,by omega,hJ,hcL,fun q hq=>⟨.inl ⟨q,hq,rfl⟩,hd0 q hq⟩⟩ ?_
 rintro q s' ⟨c,k,i,L,rfl,rfl,hk,hi,hj,hcc,hnm⟩
 (repeat (first|(refine aB rfl rfl ?_)|(refine aC rfl rfl ?_)|(refine ar nmd [] hng (by kernel_rfl) fun hf C S K hC1 hC hS hK=>?_;simp (disch:=first|omega|assumption) only [go_sem,hne,Oid.aa hbb,Oid.ab hbb,Oid.aa hb2,Oid.ab hb2,List.length_map];refine hK ?_;clear hK hS hC hC1 K S C hf)|((first|refine zn ?_|refine ze ?_|refine zk ?_);with_reducible (constructor;repeat constructor);try refine zl ?_)))
 have hBm:∀ q ∈ ([(b,.cells [.list 1 (l.map AV.str)]),(b2,.cells [.int .i64 3])]:List (Oid × ah)),Mem.of ([(b,.cells [.list 1 (l.map AV.str)]),(b2,.cells [.int .i64 3])]++L) q.1=some q.2:=by
  simp only [bM,cb,Mem.ao,Mem.a8,Mem.bh,Mem.bz,cX,db,List.cons_append,List.nil_append,List.append_nil,↓reduceIte,eq_self,and_true,true_and,and_self,and_false,false_and,reduceCtorEq,Oid.sub.injEq,Nat.reduceEqDiff,hne]
 have hall:=gS (L:=L) (B:=[(b,.cells [.list 1 (l.map AV.str)]),(b2,.cells [.int .i64 3])]) hBm (fun q hq=>(hnm q hq).2) hcc
 refine aK rfl rfl (fun hb=>?_) (fun hb=>?_)
 ·obtain rfl:i=((3 * k:Nat):Int):=by omega
  have hlt:k < n:=by omega
  have hi0:(((3 * k:Nat):Int)).toNat=3 * k:=by omega
  have hmin:¬ ((l.length - 3 * k:Nat):Int) < 3:=by omega
  have hcl:(mG l k).length=k:=by simp [mG]
  have hcs:=rb l k
  have hce:=Ii (l:=l) (k:=k) (by omega)
  have hY1:=hY (mG l k) [.list 1 (chk l k)] L (.sub (c+1+1) 10 x.p) (ax rfl hp) hj rfl ⟨by omega,by rw [hcl]⟩
  rw [← hcs] at hY1
  generalize chk l k=CH at hY1 hce
  (try ((first|refine zn ?_|refine ze ?_|refine zk ?_);with_reducible (constructor;repeat constructor));try refine zl ?_)
  refine bN nmd [] [] mixed hng (by kernel_rfl) [0,1,2,4,5] fun hf C S K hC hS hK=>?_;simp (disch:=first|omega|assumption) only [go_sem,hne,Oid.aa hbb,Oid.ab hbb,Oid.aa hb2,Oid.ab hb2,aV,hi0,List.length_map,List.length_drop,hmin]
  (first|refine hK (aG rfl) ?_|refine hK (by simp (disch:=first|omega|assumption) only [go_sem,List.reverse_cons,List.reverse_nil,ne_eq,not_false_eq_true,implies_true]) ?_);clear hK hS hC K S C hf
  (try ((first|refine zn ?_|refine ze ?_|refine zk ?_);with_reducible (constructor;repeat constructor));try refine zl ?_)
  refine ar nmd [] hng (by kernel_rfl) fun hf C S K hC1 hC hS hK=>?_;simp (disch:=first|omega|assumption) only [go_sem,hne,Oid.aa hbb,Oid.ab hbb,Oid.aa hb2,Oid.ab hb2,aV]
  refine hS _ _ _ (fun o' hd ho'=>(wz (sz:=1) (xs:=l.map AV.str) (l:=3 * k) (h:=3 * k+3) ho' rfl rfl rfl rfl rfl (by omega) (by rw [List.length_map];omega)).nd) (fun _ h=>by cases h) ?_ (fun _ _ h=>h.elim)
  rintro _ _ ⟨rfl,rfl⟩
  simp (disch:=first|omega|assumption) only [go_sem,hne,Oid.aa hbb,Oid.ab hbb,Oid.aa hb2,Oid.ab hb2,aV,hce]
  refine hS _ _ _ (fun o' hd ho'=>lZ ho' rfl hY1) (fun q hq=>hall q (List.mem_append_right _ hq)) ?_ (fun _ _ h=>h.elim)
  rintro val upd ⟨e,L',rfl,hj',hU⟩
  have hBp:∀ q ∈ ([(b,.cells [.list 1 (l.map AV.str)]),(b2,.cells [.int .i64 3])]:List (Oid × ah)),¬ Oid.under x.p q.1:=fun q hq=>by
   simp only [List.mem_cons,List.not_mem_nil,or_false] at hq
   rcases hq with rfl|rfl<;>assumption
  obtain ⟨hym,hnm',hcl'⟩:=ph (B:=[(b,.cells [.list 1 (l.map AV.str)]),(b2,.cells [.int .i64 3])]) (L0:=L0) (p:=x.p) hU hall hnm (fun _ h=>Oid.af h) hBp
  simp (disch:=first|omega|assumption) only [go_sem]
  refine hK ?_;clear hK hS hC hC1 K S C hf
  (try ((first|refine zn ?_|refine ze ?_|refine zk ?_);with_reducible (constructor;repeat constructor));try refine zl ?_)
  refine jh ([(b,.cells [.list 1 (l.map AV.str)]),(b2,.cells [.int .i64 3])]++L') (by rw [← Mem.bh];exact hym) ?_
  have hall':=gS (L:=L') (B:=[(b,.cells [.list 1 (l.map AV.str)]),(b2,.cells [.int .i64 3])]) (by simp only [bM,cb,Mem.ao,Mem.a8,Mem.bh,Mem.bz,cX,db,List.cons_append,List.nil_append,List.append_nil,↓reduceIte,eq_self,and_true,true_and,and_self,and_false,false_and,reduceCtorEq,Oid.sub.injEq,Nat.reduceEqDiff,hne]) (fun q hq=>(hnm' q hq).2) hcl'
  cases e with
  | true =>
   refine qw (ai hne (ai (Oid.aa hbb) (ai (Oid.ab hbb) (ai (Oid.aa hb2) (Oid.ab hb2))))) ?_
   exact ⟨_,Mem.of ([(b,.cells [.list 1 (l.map AV.str)]),(b2,.cells [.int .i64 3])]++L'),by omega,ll hall',_,k+1,((3 * k:Nat):Int)+3,L',rfl,rfl,by omega,by omega,hj',hcl',hnm'⟩
  | false =>
   refine aB rfl rfl (ay ?_)
   subst hQ
   have hsw:=lO (m:=Mem.of ([(b,.cells [.list 1 (l.map AV.str)]),(b2,.cells [.int .i64 3])]++L')) hall' hnm'
   exact bR _ _ rfl ⟨false,_,L',⟨k+1,by omega,rfl,fun h=>by cases h⟩,hj',hsw.1⟩ hsw.2
 ·obtain rfl:k=n:=by omega
  (try ((first|refine zn ?_|refine ze ?_|refine zk ?_);with_reducible (constructor;repeat constructor));try refine zl ?_)
  subst hQ
  have hsw:=lO (m:=Mem.of ([(b,.cells [.list 1 (l.map AV.str)]),(b2,.cells [.int .i64 3])]++L)) hall hnm
  refine b5 ?_
  exact eH _ _ rfl ⟨true,_,L,⟨_,Nat.le_refl _,rfl,fun _=>rfl⟩,hj,hsw.1⟩ hsw.2
end Go.Proofs.YtpficjpdfbiedaaGreatDoor
namespace Go.Proofs.YtpficjpdfbiedaaGreatDoor
open Go Go.Ab
set_option maxRecDepth 20000
set_option maxHeartbeats 4000000
theorem nbE {A:List (Oid × ah)} {N:List Oid} {F:Oid→ah} (hA:∀ e ∈ A,e.1 ∉ N) (Bs:List Bk):∀ x,x ∈ bk (N,F)→Mem.blk A ((N,F)::Bs) x.1=some x.2:=by
 induction A with
 | nil=>intro x hx;obtain ⟨h1,h2⟩:=bU.1 hx;rw [bu,if_pos h1,h2]
 | cons a A ih =>
  intro x hx
  rw [Mem.dT,if_neg fun e:x.1=a.1=>hA a List.mem_cons_self (e ▸ (bU.1 hx).1)]
  exact ih (fun e he=>hA e (List.mem_cons_of_mem _ he)) x hx
theorem zR (t u:Nat) (a b:AV) (fr:List (Nat × AV)):kc [t,u] [a,b] fr=(u,b)::(t,a)::fr:=rfl
theorem uN {A:List (Oid × ah)} {N:List Oid} {F:Oid→ah} {i:Oid} (h:Mem.blk A [(N,F)] i=none):(∀ e ∈ A,¬ e.1=i)∧i ∉ N:=by
 induction A with
 | nil =>
  refine ⟨fun e he=>(by cases he),fun hi=>?_⟩
  rw [bu,if_pos hi] at h;cases h
 | cons a A ih =>
  rw [Mem.dT] at h
  split at h
  ·cases h
  ·rename_i hne
   obtain ⟨h1,h2⟩:=ih h
   refine ⟨fun e he=>?_,h2⟩
   rcases List.mem_cons.1 he with rfl|he
   ·exact fun e=>hne e.symm
   ·exact h1 e he
def kh (f:Nat→Bool):Nat→Int
 | 0=>-1
 | n+1=>if f n=true then (n:Int) else kh f n
def sG (L:PL) (key:Str) (m:Mm):Bool:=decide (m.key=key) && di L m.rd
def ki (L:PL) (l:List Mm) (key:Str):Int:=kh (fun i=>sG L key (l.getD i default)) l.length
theorem uO (l:List Mm) (p:Oid):aj Tryz.prog 59 [.list 6 (l.map Mm.av)] (Oid.under p) ⟨[],.fn (.func 102) [] [.ptr (.sub 0 0 p) 0],[(.sub 0 0 p,some (.cells [.list 6 (l.map Mm.av)]))]⟩:=by
 refine aA (n:=4) (rs:=[.tmp 2]) Tryz.func59 rfl rfl (by decide) rfl rfl rfl ?_;rintro x rfl hrd hng
 refine qw0 ?_
 refine ay (aP rfl ?_ ?_)
 ·simp (disch:=first|omega|assumption) only [go_sem]
  intro o h;exact h
 ·simp (disch:=first|omega|assumption) only [go_sem]
theorem uP {st:Oid} {s:St} {N:List Oid} {G:Oid→ah} (h:fR st s N G) (hs:SOK s) (l:List Mm) (key:Str) (hl:l.length≤4000000000) (hr:∀ m ∈ l,m.rd.length≤4000000000∧∀ h ∈ m.rd,h.1.1.length≤140737488355000) (p:Oid) (hp:p.mono=false) (hO:bd p N) :
  aj Tryz.prog 20 [.list 6 (l.map Mm.av),.str key,.ptr st 0] (Oid.under p) ⟨bk (N,G),.int .i64 (ki s.L l key),[]⟩:=by
 have hag:=fun (m:Mm) (hm:m ∈ l) p hp ho=>wg h hs m.rd (hr m hm).1 (hr m hm).2 p hp ho
 have hB:=fun p=>uO l p
 refine aA (n:=24) (rs:=[.cell 6 3]) Tryz.func20 rfl rfl (by decide) rfl rfl rfl ?_;rintro x rfl hrd hng
 rw [rX]
 refine qw0 ?_
 refine qr .o hO (cq (hB _) trivial) ?_
 have hk0:Oid.sub 0 0 x.p ∉ N:=hO.mem
 have hk1:Oid.sub 0 1 x.p ∉ N:=hO.mem
 have hk2:Oid.sub 0 2 x.p ∉ N:=hO.mem
 have hk3:Oid.sub 0 0 (.sub 1 1 x.p) ∉ N:=hO.Jm
 have hNm:∀ (A:List (Oid × ah)),(∀ e ∈ A,e.1 ∉ N)→∀ q ∈ ([(N,G)].map bk).flatten,Mem.blk A [(N,G)] q.1=some q.2:=fun A hA q hq=>by
  exact nbE (F:=G) hA [] q (by simpa using hq)
 generalize hf:(fun i=>sG s.L key (l.getD i default))=f
 have hfm:ki s.L l key=kh f l.length:=by rw [← hf];rfl
 refine lN (need:=[(Oid.sub 0 0 (.sub 1 1 x.p),.cells [.list 6 (l.map Mm.av)])]) hrd hng (by decide) rfl rfl (C6 (.sub 0 0 (.sub 1 1 x.p)) l hl _ (ax rfl hp) (fun hu=>by have:=(Oid.apart hu (Oid.af (Oid.aq _))).1;omega)) ?_
  (fun jump pre L=>∃ (k:Nat) (r:Int),k≤l.length∧pre=im l k∧L=[(Oid.sub 0 0 x.p,ah.cells [.str key]),(Oid.sub 0 1 x.p,ah.cells [.ptr st 0]),(Oid.sub 0 2 x.p,ah.cells [.int .i64 r])]++([(N,G)].map bk).flatten∧(jump=none∧r=0∧kh f l.length=kh f (l.length - k)∨jump=some .ret∧kh f l.length=r))
  ([(Oid.sub 0 0 x.p,ah.cells [.str key]),(Oid.sub 0 1 x.p,ah.cells [.ptr st 0]),(Oid.sub 0 2 x.p,ah.cells [.int .i64 0])]++([(N,G)].map bk).flatten) ⟨0,0,Nat.zero_le _,rfl,rfl,.inl ⟨rfl,rfl,rfl⟩⟩ ?_ ?_
  (fun pre xs L1 p' s=>F s.fr 7 = .int .i64 ((l.length - 1 - pre.length:Nat):Int)∧F s.fr 8 = .ptr (.sub 1 0 p') 0∧F s.fr 4 = .ptr (.sub 0 0 x.p) 0∧F s.fr 5 = .ptr (.sub 0 1 x.p) 0∧F s.fr 6 = .ptr (.sub 0 2 x.p) 0∧(∀ q,q ∈ (Oid.sub 1 0 p',ah.cells (l.getD (l.length - 1 - pre.length) default).av.cells)::L1→s.mem q.1=some q.2)∧s.ds=[]∧1 < s.c∧Oid.sub 1 0 p' ∉ N) ?_ ?_ ?_ ?_
 ·intro q hq
  rw [List.mem_singleton.1 hq];simp (disch:=first|omega|assumption) only [go_sem,hO]
 ·intro q hq
  rcases List.mem_append.1 hq with hq|hq
  ·simp only [List.mem_cons,List.not_mem_nil,or_false] at hq
   rcases hq with rfl|rfl|rfl<;>simp (disch:=first|omega|assumption) only [go_sem,hO]
  ·exact hNm _ (fun e he=>by
    simp only [List.mem_cons,List.not_mem_nil,or_false] at he
    rcases he with rfl|rfl|rfl|rfl<;>assumption) q hq
 ·intro q hq q' hq' e
  rw [List.mem_singleton.1 hq'] at e
  rcases List.mem_append.1 hq with hq|hq
  ·simp only [List.mem_cons,List.not_mem_nil,or_false] at hq
   rcases hq with rfl|rfl|rfl<;>(have:=congrArg Oid.depth e;simp only [Oid.depth] at this;omega)
  ·have hq2:q ∈ bk (N,G):=by simpa using hq
   have e':q.1=Oid.sub 0 0 (.sub 1 1 x.p):=e
   exact hk3 (e' ▸ (bU.1 hq2).1)
 ·rintro y l0 pre xs L1 ⟨k,r,hk,rfl,rfl,hj⟩ _ ⟨hlen,rfl⟩ hyr hyg hpm
  refine qH (lD fun hf=>?_)
  replace hng:=hyg
  have hyN:Oid.sub 1 0 y.p ∉ N:=(uN (F:=G) (hf (.sub 1 0 y.p) ⟨1,0,by omega,Oid.aq _⟩)).2
  clear hf
  generalize l.getD (l.length - 1 - (im l k).length) default=g
  generalize ((l.length - 1 - (im l k).length:Nat):Int)=i
  show T Tryz.prog y 24 _ ⟨_,Mem.blk ([(Oid.sub 0 0 x.p,ah.cells [.str key]),(Oid.sub 0 1 x.p,ah.cells [.ptr st 0]),(Oid.sub 0 2 x.p,ah.cells [.int .i64 r])]) [(N,G)],0,[]⟩ _
  obtain ⟨gk,gr,gw,gs,go,ge⟩:=g
  simp only [Mm.av]
  (repeat (first|(refine aB rfl rfl ?_)|(refine aC rfl rfl ?_)|(refine ar nmd [] hng (by kernel_rfl) fun hf C S K hC1 hC hS hK=>?_;simp (disch:=first|omega|assumption) only [go_sem,zR,AV.cells,hyN];refine hK ?_;clear hK hS hC hC1 K S C hf)|((first|refine zn ?_|refine ze ?_|refine zk ?_);with_reducible (constructor;repeat constructor);try refine zl ?_)))
  refine b5 ⟨rfl,rfl,rfl,rfl,rfl,rfl,fun q hq=>?_,rfl,by show 1 < 0+1+1;omega,hyN⟩
  rcases List.mem_cons.1 hq with rfl|hq
  ·simp (disch:=first|omega|assumption) only [go_sem,AV.cells]
  rcases List.mem_append.1 hq with hq|hq
  ·simp only [List.mem_cons,List.not_mem_nil,or_false] at hq
   rcases hq with rfl|rfl|rfl<;>simp (disch:=first|omega|assumption) only [go_sem]
  ·exact hNm _ (fun e he=>by
    simp only [List.mem_cons,List.not_mem_nil,or_false] at he
    rcases he with rfl|rfl|rfl|rfl<;>assumption) q hq
 ·rintro y l0 pre xs L1 ⟨fr,m,c,ds⟩ ⟨k,r,hk,rfl,rfl,hj⟩ _ ⟨hlen,rfl⟩ hyr hyg hpm ⟨h7,h8,h4,h5,h6,hm,rfl,hc,hyN⟩
  rcases hj with ⟨-,rfl,hj⟩|⟨hj,_⟩
  rotate_left
  ·cases hj
  have hbl:(im l k).length=k:=by simp [im]
  have hbs:=pj l k
  rw [hbl] at hlen h7 hm ⊢
  simp only at h7 h8 h4 h5 h6 hm hc
  have hfi:f (l.length - 1 - k)=sG s.L key (l.getD (l.length - 1 - k) default):=by rw [← hf]
  have hbf:kh f (l.length - k)=if f (l.length - 1 - k)=true then ((l.length - 1 - k:Nat):Int) else kh f (l.length - (k+1)):=by
   have e1:l.length - k=(l.length - 1 - k)+1:=by omega
   have e2:l.length - (k+1)=l.length - 1 - k:=by omega
   rw [e1,e2];rfl
  rw [← hbs]
  have hgm:l.getD (l.length - 1 - k) default ∈ l:=by
   rw [bG (show l.length - 1 - k < l.length by omega)];exact List.getElem_mem _
  have hag1:=hag _ hgm
  generalize hg:l.getD (l.length - 1 - k) default=g at hm hfi hag1
  obtain ⟨gk,gr,gw,gs,go,ge⟩:=g
  simp only [Mm.av,AV.cells] at hm
  refine qH (Gu [(4,.ptr (.sub 0 0 x.p) 0),(5,.ptr (.sub 0 1 x.p) 0),(6,.ptr (.sub 0 2 x.p) 0),(7,.int .i64 ((l.length - 1 - k:Nat):Int)),(8,.ptr (.sub 1 0 y.p) 0)] rfl (by simp [h4,h5,h6,h7,h8]) (jh _ hm (lD fun hf2=>?_)))
  replace hng:=hyg
  have hON:jC y.p c N:=fun i hi hy=>(uN (A:=(Oid.sub 1 0 y.p,ah.cells [.str gk,.list 3 (gr.map aS),.list 3 (gw.map aS),.int .i64 gs,.str go,.str ge])::[(Oid.sub 0 0 x.p,ah.cells [.str key]),(Oid.sub 0 1 x.p,ah.cells [.ptr st 0]),(Oid.sub 0 2 x.p,ah.cells [.int .i64 0])]) (F:=G) (hf2 i hy)).2 hi
  clear hf2
  show T Tryz.prog y 24 _ ⟨_,Mem.blk ((Oid.sub 1 0 y.p,ah.cells [.str gk,.list 3 (gr.map aS),.list 3 (gw.map aS),.int .i64 gs,.str go,.str ge])::[(Oid.sub 0 0 x.p,ah.cells [.str key]),(Oid.sub 0 1 x.p,ah.cells [.ptr st 0]),(Oid.sub 0 2 x.p,ah.cells [.int .i64 0])]) [(N,G)],c,[]⟩ _
  by_cases hkey:gk=key
  ·have hfb:f (l.length - 1 - k)=di s.L gr:=by rw [hfi];simp [sG,hkey]
   rw [hfb] at hbf
   (try ((first|refine zn ?_|refine ze ?_|refine zk ?_);with_reducible (constructor;repeat constructor));try refine zl ?_)
   refine ar nmd [(4,17)] hng (by kernel_rfl) fun hf C S K hC1 hC hS hK=>?_;simp (disch:=first|omega|assumption) only [go_sem,hkey,hk0,hk1,hk2,hyN]
   refine hC1 _ (hag1 _ (ax rfl hpm) (hON.sub (by omega) _)) (nbE (fun e he=>by
    simp only [List.mem_cons,List.not_mem_nil,or_false] at he
    rcases he with rfl|rfl|rfl|rfl<;>assumption) []) ?_
   simp (disch:=first|omega|assumption) only [go_sem,hkey,hk0,hk1,hk2,hyN]
   refine hK ?_;clear hK hS hC hC1 K S C hf
   generalize di s.L gr=b at hbf ⊢
   cases b with
   | true =>
    rw [if_pos rfl] at hbf
    refine qw (ai hk0 (ai hk1 (ai hk2 hyN))) ?_
    refine ay ⟨_,⟨k+1,_,by omega,rfl,rfl,.inr ⟨rfl,hj.trans hbf⟩⟩,fun q hq=>by
     rcases List.mem_append.1 hq with hq|hq
     ·simp only [List.mem_cons,List.not_mem_nil,or_false] at hq
      rcases hq with rfl|rfl|rfl<;>simp (disch:=first|omega|assumption) only [go_sem,hk0,hk1,hk2,hyN]
     ·exact hNm _ (fun e he=>by
       simp only [List.mem_cons,List.not_mem_nil,or_false] at he
       rcases he with rfl|rfl|rfl|rfl<;>assumption) q hq,fun q hq=>.inl (by
     rcases List.mem_append.1 hq with hq|hq
     ·simp only [List.mem_cons,List.not_mem_nil,or_false] at hq
      rcases hq with rfl|rfl|rfl
      ·exact ⟨_,List.mem_append_left _ List.mem_cons_self,rfl⟩
      ·exact ⟨_,List.mem_append_left _ (List.mem_cons_of_mem _ List.mem_cons_self),rfl⟩
      ·exact ⟨_,List.mem_append_left _ (List.mem_cons_of_mem _ (List.mem_cons_of_mem _ List.mem_cons_self)),rfl⟩
     ·exact ⟨q,List.mem_append_right _ hq,rfl⟩)⟩
   | false =>
    rw [if_neg (by decide)] at hbf
    refine qw0 ?_
    refine b5 ⟨_,⟨k+1,0,by omega,rfl,rfl,.inl ⟨rfl,rfl,hj.trans hbf⟩⟩,fun q hq=>by
    rcases List.mem_append.1 hq with hq|hq
    ·simp only [List.mem_cons,List.not_mem_nil,or_false] at hq
     rcases hq with rfl|rfl|rfl<;>simp (disch:=first|omega|assumption) only [go_sem,hk0,hk1,hk2,hyN]
    ·exact hNm _ (fun e he=>by
      simp only [List.mem_cons,List.not_mem_nil,or_false] at he
      rcases he with rfl|rfl|rfl|rfl<;>assumption) q hq,fun q hq=>.inl (by
    rcases List.mem_append.1 hq with hq|hq
    ·simp only [List.mem_cons,List.not_mem_nil,or_false] at hq
     rcases hq with rfl|rfl|rfl<;>exact ⟨_,List.mem_append_left _ (by simp),rfl⟩
    ·exact ⟨q,List.mem_append_right _ hq,rfl⟩)⟩
  ·have hfb:f (l.length - 1 - k)=false:=by rw [hfi];simp [sG,hkey]
   rw [hfb,if_neg (by decide)] at hbf
   refine qr (.d [] [(4,17)] []) (ai hkey (ai hk0 (ai hk1 (ai hk2 hyN)))) trivial ?_
   refine qw0 ?_
   refine b5 ⟨_,⟨k+1,0,by omega,rfl,rfl,.inl ⟨rfl,rfl,hj.trans hbf⟩⟩,fun q hq=>by
    rcases List.mem_append.1 hq with hq|hq
    ·simp only [List.mem_cons,List.not_mem_nil,or_false] at hq
     rcases hq with rfl|rfl|rfl<;>simp (disch:=first|omega|assumption) only [go_sem,hk0,hk1,hk2,hyN]
    ·exact hNm _ (fun e he=>by
      simp only [List.mem_cons,List.not_mem_nil,or_false] at he
      rcases he with rfl|rfl|rfl|rfl<;>assumption) q hq,fun q hq=>.inl (by
    rcases List.mem_append.1 hq with hq|hq
    ·simp only [List.mem_cons,List.not_mem_nil,or_false] at hq
     rcases hq with rfl|rfl|rfl<;>exact ⟨_,List.mem_append_left _ (by simp),rfl⟩
    ·exact ⟨q,List.mem_append_right _ hq,rfl⟩)⟩
 ·rintro pre L' m' ⟨k0,hk0',rfl,hall⟩ ⟨k,r,hk,hpre,rfl,hj⟩ hL' hd hold hnm
  rcases hj with ⟨-,rfl,hj⟩|⟨hj,_⟩
  rotate_left
  ·cases hj
  have hkk:k0=k:=by have:=congrArg List.length hpre;simpa [im] using this
  rw [← hkk,hall rfl,Nat.sub_self] at hj
  refine jh ((Oid.sub (0+1+1) 0 x.p,ah.dfr)::([(Oid.sub 0 0 x.p,ah.cells [.str key]),(Oid.sub 0 1 x.p,ah.cells [.ptr st 0]),(Oid.sub 0 2 x.p,ah.cells [.int .i64 0])]++([(N,G)].map bk).flatten)) (fun q hq=>(List.mem_cons.1 hq).elim (fun e=>by rw [e];exact hd) (hL' q)) ?_
  show T Tryz.prog x 24 _ ⟨_,Mem.blk ((Oid.sub (0+1+1) 0 x.p,ah.dfr)::[(Oid.sub 0 0 x.p,ah.cells [.str key]),(Oid.sub 0 1 x.p,ah.cells [.ptr st 0]),(Oid.sub 0 2 x.p,ah.cells [.int .i64 0])]) [(N,G)],_,_⟩ _
  refine qw hO ?_
  refine ay ⟨by simp (disch:=first|omega|assumption) only [go_sem,hO],.int .i64 (-1),[],by simp (disch:=first|omega|assumption) only [go_sem,hO],⟨(congrArg (AV.int .i64) (hfm.trans hj)).symm,rfl⟩,fun i o hi=>by
   obtain ⟨q,hq,rfl,rfl⟩:=Mem.dR (show Mem.of (bk (N,G)) i=some o from hi)
   have hqN:=(bU.1 hq).1
   have hne:¬ q.1=Oid.sub (0+1+1) 0 x.p:=fun e=>hO.mem (e ▸ hqN)
   simp only [Mem.set,if_neg hne]
   exact nbE (fun e he=>by
    simp only [List.mem_cons,List.not_mem_nil,or_false] at he
    rcases he with rfl|rfl|rfl|rfl
    ·exact hO.mem
    all_goals assumption) [] q hq⟩
 ·rintro pre L' m' cd ⟨k0,hk0',rfl,hall⟩ ⟨k,r,hk,hpre,rfl,hj⟩ hL' hd hold hnm
  rcases hj with ⟨hj,_⟩|⟨hcd,hj⟩
  ·cases hj
  obtain rfl:=Option.some.inj hcd
  refine jh ((Oid.sub (0+1+1) 0 x.p,ah.dfr)::([(Oid.sub 0 0 x.p,ah.cells [.str key]),(Oid.sub 0 1 x.p,ah.cells [.ptr st 0]),(Oid.sub 0 2 x.p,ah.cells [.int .i64 r])]++([(N,G)].map bk).flatten)) (fun q hq=>(List.mem_cons.1 hq).elim (fun e=>by rw [e];exact hd) (hL' q)) ?_
  show T Tryz.prog x 24 _ ⟨_,Mem.blk ((Oid.sub (0+1+1) 0 x.p,ah.dfr)::[(Oid.sub 0 0 x.p,ah.cells [.str key]),(Oid.sub 0 1 x.p,ah.cells [.ptr st 0]),(Oid.sub 0 2 x.p,ah.cells [.int .i64 r])]) [(N,G)],_,_⟩ _
  refine ay ⟨by simp (disch:=first|omega|assumption) only [go_sem,hO],.int .i64 r,[],by simp (disch:=first|omega|assumption) only [go_sem,hO],⟨(congrArg (AV.int .i64) (hfm.trans hj)).symm,rfl⟩,fun i o hi=>by
   obtain ⟨q,hq,rfl,rfl⟩:=Mem.dR (show Mem.of (bk (N,G)) i=some o from hi)
   have hqN:=(bU.1 hq).1
   have hne:¬ q.1=Oid.sub (0+1+1) 0 x.p:=fun e=>hO.mem (e ▸ hqN)
   simp only [Mem.set,if_neg hne]
   exact nbE (fun e he=>by
    simp only [List.mem_cons,List.not_mem_nil,or_false] at he
    rcases he with rfl|rfl|rfl|rfl
    ·exact hO.mem
    all_goals assumption) [] q hq⟩
end Go.Proofs.YtpficjpdfbiedaaGreatDoor
namespace Go.Proofs.YtpficjpdfbiedaaGreatDoor
open Go Go.Ab
set_option maxRecDepth 20000
set_option maxHeartbeats 4000000
def okF (b:Str):Prop:=b=[48]∨b=[49]
instance (b:Str):Decidable (okF b):=by unfold okF;infer_instance
theorem gH (a b c:Str) (l:List Str):lL (a::b::c::l)=if okF b then (lL l).map (((a,decide (b=[49])),c)::·) else none:=rfl
theorem rf (x y z:Str):∀ (a:List Str) (ts:List Tch),lL a=some ts→lL (a++[x,y,z])=if okF y then some (ts++[((x,decide (y=[49])),z)]) else none
 | [],ts,h=>by
  obtain rfl:=Option.some.inj h
  rw [List.nil_append,gH]
  split<;>rfl
 | [_],_,h=>by cases h
 | [_,_],_,h=>by cases h
 | a::b::c::l,ts,h=>by
  rw [gH] at h
  rw [List.cons_append,List.cons_append,List.cons_append,gH]
  split at h
  ·rename_i hb
   rw [Option.map_eq_some_iff] at h
   obtain ⟨u,hu,rfl⟩:=h
   rw [if_pos hb,rf x y z l u hu]
   split<;>rfl
  ·cases h
theorem uQ (x y z:Str) (r:List Str) (hy:¬ okF y):∀ (k:Nat) (a:List Str),a.length=3 * k→lL (a++x::y::z::r)=none
 | 0,a,h=>by
  obtain rfl:=List.eq_nil_of_length_eq_zero (by omega:a.length=0)
  rw [List.nil_append,gH,if_neg hy]
 | k+1,a,h=>by
  match a,h with
  | a::b::c::l,h =>
   rw [List.cons_append,List.cons_append,List.cons_append,gH,uQ x y z r hy k l (by simp only [List.length_cons] at h;omega)]
   split<;>rfl
theorem pk:∀ (l:List Str) (ts:List Tch),lL l=some ts→l.length=3 * ts.length
 | [],ts,h=>by obtain rfl:=Option.some.inj h;rfl
 | [_],_,h=>by cases h
 | [_,_],_,h=>by cases h
 | a::b::c::l,ts,h=>by
  rw [gH] at h
  split at h
  ·rw [Option.map_eq_some_iff] at h
   obtain ⟨u,hu,rfl⟩:=h
   have:=pk l u hu
   simp only [List.length_cons];omega
  ·cases h
def I8 (l:List Tch) (v:AV) (L:List (Oid × ah)) (sp:Oid→Prop):Prop :=
 (l=[]∧v = .nilSl∧L=[])∨(¬ l=[]∧∃ id,v = .sl id 3 l.length∧L=[(id,.arr 3 (l.map aS))]∧sp id)
theorem FF {ts:List Tch} {v:AV} {L1:List (Oid × ah)} {p:Oid} (hr:I8 ts v L1 (fun id=>¬ id = .sub 0 0 p∧¬ id = .sub 0 1 p)):∀ q ∈ [(Oid.sub 0 0 p,ah.cells [v]),(Oid.sub 0 1 p,ah.cells [.bool false])]++L1,Mem.of ([(Oid.sub 0 0 p,ah.cells [v]),(Oid.sub 0 1 p,ah.cells [.bool false])]++L1) q.1=some q.2:=by
 rcases hr with ⟨_,_,rfl⟩|⟨_,id,_,rfl,h0,h1⟩
 ·simp only [bM,cb,Mem.ao,Mem.a8,Mem.bh,Mem.bz,cX,db,List.cons_append,List.nil_append,List.append_nil,↓reduceIte,eq_self,and_true,true_and,and_self,and_false,false_and,reduceCtorEq,Oid.sub.injEq,Nat.reduceEqDiff]
 ·simp only [bM,cb,Mem.ao,Mem.a8,Mem.bh,Mem.bz,cX,db,List.cons_append,List.nil_append,List.append_nil,↓reduceIte,eq_self,and_true,true_and,and_self,and_false,false_and,reduceCtorEq,Oid.sub.injEq,Nat.reduceEqDiff,h0,h1]
theorem Gc {l:List Str} {k:Nat} (h:3 * k+3≤l.length):l.take (3 * (k+1))=l.take (3 * k)++[l.getD (3 * k) default,l.getD (3 * k+1) default,l.getD (3 * k+2) default]:=by
 have e:3 * (k+1)=3 * k+1+1+1:=by omega
 rw [e,List.take_add_one,List.take_add_one,List.take_add_one]
 simp only [List.getD_eq_getElem?_getD,List.getElem?_eq_getElem (show 3 * k < l.length by omega),List.getElem?_eq_getElem (show 3 * k+1 < l.length by omega),List.getElem?_eq_getElem (show 3 * k+1+1 < l.length by omega),Option.toList,Option.getD_some,List.append_assoc,List.cons_append,List.nil_append]
theorem Ij {l:List Str} {k:Nat} (h:3 * k+3≤l.length):l=l.take (3 * k)++l.getD (3 * k) default::l.getD (3 * k+1) default::l.getD (3 * k+2) default::l.drop (3 * k+3):=by
 have h1:=List.take_append_drop (3 * (k+1)) l
 rw [Gc h] at h1
 conv=>lhs;rw [← h1]
 simp [show 3 * (k+1)=3 * k+3 by omega]
def C7 (o:Option (List Tch)):AV:=match o with
 | some l=>.tuple [.list 3 (l.map aS),.bool true]
 | none=>.tuple [.nilSl,.bool false]
theorem C8 (l:List Str) (p:Oid):aj Tryz.prog 76 [.list 1 (l.map AV.str),.int .i64 3] (Oid.under p) ⟨[],.fn (.func 118) [] [.ptr (.sub 0 0 p) 0,.ptr (.sub 0 1 p) 0],[(.sub 0 0 p,some (.cells [.list 1 (l.map AV.str)])),(.sub 0 1 p,some (.cells [.int .i64 3]))]⟩:=by
 refine aA (n:=9) (rs:=[.tmp 4]) Tryz.func76 rfl rfl (by decide) rfl rfl rfl ?_;rintro x rfl hrd hng
 refine qw0 ?_
 refine ay (aP rfl ?_ ?_)
 ·simp (disch:=first|omega|assumption) only [go_sem]
  exact ⟨fun o h=>h,fun o h=>h⟩
 ·simp (disch:=first|omega|assumption) only [go_sem]
theorem uR (s:Str) (hl:s.length≤4000000000) (p:Oid) (hp:p.mono=false):aj Tryz.prog 30 [.str s] (Oid.under p) ⟨[],C7 (mZ s),[]⟩:=by
 have hD:=fun p hp=>qx s hl p hp
 unfold mZ
 cases hd:gZ s with
 | none =>
  rw [hd] at hD
  refine aA (n:=48) (rs:=[.cell 2 27,.cell 3 4]) Tryz.func30 rfl rfl (by decide) rfl rfl rfl ?_;rintro x rfl hrd hng
  refine qr0 ?_
  simp only [BN] at hD
  refine qw0 ?_
  refine qr1 (hD _) ?_
  have h20:¬ (20:Int)=0:=by decide
  refine qr (.d [] [(2,14)] []) h20 trivial ?_
  refine qw0 ?_
  exact ay (aQ (by simp (disch:=first|omega|assumption) only [go_sem];rfl))
 | some l =>
  rw [hd] at hD
  have hml:=tO hd
  have hll:l.length≤s.length:=by
   have:=congrArg List.length (CM hd)
   have h2:∀ q:List Str,q.length≤(bg q).length:=fun q=>by
    induction q with
    | nil=>exact Nat.zero_le _
    | cons a q ih =>
     have:=dJ a
     rw [bg,List.length_append,List.length_cons];omega
   have:=h2 l
   omega
  have e3:((l.length:Int)).tmod 3=((l.length % 3:Nat):Int):=cx _ 3
  show aj _ _ _ _ ⟨[],C7 (lL l),[]⟩
  simp only [BN] at hD
  by_cases h3:l.length % 3=0
  case neg =>
   have hnn:lL l=none:=by
    cases ht:lL l with
    | none=>rfl
    | some ts=>have:=pk l ts ht;omega
   rw [hnn]
   have h3':¬ ((l.length % 3:Nat):Int)=0:=by omega
   refine aA (n:=48) (rs:=[.cell 2 27,.cell 3 4]) Tryz.func30 rfl rfl (by decide) rfl rfl rfl ?_;rintro x rfl hrd hng
   refine qw0 ?_
   refine qr1 (hD _) ?_
   refine qr (.d [] [(2,14)] []) (ai e3 h3') trivial ?_
   refine qw0 ?_
   exact ay (aQ (by simp (disch:=first|omega|assumption) only [go_sem];rfl))
  obtain ⟨n,hn⟩:∃ n,l.length=3 * n:=⟨l.length / 3,by omega⟩
  have hCh:=fun p=>C8 l p
  have h3':((l.length % 3:Nat):Int)=0:=by omega
  refine aA (n:=48) (rs:=[.cell 2 27,.cell 3 4]) Tryz.func30 rfl rfl (by decide) rfl rfl rfl ?_;rintro x rfl hrd hng
  refine qw0 ?_
  refine qr1 (hD _) ?_
  refine qr (.d [] [(2,14)] []) (ai e3 h3') trivial ?_
  refine qw0 ?_
  refine qr1 (hCh _) ?_
  refine lN (need:=[(Oid.sub 0 0 (.sub 3 1 x.p),.cells [.list 1 (l.map AV.str)]),(Oid.sub 0 1 (.sub 3 1 x.p),.cells [.int .i64 3])]) hrd hng (by decide) rfl rfl (zQ (.sub 0 0 (.sub 3 1 x.p)) (.sub 0 1 (.sub 3 1 x.p)) l n hn (by omega) _ (ax rfl hp) (by simp) (fun hu=>by have:=(Oid.apart hu (Oid.af (Oid.aq _))).1;omega) (fun hu=>by have:=(Oid.apart hu (Oid.af (Oid.aq _))).1;omega)) ?_
   (fun jump pre L=>∃ k,k≤n∧pre=mG l k∧((jump=none∧∃ ts v L1,lL (l.take (3 * k))=some ts∧I8 ts v L1 (fun id=>¬ id = .sub 0 0 x.p∧¬ id = .sub 0 1 x.p)∧L=[(Oid.sub 0 0 x.p,ah.cells [v]),(Oid.sub 0 1 x.p,ah.cells [.bool false])]++L1)∨(jump=some .ret∧lL l=none∧L=[(Oid.sub 0 0 x.p,ah.cells [.nilSl]),(Oid.sub 0 1 x.p,ah.cells [.bool false])])))
   [(Oid.sub 0 0 x.p,ah.cells [.nilSl]),(Oid.sub 0 1 x.p,ah.cells [.bool false])] ⟨0,Nat.zero_le _,rfl,.inl ⟨rfl,[],.nilSl,[],rfl,.inl ⟨rfl,rfl,rfl⟩,rfl⟩⟩ ?_ ?_
   (fun pre xs L1 p' s=>F s.fr 6 = .list 1 (chk l pre.length)∧F s.fr 2 = .ptr (.sub 0 0 x.p) 0∧F s.fr 3 = .ptr (.sub 0 1 x.p) 0∧(∀ q,q ∈ L1→s.mem q.1=some q.2)∧s.ds=[]∧0 < s.c) ?_ ?_ ?_ ?_
  ·intro q hq
   simp only [List.mem_cons,List.not_mem_nil,or_false] at hq
   rcases hq with rfl|rfl<;>simp (disch:=first|omega|assumption) only [go_sem]
  ·intro q hq
   simp only [List.mem_cons,List.not_mem_nil,or_false] at hq
   rcases hq with rfl|rfl<;>simp (disch:=first|omega|assumption) only [go_sem]
  ·intro q hq q' hq' e
   simp only [List.mem_cons,List.not_mem_nil,or_false] at hq hq'
   rcases hq with rfl|rfl<;>rcases hq' with rfl|rfl<;>(have:=congrArg Oid.depth e;simp only [Oid.depth] at this;omega)
  ·rintro y l0 pre xs L1 ⟨k,hk,rfl,hj⟩ _ ⟨hlen,rfl⟩ hyr hyg hpm
   refine qH ?_
   replace hng:=hyg
   generalize chk l (mG l k).length=CH
   rcases hj with ⟨-,ts,v,L2,ht,hr,rfl⟩|⟨hj,_⟩
   rotate_left
   ·cases hj
   have hcon:=FF hr
   generalize ([(Oid.sub 0 0 x.p,ah.cells [v]),(Oid.sub 0 1 x.p,ah.cells [.bool false])]++L2)=LL at hcon
   refine ar nmd [] hng (by kernel_rfl) fun hf C S K hC1 hC hS hK=>?_;simp (disch:=first|omega|assumption) only [go_sem,qG]
   refine hK ?_;clear hK hS hC hC1 K S C hf
   exact b5 ⟨rfl,rfl,rfl,rfl,hcon,rfl,by show 0 < 0+1;omega⟩
  ·rintro y l0 pre xs L1 ⟨fr,m,c,ds⟩ ⟨k,hk,rfl,hj⟩ _ ⟨hlen,rfl⟩ hyr hyg hpm ⟨h6,h2,h3,hm,rfl,hc⟩
   rcases hj with ⟨-,ts,v,L2,ht,hr,rfl⟩|⟨hj,_⟩
   rotate_left
   ·cases hj
   have hbl:(mG l k).length=k:=by simp [mG]
   have hbs:=rb l k
   rw [hbl] at hlen h6 ⊢
   rw [← hbs]
   simp only at h6 h2 h3 hm hc
   have ht3:=Gc (l:=l) (k:=k) (by omega)
   have hs3:=Ij (l:=l) (k:=k) (by omega)
   unfold chk at h6
   generalize l.getD (3 * k) default=a at h6 ht3 hs3
   generalize l.getD (3 * k+1) default=b at h6 ht3 hs3
   generalize l.getD (3 * k+2) default=d at h6 ht3 hs3
   refine qH (Gu [(2,.ptr (.sub 0 0 x.p) 0),(3,.ptr (.sub 0 1 x.p) 0),(6,.list 1 [.str a,.str b,.str d])] rfl (by simp [h6,h2,h3]) (jh _ hm (lD fun hf2=>?_)))
   replace hng:=hyg
   by_cases hok:okF b
   case neg =>
    have n0:¬ b=[48]:=fun e=>hok (.inl e)
    have n1:¬ b=[49]:=fun e=>hok (.inr e)
    have hbad:lL l=none:=by rw [hs3];exact uQ a b d _ hok k _ (by rw [List.length_take];omega)
    generalize L2=rest
    (repeat (first|(refine aB rfl rfl ?_)|(refine aC rfl rfl ?_)|(refine ar nmd [] hng (by kernel_rfl) fun hf C S K hC1 hC hS hK=>?_;simp (disch:=first|omega|assumption) only [go_sem];refine hK ?_;clear hK hS hC hC1 K S C hf)|((first|refine zv ?_|refine zw ?_|refine zu ?_);with_reducible (constructor;repeat constructor);try refine zl ?_)))
    refine fm ?_
    (repeat (first|(refine aB rfl rfl ?_)|(refine aC rfl rfl ?_)|(refine ar nmd [] hng (by kernel_rfl) fun hf C S K hC1 hC hS hK=>?_;simp (disch:=first|omega|assumption) only [go_sem];refine hK ?_;clear hK hS hC hC1 K S C hf)|((first|refine zv ?_|refine zw ?_|refine zu ?_);with_reducible (constructor;repeat constructor);try refine zl ?_)))
    refine qr (.d [] [(4,27)] []) (ai n0 n1) trivial ?_
    refine qw0 ?_
    refine ay ⟨_,⟨k+1,by omega,rfl,.inr ⟨rfl,hbad,rfl⟩⟩,fun q hq=>?_,fun q hq=>?_⟩
    ·simp only [List.mem_cons,List.not_mem_nil,or_false] at hq
     rcases hq with rfl|rfl<;>simp (disch:=first|omega|assumption) only [go_sem]
    ·simp only [List.mem_cons,List.not_mem_nil,or_false] at hq
     rcases hq with rfl|rfl
     ·exact .inl ⟨_,List.mem_cons_self,rfl⟩
     ·exact .inl ⟨_,List.mem_cons_of_mem _ List.mem_cons_self,rfl⟩
   have hsn:=rf a b d _ ts ht
   rw [if_pos hok,← ht3] at hsn
   have htl:ts.length=k:=by have:=pk _ _ ht;rw [List.length_take] at this;omega
   have e01:¬ ([48]:Str)=[49]:=by decide
   have e10:¬ ([49]:Str)=[48]:=by decide
   rcases hok with rfl|rfl
   ·rcases hr with ⟨rfl,rfl,rfl⟩|⟨hl0,id,rfl,rfl,hid0,hid1⟩
    ·(repeat (first|(refine aB rfl rfl ?_)|(refine aC rfl rfl ?_)|(refine ar nmd [] hng (by kernel_rfl) fun hf C S K hC1 hC hS hK=>?_;simp (disch:=first|omega|assumption) only [go_sem];refine hK ?_;clear hK hS hC hC1 K S C hf)|((first|refine zv ?_|refine zw ?_|refine zu ?_);with_reducible (constructor;repeat constructor);try refine zl ?_)))
     refine fm ?_
     (repeat (first|(refine aB rfl rfl ?_)|(refine aC rfl rfl ?_)|(refine ar nmd [] hng (by kernel_rfl) fun hf C S K hC1 hC hS hK=>?_;simp (disch:=first|omega|assumption) only [go_sem];refine hK ?_;clear hK hS hC hC1 K S C hf)|((first|refine zv ?_|refine zw ?_|refine zu ?_);with_reducible (constructor;repeat constructor);try refine zl ?_)))
     refine qr (.d [] [(4,27)] []) (ai e01 e10) trivial ?_
     refine qw (ai e01 e10) ?_
     refine qd (.d [(0,12)] [] [2]) (ai e01 e10) trivial ?_
     refine b5 ⟨_,⟨k+1,by omega,rfl,.inl ⟨rfl,_,.sl (.sub (c+1) 13 y.p) 3 1,[(.sub (c+1) 13 y.p,.arr 3 _)],hsn,.inr ⟨by simp,_,rfl,rfl,by simp,by simp⟩,rfl⟩⟩,fun q hq=>?_,fun q hq=>?_⟩
     ·simp only [List.mem_cons,List.not_mem_nil,or_false,List.cons_append,List.nil_append] at hq
      rcases hq with rfl|rfl|rfl
      ·simp (disch:=first|omega|assumption) only [go_sem]
      ·simp (disch:=first|omega|assumption) only [go_sem]
      ·simp (disch:=first|omega|assumption) only [go_sem]
       rfl
     ·simp only [List.mem_cons,List.not_mem_nil,or_false,List.cons_append,List.nil_append] at hq
      rcases hq with rfl|rfl|rfl
      ·exact .inl ⟨_,List.mem_cons_self,rfl⟩
      ·exact .inl ⟨_,List.mem_cons_of_mem _ List.mem_cons_self,rfl⟩
      ·exact .inr (Oid.af (Oid.aq _))
    ·have hi1:¬ Oid.sub (c+1) 13 y.p=id:=fun e=>by
      have:=hf2 (.sub (c+1) 13 y.p) ⟨c+1,13,by omega,Oid.aq _⟩
      rw [e] at this
      simp only [List.cons_append,List.nil_append,Mem.ao,if_neg hid0,if_neg hid1] at this
      simp at this
     have hi2:¬ id=Oid.sub (c+1) 13 y.p:=fun e=>hi1 e.symm
     (repeat (first|(refine aB rfl rfl ?_)|(refine aC rfl rfl ?_)|(refine ar nmd [] hng (by kernel_rfl) fun hf C S K hC1 hC hS hK=>?_;simp (disch:=first|omega|assumption) only [go_sem];refine hK ?_;clear hK hS hC hC1 K S C hf)|((first|refine zv ?_|refine zw ?_|refine zu ?_);with_reducible (constructor;repeat constructor);try refine zl ?_)))
     refine fm ?_
     (repeat (first|(refine aB rfl rfl ?_)|(refine aC rfl rfl ?_)|(refine ar nmd [] hng (by kernel_rfl) fun hf C S K hC1 hC hS hK=>?_;simp (disch:=first|omega|assumption) only [go_sem];refine hK ?_;clear hK hS hC hC1 K S C hf)|((first|refine zv ?_|refine zw ?_|refine zu ?_);with_reducible (constructor;repeat constructor);try refine zl ?_)))
     refine qr (.d [] [(4,27)] []) (ai e01 e10) trivial ?_
     refine qw (ai e01 (ai e10 (ai hid0 (ai hid1 (ai hi1 hi2))))) ?_
     have hs0:¬ Oid.sub 0 0 x.p=id:=fun e=>hid0 e.symm
     refine bN nmd [] [(0,12)] mixed hng (by kernel_rfl) [2] fun hf C S K hC hS hK=>?_;simp (disch:=first|omega|assumption) only [go_sem,e01,e10,hid0,hid1,hi1,hi2,List.length_map]
     refine hK (by simp (disch:=first|omega|assumption) only [go_sem,List.reverse_cons,List.reverse_nil,ne_eq,not_false_eq_true,implies_true,hid0,hid1,hi1,hi2,hs0]) ?_;clear hK hS hC K S C hf
     (try ((first|refine zn ?_|refine ze ?_|refine zk ?_);with_reducible (constructor;repeat constructor));try refine zl ?_)
     refine b5 ⟨_,⟨k+1,by omega,rfl,.inl ⟨rfl,_,.sl (.sub (c+1) 13 y.p) 3 (ts.length+1),[(.sub (c+1) 13 y.p,.arr 3 _)],hsn,.inr ⟨by simp,_,by simp,rfl,by simp,by simp⟩,rfl⟩⟩,fun q hq=>?_,fun q hq=>?_⟩
     ·simp only [List.mem_cons,List.not_mem_nil,or_false,List.cons_append,List.nil_append] at hq
      rcases hq with rfl|rfl|rfl
      ·simp (disch:=first|omega|assumption) only [go_sem,hid0,hid1,hi1,hi2]
      ·simp (disch:=first|omega|assumption) only [go_sem,hid0,hid1,hi1,hi2]
      ·simp (disch:=first|omega|assumption) only [go_sem,hid0,hid1,hi1,hi2,List.map_append]
       rfl
     ·simp only [List.mem_cons,List.not_mem_nil,or_false,List.cons_append,List.nil_append] at hq
      rcases hq with rfl|rfl|rfl
      ·exact .inl ⟨_,List.mem_cons_self,rfl⟩
      ·exact .inl ⟨_,List.mem_cons_of_mem _ List.mem_cons_self,rfl⟩
      ·exact .inr (Oid.af (Oid.aq _))
   ·rcases hr with ⟨rfl,rfl,rfl⟩|⟨hl0,id,rfl,rfl,hid0,hid1⟩
    ·(repeat (first|(refine aB rfl rfl ?_)|(refine aC rfl rfl ?_)|(refine ar nmd [] hng (by kernel_rfl) fun hf C S K hC1 hC hS hK=>?_;simp (disch:=first|omega|assumption) only [go_sem];refine hK ?_;clear hK hS hC hC1 K S C hf)|((first|refine zv ?_|refine zw ?_|refine zu ?_);with_reducible (constructor;repeat constructor);try refine zl ?_)))
     refine fm ?_
     (repeat (first|(refine aB rfl rfl ?_)|(refine aC rfl rfl ?_)|(refine ar nmd [] hng (by kernel_rfl) fun hf C S K hC1 hC hS hK=>?_;simp (disch:=first|omega|assumption) only [go_sem];refine hK ?_;clear hK hS hC hC1 K S C hf)|((first|refine zv ?_|refine zw ?_|refine zu ?_);with_reducible (constructor;repeat constructor);try refine zl ?_)))
     refine qr (.d [] [(4,27)] []) (ai e01 e10) trivial ?_
     refine qw (ai e01 e10) ?_
     refine qd (.d [(0,12)] [] [2]) (ai e01 e10) trivial ?_
     refine b5 ⟨_,⟨k+1,by omega,rfl,.inl ⟨rfl,_,.sl (.sub (c+1) 13 y.p) 3 1,[(.sub (c+1) 13 y.p,.arr 3 _)],hsn,.inr ⟨by simp,_,rfl,rfl,by simp,by simp⟩,rfl⟩⟩,fun q hq=>?_,fun q hq=>?_⟩
     ·simp only [List.mem_cons,List.not_mem_nil,or_false,List.cons_append,List.nil_append] at hq
      rcases hq with rfl|rfl|rfl
      ·simp (disch:=first|omega|assumption) only [go_sem]
      ·simp (disch:=first|omega|assumption) only [go_sem]
      ·simp (disch:=first|omega|assumption) only [go_sem]
       rfl
     ·simp only [List.mem_cons,List.not_mem_nil,or_false,List.cons_append,List.nil_append] at hq
      rcases hq with rfl|rfl|rfl
      ·exact .inl ⟨_,List.mem_cons_self,rfl⟩
      ·exact .inl ⟨_,List.mem_cons_of_mem _ List.mem_cons_self,rfl⟩
      ·exact .inr (Oid.af (Oid.aq _))
    ·have hi1:¬ Oid.sub (c+1) 13 y.p=id:=fun e=>by
      have:=hf2 (.sub (c+1) 13 y.p) ⟨c+1,13,by omega,Oid.aq _⟩
      rw [e] at this
      simp only [List.cons_append,List.nil_append,Mem.ao,if_neg hid0,if_neg hid1] at this
      simp at this
     have hi2:¬ id=Oid.sub (c+1) 13 y.p:=fun e=>hi1 e.symm
     (repeat (first|(refine aB rfl rfl ?_)|(refine aC rfl rfl ?_)|(refine ar nmd [] hng (by kernel_rfl) fun hf C S K hC1 hC hS hK=>?_;simp (disch:=first|omega|assumption) only [go_sem];refine hK ?_;clear hK hS hC hC1 K S C hf)|((first|refine zv ?_|refine zw ?_|refine zu ?_);with_reducible (constructor;repeat constructor);try refine zl ?_)))
     refine fm ?_
     (repeat (first|(refine aB rfl rfl ?_)|(refine aC rfl rfl ?_)|(refine ar nmd [] hng (by kernel_rfl) fun hf C S K hC1 hC hS hK=>?_;simp (disch:=first|omega|assumption) only [go_sem];refine hK ?_;clear hK hS hC hC1 K S C hf)|((first|refine zv ?_|refine zw ?_|refine zu ?_);with_reducible (constructor;repeat constructor);try refine zl ?_)))
     refine qr (.d [] [(4,27)] []) (ai e01 e10) trivial ?_
     refine qw (ai e01 (ai e10 (ai hid0 (ai hid1 (ai hi1 hi2))))) ?_
     have hs0:¬ Oid.sub 0 0 x.p=id:=fun e=>hid0 e.symm
     refine bN nmd [] [(0,12)] mixed hng (by kernel_rfl) [2] fun hf C S K hC hS hK=>?_;simp (disch:=first|omega|assumption) only [go_sem,e01,e10,hid0,hid1,hi1,hi2,List.length_map]
     refine hK (by simp (disch:=first|omega|assumption) only [go_sem,List.reverse_cons,List.reverse_nil,ne_eq,not_false_eq_true,implies_true,hid0,hid1,hi1,hi2,hs0]) ?_;clear hK hS hC K S C hf
     (try ((first|refine zn ?_|refine ze ?_|refine zk ?_);with_reducible (constructor;repeat constructor));try refine zl ?_)
     refine b5 ⟨_,⟨k+1,by omega,rfl,.inl ⟨rfl,_,.sl (.sub (c+1) 13 y.p) 3 (ts.length+1),[(.sub (c+1) 13 y.p,.arr 3 _)],hsn,.inr ⟨by simp,_,by simp,rfl,by simp,by simp⟩,rfl⟩⟩,fun q hq=>?_,fun q hq=>?_⟩
     ·simp only [List.mem_cons,List.not_mem_nil,or_false,List.cons_append,List.nil_append] at hq
      rcases hq with rfl|rfl|rfl
      ·simp (disch:=first|omega|assumption) only [go_sem,hid0,hid1,hi1,hi2]
      ·simp (disch:=first|omega|assumption) only [go_sem,hid0,hid1,hi1,hi2]
      ·simp (disch:=first|omega|assumption) only [go_sem,hid0,hid1,hi1,hi2,List.map_append]
       rfl
     ·simp only [List.mem_cons,List.not_mem_nil,or_false,List.cons_append,List.nil_append] at hq
      rcases hq with rfl|rfl|rfl
      ·exact .inl ⟨_,List.mem_cons_self,rfl⟩
      ·exact .inl ⟨_,List.mem_cons_of_mem _ List.mem_cons_self,rfl⟩
      ·exact .inr (Oid.af (Oid.aq _))
  ·rintro pre L' m' ⟨k0,hk0',rfl,hall⟩ ⟨k,hk,hpre,hj⟩ hL' hd hold hnm
   rcases hj with ⟨-,ts,v,L2,ht,hr,rfl⟩|⟨hj,_⟩
   rotate_left
   ·cases hj
   have hkk:k0=k:=by have:=congrArg List.length hpre;simpa [mG] using this
   rw [← hkk,hall rfl,← hn,List.take_length] at ht
   rw [ht]
   have hmm:∀ q ∈ (Oid.sub (0+1+1+1+1) 0 x.p,ah.dfr)::([(Oid.sub 0 0 x.p,ah.cells [v]),(Oid.sub 0 1 x.p,ah.cells [.bool false])]++L2),m' q.1=some q.2:=fun q hq=>(List.mem_cons.1 hq).elim (fun e=>by rw [e];exact hd) (hL' q)
   refine jh _ hmm ?_
   rcases hr with ⟨rfl,rfl,rfl⟩|⟨hl0,id,rfl,rfl,hid0,hid1⟩
   ·refine EO (.sub 0 0 x.p) [.nilSl] [.list 3 []] qs0 (.cons (.lE 3) .nil) ?_
    refine qw0 ?_
    refine ay ⟨by simp (disch:=first|omega|assumption) only [go_sem],.tuple [.list 3 [],.bool true],[],by simp (disch:=first|omega|assumption) only [go_sem],⟨rfl,rfl⟩,fun i o h=>by cases h⟩
   ·have hidc:¬ id=Oid.sub (0+1+1+1+1) 0 x.p:=fun e=>by
     have h1:=hL' (id,.arr 3 (ts.map aS)) (by simp)
     simp only at h1
     rw [e,hd] at h1;cases h1
    have hs0:¬ Oid.sub 0 0 x.p=id:=fun e=>hid0 e.symm
    have hs1:¬ Oid.sub 0 1 x.p=id:=fun e=>hid1 e.symm
    refine qI id (.sub 0 0 x.p) 3 (ts.map aS) [.sl id 3 ts.length] [.list 3 (ts.map aS)] (qs (ai hid0 (ai hid1 hidc))) (qs (ai hid0 (ai hid1 hidc))) hs0 (.iq (by simp) .nil) ?_
    simp (disch:=first|omega|assumption) only [go_sem,hid0,hid1,hidc,hs0,hs1]
    refine qw (ai hid0 (ai hid1 (ai hidc (ai hs0 hs1)))) ?_
    refine ay ⟨by simp (disch:=first|omega|assumption) only [go_sem,hid0,hid1,hidc,hs0,hs1],.tuple [.list 3 (ts.map aS),.bool true],[],by simp (disch:=first|omega|assumption) only [go_sem,hid0,hid1,hidc,hs0,hs1],⟨rfl,rfl⟩,fun i o h=>by cases h⟩
  ·rintro pre L' m' cd ⟨k0,hk0',rfl,hall⟩ ⟨k,hk,hpre,hj⟩ hL' hd hold hnm
   rcases hj with ⟨hj,_⟩|⟨hcd,hnn,rfl⟩
   ·cases hj
   obtain rfl:=Option.some.inj hcd
   rw [hnn]
   refine jh ((Oid.sub (0+1+1+1+1) 0 x.p,ah.dfr)::[(Oid.sub 0 0 x.p,ah.cells [.nilSl]),(Oid.sub 0 1 x.p,ah.cells [.bool false])]) (fun q hq=>(List.mem_cons.1 hq).elim (fun e=>by rw [e];exact hd) (hL' q)) ?_
   refine ay ⟨by simp (disch:=first|omega|assumption) only [go_sem],.tuple [.nilSl,.bool false],[],by simp (disch:=first|omega|assumption) only [go_sem],⟨rfl,rfl⟩,fun i o h=>by cases h⟩
end Go.Proofs.YtpficjpdfbiedaaGreatDoor
namespace Go.Proofs.YtpficjpdfbiedaaGreatDoor
open Go Go.Ab
set_option maxRecDepth 20000
set_option maxHeartbeats 4000000
def I9:AV:=.agg [.str [],.nilSl,.nilSl,.int .i64 0,.str [],.str []]
def Ja (o:Option Mm):AV:=match o with
 | some m=>.tuple [m.av,.int .i64 0]
 | none=>.tuple [I9,.int .i64 20]
theorem Jb:∀ {l:List Str},l.length=6→∃ k r w n o e,l=[k,r,w,n,o,e]
 | [k,r,w,n,o,e],_=>⟨k,r,w,n,o,e,rfl⟩
theorem wC (s:Str) (hl:s.length≤4000000000) (p:Oid) (hp:p.mono=false):aj Tryz.prog 13 [.str s] (Oid.under p) ⟨[],Ja (uE s),[]⟩:=by
 have hD:=fun p hp=>qx s hl p hp
 have h20:¬ (20:Int)=0:=by decide
 cases hd:gZ s with
 | none =>
  have hdm:uE s=none:=by unfold uE;rw [hd]
  rw [hdm]
  rw [hd] at hD
  simp only [BN] at hD
  refine aA (n:=70) (rs:=[.cell 2 31,.tmp 3]) Tryz.func13 rfl rfl (by decide) rfl rfl rfl ?_;rintro x rfl hrd hng
  refine qw0 ?_
  refine qr1 (hD _) ?_
  refine qr (.d [] [(2,18)] []) h20 trivial ?_
  refine qw0 ?_
  exact ay (aQ (by simp (disch:=first|omega|assumption) only [go_sem];rfl))
 | some l =>
  rw [hd] at hD
  simp only [BN] at hD
  have hml:=tO hd
  by_cases h6:l.length=6
  case neg =>
   have h6':¬ (l.length:Int)=6:=by omega
   have hnn:uE s=none:=by
    unfold uE
    rw [hd]
    split
    ·rename_i k r w n o e he;rw [Option.some.inj he] at h6;exact absurd rfl h6
    ·rfl
   rw [hnn]
   refine aA (n:=70) (rs:=[.cell 2 31,.tmp 3]) Tryz.func13 rfl rfl (by decide) rfl rfl rfl ?_;rintro x rfl hrd hng
   refine qw0 ?_
   refine qr1 (hD _) ?_
   refine qr (.d [] [(2,18)] []) h6' trivial ?_
   refine qw0 ?_
   exact ay (aQ (by simp (disch:=first|omega|assumption) only [go_sem];rfl))
  obtain ⟨k,r,w,n,o,e,rfl⟩:=Jb h6
  have hR1:=fun p hp=>uR r (Nat.le_trans (hml r (by simp)) hl) p hp
  have hR2:=fun p hp=>uR w (Nat.le_trans (hml w (by simp)) hl) p hp
  have hN:=fun p hp=>jY n (by have:=hml n (by simp);omega) p hp
  have hdm:uE s=mk6 k (mZ r) (mZ w) n o e:=by unfold uE;rw [hd]
  rw [hdm]
  simp only [List.map_cons,List.map_nil] at hD
  clear hml hd h6 hdm
  unfold mk6
  generalize eN n=g at hN ⊢
  generalize bn n=z at hN ⊢
  generalize mZ r=rr at hR1 ⊢
  generalize mZ w=ww at hR2 ⊢
  cases rr<;>cases ww<;>cases g
  all_goals
   simp only [C7] at hR1 hR2
   refine aA (n:=70) (rs:=[.cell 2 31,.tmp 3]) Tryz.func13 rfl rfl (by decide) rfl rfl rfl ?_;rintro x rfl hrd hng
   refine qw0 ?_
   refine qr1 (hD _) ?_
   refine qr (.d [] [(2,18)] []) trivial trivial ?_
   refine qw0 ?_
   refine qr1 (hR1 _) ?_
   refine qr1 (hR2 _) ?_
   refine qr1 (hN _) ?_
   refine qr (.d [] [(2,47),(6,51)] []) trivial trivial ?_
   refine qw0 ?_
   first
   | exact ay (aQ (by simp (disch:=first|omega|assumption) only [go_sem];rfl))
   | (refine bN nmd [] [] mixed hng (by kernel_rfl) [2,3] fun hf C S K hC hS hK=>?_;simp (disch:=first|omega|assumption) only [go_sem]
      (first|refine hK (aG rfl) ?_|refine hK (by simp (disch:=first|omega|assumption) only [go_sem,List.reverse_cons,List.reverse_nil,ne_eq,not_false_eq_true,implies_true]) ?_);clear hK hS hC K S C hf
      refine qw0 ?_
      exact ay (aQ (by simp (disch:=first|omega|assumption) only [go_sem];rfl)))
end Go.Proofs.YtpficjpdfbiedaaGreatDoor
namespace Go.Proofs.YtpficjpdfbiedaaGreatDoor
open Go Go.Ab
set_option maxRecDepth 20000
set_option maxHeartbeats 4000000
def gy:List Tch→Nat
 | []=>0
 | t::l=>t.1.1.length+t.2.length+1+gy l
theorem nf (a b:List Tch):gy (a++b)=gy a+gy b:=by
 induction a with
 | nil=>simp [gy]
 | cons t a ih=>simp only [List.cons_append,gy,ih];omega
theorem rh {l:List Tch} {i:Nat} (h:i < l.length):gy (l.take (i+1))=gy (l.take i)+((l.getD i default).1.1.length+(l.getD i default).2.length+1):=by
 rw [List.take_add_one,List.getElem?_eq_getElem h,List.getD_eq_getElem?_getD,List.getElem?_eq_getElem h,nf]
 simp [gy]
theorem xO (l:List Tch) (i:Nat):gy (l.take i)≤gy l:=by
 conv=>rhs;rw [← List.take_append_drop i l,nf]
 omega
theorem pw:∀ (l:List Tch),l.length≤gy l∧∀ t ∈ l,t.1.1.length≤gy l∧t.2.length≤gy l
 | []=>⟨Nat.le_refl _,fun t h=>by cases h⟩
 | t::l=>by
  obtain ⟨h1,h2⟩:=pw l
  refine ⟨by simp only [List.length_cons,gy];omega,fun u hu=>?_⟩
  simp only [gy]
  rcases List.mem_cons.1 hu with rfl|hu
  ·omega
  ·have:=h2 u hu;omega
def jO (m:Mm):Nat:=m.key.length+m.out.length+m.err.length+gy m.rd+gy m.wr
theorem C9 {m:Mm} (h:jO m≤500):Mm.small m 500:=by
 unfold jO at h
 obtain ⟨a1,a2⟩:=pw m.rd
 obtain ⟨b1,b2⟩:=pw m.wr
 exact ⟨by omega,by omega,by omega,fun t ht=>by have:=a2 t ht;omega,fun t ht=>by have:=b2 t ht;omega,by omega,by omega⟩
theorem zS (m:Mm) (hk:m.key.length≤140737488355328) (ho:m.out.length≤140737488355328) (he:m.err.length≤140737488355328) (hr:m.rd.length≤140737488355328) (hw:m.wr.length≤140737488355328) (hrt:∀ t ∈ m.rd,t.1.1.length≤140737488355328∧t.2.length≤140737488355328) (hwt:∀ t ∈ m.wr,t.1.1.length≤140737488355328∧t.2.length≤140737488355328) (p:Oid) :
  aj Tryz.prog 12 [m.av] (Oid.under p) ⟨[],.bool (decide (jO m≤500)),[]⟩:=by
 unfold jO
 obtain ⟨mk,mr,mw,ms,mo,me⟩:=m
 simp only [Mm.av] at hk ho he hr hw hrt hwt ⊢
 refine aA (n:=79) (rs:=[.tmp 2]) Tryz.func12 rfl rfl (by decide) rfl rfl rfl ?_;rintro x rfl hrd hng
 refine qw0 ?_
 refine bp [1,3,4] (fun q s'=>∃ (c i:Nat) (n:Int),s' = ⟨[(1,.ptr (.sub 0 0 x.p) 0),(3,.int .i64 n),(4,.int .i64 i)],Mem.of [(.sub 0 0 x.p,.cells [.str mk,.list 3 (mr.map aS),.list 3 (mw.map aS),.int .i64 ms,.str mo,.str me])],c,[]⟩∧q=mr.length - i∧i≤mr.length∧n=((mk.length+mo.length+me.length+gy (mr.take i):Nat):Int)∧n≤1000000000000000) _ ⟨_,0,_,rfl,rfl,Nat.zero_le _,by simp only [List.take_zero,gy];omega,by omega⟩ ?_
 rintro q s' ⟨c,i,n,rfl,rfl,hi,hn,hn4⟩
 have hlm:(mr.map aS).length=mr.length:=List.length_map ..
 by_cases hc:i < mr.length∧n≤500
 ·obtain ⟨hlt,h500⟩:=hc
  have hlt':(i:Int) < (mr.length:Int):=by omega
  (try ((first|refine zn ?_|refine ze ?_|refine zk ?_);with_reducible (constructor;repeat constructor));try refine zl ?_)
  refine qr (.d [] [(5,24)] []) (ai hlt' hlm) trivial ?_
  (try ((first|refine zn ?_|refine ze ?_|refine zk ?_);with_reducible (constructor;repeat constructor));try refine zl ?_)
  refine aK rfl rfl (fun hb=>?_) (fun hb=>?_)
  ·have ht:=rh hlt
   have hgm:mr.getD i default ∈ mr:=by rw [bG hlt];exact List.getElem_mem _
   have hgl:=hrt _ hgm
   generalize hg:mr.getD i default=g at ht hgl
   obtain ⟨⟨gp,gf⟩,gv⟩:=g
   simp only at ht hgl
   (try ((first|refine zn ?_|refine ze ?_|refine zk ?_);with_reducible (constructor;repeat constructor));try refine zl ?_)
   refine bN nmd [] [] mixed hng (by kernel_rfl) [1,3,4] fun hf C S K hC hS hK=>?_;simp (disch:=first|omega|assumption) only [go_sem,hg,aS,AV.cells,List.length_map]
   (first|refine hK (aG rfl) ?_|refine hK (by simp (disch:=first|omega|assumption) only [go_sem,List.reverse_cons,List.reverse_nil,ne_eq,not_false_eq_true,implies_true]) ?_);clear hK hS hC K S C hf
   refine qw0 ?_
   exact ⟨_,_,by omega,fun _ _ h=>h,_,i+1,_,rfl,rfl,by omega,by omega,by omega⟩
  ·exact absurd h500 (by omega)
 have hsm:=xO mr i
 have hx:n≤500→i=mr.length:=by omega
 by_cases hlt:i < mr.length
 case' pos =>
  have hlt':(i:Int) < (mr.length:Int):=by omega
  (try ((first|refine zn ?_|refine ze ?_|refine zk ?_);with_reducible (constructor;repeat constructor));try refine zl ?_)
  refine qr (.d [] [(5,24)] []) (ai hlt' hlm) trivial ?_
  (try ((first|refine zn ?_|refine ze ?_|refine zk ?_);with_reducible (constructor;repeat constructor));try refine zl ?_)
  refine aK rfl rfl (fun hb=>absurd hb (by omega)) (fun hb=>?_)
 case' neg =>
  have hlt':¬ (i:Int) < (mr.length:Int):=by omega
  (try ((first|refine zn ?_|refine ze ?_|refine zk ?_);with_reducible (constructor;repeat constructor));try refine zl ?_)
  refine qr (.d [] [(5,24)] []) (ai hlt' hlm) trivial ?_
  (try ((first|refine zn ?_|refine ze ?_|refine zk ?_);with_reducible (constructor;repeat constructor));try refine zl ?_)
 all_goals
  clear hlm hlt hlt' hc
  generalize hA:mk.length+mo.length+me.length+gy mr=A
  have hxA:n≤A∧(n≤500→n=A):=by
   refine ⟨by omega,fun h=>?_⟩
   obtain rfl:=hx h
   rw [List.take_length] at hn
   omega
  clear hx hsm hn
  refine qw0 ?_
  refine bp [1,3,5] (fun q s'=>∃ (c i:Nat) (v:Int),s' = ⟨[(1,.ptr (.sub 0 0 x.p) 0),(3,.int .i64 v),(5,.int .i64 i)],Mem.of [(.sub 0 0 x.p,.cells [.str mk,.list 3 (mr.map aS),.list 3 (mw.map aS),.int .i64 ms,.str mo,.str me])],c,[]⟩∧q=mw.length - i∧i≤mw.length∧v=n+((gy (mw.take i):Nat):Int)∧v≤2000000000000000) _ ⟨_,0,_,rfl,rfl,Nat.zero_le _,by simp only [List.take_zero,gy];omega,by omega⟩ ?_
  rintro q s' ⟨c,i,v,rfl,rfl,hi,hv,hv4⟩
  have hlm:(mw.map aS).length=mw.length:=List.length_map ..
  by_cases hc:i < mw.length∧v≤500
  ·obtain ⟨hlt,h500⟩:=hc
   have hlt':(i:Int) < (mw.length:Int):=by omega
   (try ((first|refine zn ?_|refine ze ?_|refine zk ?_);with_reducible (constructor;repeat constructor));try refine zl ?_)
   refine qr (.d [] [(5,53)] []) (ai hlt' hlm) trivial ?_
   (try ((first|refine zn ?_|refine ze ?_|refine zk ?_);with_reducible (constructor;repeat constructor));try refine zl ?_)
   refine aK rfl rfl (fun hb=>?_) (fun hb=>?_)
   ·have ht:=rh hlt
    have hgm:mw.getD i default ∈ mw:=by rw [bG hlt];exact List.getElem_mem _
    have hgl:=hwt _ hgm
    generalize hg:mw.getD i default=g at ht hgl
    obtain ⟨⟨gp,gf⟩,gv⟩:=g
    simp only at ht hgl
    (try ((first|refine zn ?_|refine ze ?_|refine zk ?_);with_reducible (constructor;repeat constructor));try refine zl ?_)
    refine bN nmd [] [] mixed hng (by kernel_rfl) [1,3,5] fun hf C S K hC hS hK=>?_;simp (disch:=first|omega|assumption) only [go_sem,hg,aS,AV.cells,List.length_map]
    (first|refine hK (aG rfl) ?_|refine hK (by simp (disch:=first|omega|assumption) only [go_sem,List.reverse_cons,List.reverse_nil,ne_eq,not_false_eq_true,implies_true]) ?_);clear hK hS hC K S C hf
    refine qw0 ?_
    exact ⟨_,_,by omega,fun _ _ h=>h,_,i+1,_,rfl,rfl,by omega,by omega,by omega⟩
   ·exact absurd h500 (by omega)
  have hsm:=xO mw i
  have hx:v≤500→i=mw.length:=by omega
  have hz:decide (v≤500)=decide (A+gy mw≤500):=by
   refine decide_eq_decide.2 ⟨fun h=>?_,fun h=>by omega⟩
   obtain rfl:=hx h
   rw [List.take_length] at hv
   have:=hxA.2 (by omega)
   omega
  by_cases hlt:i < mw.length
  case' pos =>
   have hlt':(i:Int) < (mw.length:Int):=by omega
   (try ((first|refine zn ?_|refine ze ?_|refine zk ?_);with_reducible (constructor;repeat constructor));try refine zl ?_)
   refine qr (.d [] [(5,53)] []) (ai hlt' hlm) trivial ?_
   (try ((first|refine zn ?_|refine ze ?_|refine zk ?_);with_reducible (constructor;repeat constructor));try refine zl ?_)
   refine aK rfl rfl (fun hb=>absurd hb (by omega)) (fun hb=>?_)
  case' neg =>
   have hlt':¬ (i:Int) < (mw.length:Int):=by omega
   (try ((first|refine zn ?_|refine ze ?_|refine zk ?_);with_reducible (constructor;repeat constructor));try refine zl ?_)
   refine qr (.d [] [(5,53)] []) (ai hlt' hlm) trivial ?_
   (try ((first|refine zn ?_|refine ze ?_|refine zk ?_);with_reducible (constructor;repeat constructor));try refine zl ?_)
  all_goals
   rw [← hz]
   refine qw0 ?_
   exact ay (bS rfl)
end Go.Proofs.YtpficjpdfbiedaaGreatDoor
namespace Go.Proofs.YtpficjpdfbiedaaGreatDoor
open Go Go.Ab
set_option maxRecDepth 20000
set_option maxHeartbeats 4000000
def mK:Mm:=⟨[107],[],[],0,[],[]⟩
def mJ:Mm:=⟨[106],[],[],0,[],[]⟩
theorem xP:CN mK=[49,58,107,44,48,58,44,48,58,44,49,58,48,44,48,58,44,48,58,44]:=by kernel_rfl
theorem Ik:uE [120]=none:=by kernel_rfl
theorem FG:ki [] [mK,mJ] [107]=0:=by kernel_rfl
theorem Il (k:Str):gj (.agg [.str k,.nilSl,.nilSl,.int .i64 0,.str [],.str []]) (Mm.av ⟨k,[],[],0,[],[]⟩) :=
 gj.agg (.cons (.refl _) (.cons (gj.nil 3) (.cons (gj.nil 3) (.cons (.refl _) (.cons (.refl _) (.cons (.refl _) .nil))))))
theorem xQ (k:Str):vn (.agg [.str k,.nilSl,.nilSl,.int .i64 0,.str [],.str []]) (Mm.av ⟨k,[],[],0,[],[]⟩) :=
 vn.agg (.cons (.refl _) (.cons (gj.nil 3) (.cons (gj.nil 3) (.cons (.refl _) (.cons (.refl _) (.cons (.refl _) .nil))))))
theorem px (p:Oid) (hp:p.mono=false):aj Tryz.prog 9 [] (Oid.under p) ⟨[],.bool true,[]⟩:=by
 have hD:=fun p hp=>wC [120] (by decide) p hp
 rw [Ik] at hD
 simp only [Ja,I9] at hD
 have hE:=fun p hp=>(wB mK (by decide) (by decide) (by decide) (by decide) (by decide) (by rw [xP];decide) p hp).rH (.cons (Il _) .nil)
 rw [xP] at hE
 have hK:=fun p hp=>(Ih [] [] [] 0 [] (by decide) (by decide) (by decide) (by decide) (by decide) (by decide) (by decide) p hp).rH (.cons (gj.nil 1) (.cons (gj.nil 1) (.cons (.refl _) (.cons (.refl _) (.cons (.refl _) .nil)))))
 have hL:(uH (bg [bg [],bg [],[],Lib.itoa 0,[]])).length=64:=CQ _
 generalize uH (bg [bg [],bg [],[],Lib.itoa 0,[]])=ky at hK hL
 refine aA (n:=33) (rs:=[.tmp 0]) Tryz.func9 rfl rfl (by decide) rfl rfl rfl ?_;rintro x rfl hrd hng
 (repeat (first|(refine aB rfl rfl ?_)|(refine aC rfl rfl ?_)|(refine ar nmd [] hng (by kernel_rfl) fun hf C S K hC1 hC hS hK=>?_;simp (disch:=first|omega|assumption) only [go_sem];(repeat ((first|refine hC1 _ (BQ _) (by simp (disch:=first|omega|assumption) only [go_sem]) ?_);simp (disch:=first|omega|assumption) only [go_sem]));refine hK ?_;clear hK hS hC hC1 K S C hf)|((first|refine zn ?_|refine ze ?_|refine zk ?_);with_reducible (constructor;repeat constructor);try refine zl ?_)))
 have hab:¬ Oid.sub 1 0 (.sub 1 0 x.p)=Oid.sub 1 2 (.sub 1 0 x.p):=by simp
 rw [HS,zE _ _ hab]
 have hS:=uw hab
 have hOA:jC x.p 2 [Oid.sub 1 2 (.sub 1 0 x.p),Oid.sub 1 0 (.sub 1 0 x.p)]:=fun j hj ⟨c',i',hc',hu⟩=>by
  simp only [List.mem_cons,List.not_mem_nil,or_false] at hj
  rcases hj with rfl|rfl
  all_goals have:=(Oid.apart hu (Oid.af (Oid.aq _))).1;omega
 have hO:∀ c i,2≤c→bd (.sub c i x.p) [Oid.sub 1 2 (.sub 1 0 x.p),Oid.sub 1 0 (.sub 1 0 x.p)]:=fun c i h=>hOA.sub h i
 clear hOA
 have hx:Oid.sub 2 4 x.p ∉ [Oid.sub 1 2 (.sub 1 0 x.p),Oid.sub 1 0 (.sub 1 0 x.p)]:=by simp
 generalize two (Oid.sub 1 2 (.sub 1 0 x.p)) (.cells [.map (Oid.sub 1 0 (.sub 1 0 x.p)),.nilPtr]) (.map [.ss] false [] 0)=F at hS ⊢
 generalize [Oid.sub 1 2 (.sub 1 0 x.p),Oid.sub 1 0 (.sub 1 0 x.p)]=N at hS hO hx ⊢
 generalize Oid.sub 1 2 (.sub 1 0 x.p)=st at hS ⊢
 have hF:=fun p hp ho=>(uP hS sy [mK,mJ] [107] (by decide) (fun m hm=>by
  simp only [List.mem_cons,List.not_mem_nil,or_false] at hm
  rcases hm with rfl|rfl<;>exact ⟨by decide,fun h hh=>by cases hh⟩) p hp ho).rH (.cons (gj.list (.cons (xQ _) (.cons (xQ _) .nil))) (.cons (.refl _) (.cons (.refl _) .nil)))
 rw [FG] at hF
 refine qr1 (hD _) ?_
 refine ar nmd [(2,11),(7,16),(11,20),(19,28)] hng (by kernel_rfl) fun hf C S K hC1 hC hS hK'=>?_;refine qt hL ?_
 refine hC1 _ (hE _ (ax rfl hp)) (fun _ h=>by cases h) ?_;refine qt hL ?_
 refine hC1 _ (hF _ (ax rfl hp) (hO _ _ (by omega))) (by show ∀ q,q ∈ bk _→_;rw [vF hx,jE];trivial) ?_;refine qt hL ?_
 refine hC1 _ (hK _ (ax rfl hp)) (fun _ h=>by cases h) ?_;refine qt hL ?_
 refine hK' ?_;clear hK' hS hC hC1 K S C hf
 refine qw0 ?_
 exact ay (aQ (by simp (disch:=first|omega|assumption) only [go_sem];rfl))
end Go.Proofs.YtpficjpdfbiedaaGreatDoor
namespace Go.Proofs.YtpficjpdfbiedaaGreatDoor
open Go Go.Ab
set_option maxRecDepth 20000
set_option maxHeartbeats 4000000
def Jv (a:Int):Int:=IntKind.i64.wrap (BitVec.ofInt IntKind.i64.bits a &&& BitVec.ofInt IntKind.i64.bits 255).toNat
theorem Da (a:Int):dI .and .i64 a 255=some (.int .i64 (Jv a)):=rfl
attribute [go_sem high] Da
structure Jy (m:Mm) (c:Nat):Prop where
 rd:m.rd.length≤c
 wr:m.wr.length≤c
 lr:(fV m.rd).length≤c
 lw:(fV m.wr).length≤c
structure Mm.in (m:Mm):Prop where
 k:m.key.length≤140737488355328
 o:m.out.length≤140737488355328
 e:m.err.length≤140737488355328
 rl:m.rd.length≤140737488355328
 wl:m.wr.length≤140737488355328
 r:∀ t ∈ m.rd,t.1.1.length≤140737488355328∧t.2.length≤140737488355328
 w:∀ t ∈ m.wr,t.1.1.length≤140737488355328∧t.2.length≤140737488355328
end Go.Proofs.YtpficjpdfbiedaaGreatDoor
namespace Go.Proofs.YtpficjpdfbiedaaGreatDoor
open Go Go.Ab
set_option maxRecDepth 20000
set_option maxHeartbeats 4000000
end Go.Proofs.YtpficjpdfbiedaaGreatDoor
namespace Go.Proofs.YtpficjpdfbiedaaGreatDoor
open Go Go.Ab
set_option maxRecDepth 20000
set_option maxHeartbeats 4000000
end Go.Proofs.YtpficjpdfbiedaaGreatDoor
namespace Go.Proofs.YtpficjpdfbiedaaGreatDoor
open Go Go.Ab
set_option maxRecDepth 20000
set_option maxHeartbeats 4000000
end Go.Proofs.YtpficjpdfbiedaaGreatDoor
namespace Go.Proofs.YtpficjpdfbiedaaGreatDoor
open Go Go.Ab
set_option maxRecDepth 20000
set_option maxHeartbeats 4000000
end Go.Proofs.YtpficjpdfbiedaaGreatDoor
namespace Go.Proofs.YtpficjpdfbiedaaGreatDoor
open Go Go.Ab
set_option maxRecDepth 20000
set_option maxHeartbeats 4000000
end Go.Proofs.YtpficjpdfbiedaaGreatDoor
namespace Go.Proofs.YtpficjpdfbiedaaGreatDoor
open Go Go.Ab
set_option maxRecDepth 20000
set_option maxHeartbeats 4000000
theorem wD {r:Oid} {s:St} {N:List Oid} {G:Oid→ah} (h:gq r s N G) (hs:SOK s) (l:List Mm) (key:Str) (hl:l.length≤4000000000) (hr:∀ m ∈ l,m.rd.length≤4000000000∧∀ h ∈ m.rd,h.1.1.length≤140737488355000) (p:Oid) (hO:bd p N) :
  aj Tryz.prog 21 [.list 6 (l.map Mm.av),.str key,.ptr r 0] (Oid.under p) ⟨bk (N,G),.int .i64 (ki s.L l key),[]⟩:=by
 have hag:=fun (m:Mm) (hm:m ∈ l) p ho=>ux h hs m.rd (hr m hm).1 (hr m hm).2 p ho
 refine aA (n:=32) (rs:=[.tmp 6]) Tryz.func21 rfl rfl (by decide) rfl rfl rfl ?_;rintro x rfl hrd hng
 rw [rX]
 (repeat (first|(refine aB rfl rfl ?_)|(refine aC rfl rfl ?_)|(refine ar nmd [] hng (by kernel_rfl) fun hf C S K hC1 hC hS hK=>?_;simp (disch:=first|omega|assumption) only [go_sem,List.length_map];refine hK ?_;clear hK hS hC hC1 K S C hf)|((first|refine zn ?_|refine ze ?_|refine zk ?_);with_reducible (constructor;repeat constructor);try refine zl ?_)))
 refine bp [0,1,2,7] (fun k s'=>∃ (n c:Nat) (i:Int),s' = ⟨[(0,.list 6 (l.map Mm.av)),(1,.str key),(2,.ptr r 0),(7,.int .i64 i)],Mem.blk [] [(N,G)],c,[]⟩∧i=(n:Int) - 1∧k=n∧n≤l.length∧ki s.L l key=kh (fun i=>sG s.L key (l.getD i default)) n) _ ⟨l.length,_,_,rfl,rfl,rfl,Nat.le_refl _,rfl⟩ ?_
 rintro k s' ⟨n,c,i,rfl,hi,rfl,hn,hf⟩
 refine qw0 ?_
 refine aK rfl rfl (fun hb=>?_) (fun hb=>?_)
 ·obtain ⟨n,rfl⟩:∃ n',k=n' + 1:=⟨k - 1,by omega⟩
  have hlt:n < l.length:=by omega
  have hgm:l.getD n default ∈ l:=by rw [bG hlt];exact List.getElem_mem _
  have ha:=hag _ hgm
  have hit:i.toNat=n:=by omega
  have hf2:ki s.L l key=if sG s.L key (l.getD n default)=true then (n:Int) else kh (fun i=>sG s.L key (l.getD i default)) n:=hf
  clear hf
  unfold sG at hf2
  generalize hg:l.getD n default=m at ha hf2
  obtain ⟨mk,mr,mw,ms,mo,me⟩:=m
  simp only at ha hf2
  by_cases hk:mk=key
  case neg =>
   rw [decide_eq_false hk,Bool.false_and,if_neg (by decide)] at hf2
   (try ((first|refine zn ?_|refine ze ?_|refine zk ?_);with_reducible (constructor;repeat constructor));try refine zl ?_)
   refine ar nmd [(7,22)] hng (by kernel_rfl) fun hf C S K hC1 hC hS hK=>?_;simp (disch:=first|omega|assumption) only [go_sem,hit,hg,hlt,hk,Mm.av,AV.cells,List.length_map,decide_false,not_false_eq_true]
   refine hK ?_;clear hK hS hC hC1 K S C hf
   refine qw0 ?_
   exact ⟨_,_,by omega,fun _ _ h=>h,n,_,i - 1,rfl,by omega,rfl,by omega,hf2⟩
  subst hk
  rw [decide_eq_true rfl,Bool.true_and] at hf2
  rw [hf2]
  (try ((first|refine zn ?_|refine ze ?_|refine zk ?_);with_reducible (constructor;repeat constructor));try refine zl ?_)
  refine ar nmd [(7,22)] hng (by kernel_rfl) fun hf C S K hC1 hC hS hK=>?_;simp (disch:=first|omega|assumption) only [go_sem,hit,hg,hlt,Mm.av,AV.cells,List.length_map,eq_self,decide_true]
  refine hC1 _ (ha _ (hO.sub _ _)) (by show ∀ q,q ∈ bk _→_;rw [jE];trivial) ?_
  simp (disch:=first|omega|assumption) only [go_sem]
  refine hK ?_;clear hK hS hC hC1 K S C hf
  cases di s.L mr
  ·refine qw0 ?_
   exact ⟨_,_,by omega,fun _ _ h=>h,n,_,i - 1,rfl,by omega,rfl,by omega,rfl⟩
  ·have hin:i=(n:Int):=by omega
   refine qw0 ?_
   refine ay (aP (by rw [hin];rfl) ?_ ?_)
   ·simp (disch:=first|omega|assumption) only [go_sem]
   ·intro o h _;exact (show ∀ q,q ∈ bk (N,G)→Mem.blk [] [(N,G)] q.1=some q.2 by rw [jE];trivial) o h
 ·have hn0:k=0:=by omega
  subst hn0
  rw [hf]
  refine qw0 ?_
  refine ay (aP rfl ?_ ?_)
  ·simp (disch:=first|omega|assumption) only [go_sem]
  ·intro o h _;exact (show ∀ q,q ∈ bk (N,G)→Mem.blk [] [(N,G)] q.1=some q.2 by rw [jE];trivial) o h
end Go.Proofs.YtpficjpdfbiedaaGreatDoor
namespace Go.Proofs.YtpficjpdfbiedaaGreatDoor
open Go Go.Ab
set_option maxRecDepth 20000
set_option maxHeartbeats 4000000
theorem ri {y st pp r qq:Oid} {s:St} {cwd:Str} {um:Int} {n:Nat} {N M:List Oid} {H:Oid→ah} (h:dZ y st pp r qq s cwd um n N M H) (ms:List Mm) (key:Str) (hl:ms.length≤4000000000) (hr:∀ m ∈ ms,m.rd.length≤4000000000∧∀ h ∈ m.rd,h.1.1.length≤140737488355000) :
  (∀ p,p.mono=false→bd p N→aj Tryz.prog 20 [.list 6 (ms.map Mm.av),.str key,.ptr st 0] (Oid.under p) ⟨bk (N,H),.int .i64 (ki s.L ms key),[]⟩) ∧
  ∀ p,bd p M→aj Tryz.prog 21 [.list 6 (ms.map Mm.av),.str key,.ptr r 0] (Oid.under p) ⟨bk (M,H),.int .i64 (ki s.L ms key),[]⟩ :=
 ⟨fun p hp ho=>uP h.sp h.ks.ok ms key hl hr p hp ho,fun p ho=>wD h.sr h.ks.ok ms key hl hr p ho⟩
theorem Db {m:Mm} (h:jO m≤500):m.rd.length≤4000000000∧∀ h ∈ m.rd,h.1.1.length≤140737488355000:=by
 have hs:=C9 h
 exact ⟨Nat.le_trans hs.rl (by omega),fun t ht=>by have:=(hs.r t ht).1;omega⟩
theorem finds19_ok (l:List ActK) (hl:l.length≤140737488355328) (ms:List Mm) (hml:ms.length≤140737488355328) (hms:∀ m ∈ ms,m.in) (key:Str) (kk:UInt8) (p:Oid) (hp:p.mono=false):aj Tryz.prog 6 [.list 5 (l.map gx),.list 6 (ms.map Mm.av),.str key,.int .u8 kk.toNat] (Oid.under p) ⟨[],.bool true,[]⟩:=by
 refine aA (n:=102) (rs:=[.tmp 8]) Tryz.func6 rfl rfl (by decide) rfl rfl rfl ?_;rintro x rfl hrd hng
 (repeat (first|(refine aB rfl rfl ?_)|(refine aC rfl rfl ?_)|(refine ar nmd [] hng (by kernel_rfl) fun hf C S K hC1 hC hS hK=>?_;simp (disch:=first|omega|assumption) only [go_sem];(repeat ((first|refine hC1 _ (px _ (ax rfl hp)) (by simp (disch:=first|omega|assumption) only [go_sem]) ?_);simp (disch:=first|omega|assumption) only [go_sem]));refine hK ?_;clear hK hS hC hC1 K S C hf)|((first|refine zn ?_|refine ze ?_|refine zk ?_);with_reducible (constructor;repeat constructor);try refine zl ?_)))
 obtain ⟨y,st,pp,r,qq,N,M,H,hPK,hun,hB⟩:=uD 0 (.sub 3 0 x.p) (ax rfl hp)
 have hO:=CL hun
 clear hun
 rw [show dL 0 7=0 from rfl] at hPK
 refine qr1 hB ?_
 clear hB
 (try ((first|refine zn ?_|refine ze ?_|refine zk ?_);with_reducible (constructor;repeat constructor));try refine zl ?_)
 refine vc (Mem.blk [] [(KB y pp qq N M,H)]) (fun i o h=>by rw [← Mem.bh];exact xI _ _ _ i o h) ?_
 refine qw0 ?_
 refine bp [0,1,2,3,9,10,11] (fun k s'=>∃ (i c:Nat) (s:St) (cwd:Str) (H:Oid→ah),s' = ⟨[(0,.list 5 (l.map gx)),(1,.list 6 (ms.map Mm.av)),(2,.str key),(3,.int .u8 kk.toNat),(9,.bool true),(10,.ptr y 0),(11,.int .i64 i)],Mem.blk [] [(KB y pp qq N M,H)],c,[]⟩∧k=l.length - i∧i≤l.length∧i≤8∧4≤c∧dZ y st pp r qq s cwd 0 i N M H∧jC x.p c (KB y pp qq N M)) _ ⟨0,_,_,_,_,rfl,rfl,Nat.zero_le _,by omega,by omega,hPK,hO.mono (by omega)⟩ ?_
 clear hPK hO H
 rintro k s' ⟨i,c,s,cwd,H,rfl,rfl,hi,hi2,hc,hPK,hO⟩
 (try ((first|refine zn ?_|refine ze ?_|refine zk ?_);with_reducible (constructor;repeat constructor));try refine zl ?_)
 refine cu [0,1,2,3,9,10,11,26] (fun s'=>∃ c':Nat,s' = ⟨[(0,.list 5 (l.map gx)),(1,.list 6 (ms.map Mm.av)),(2,.str key),(3,.int .u8 kk.toNat),(9,.bool true),(10,.ptr y 0),(11,.int .i64 i),(26,.bool (decide (i < l.length∧i < 8)))],Mem.blk [] [(KB y pp qq N M,H)],c',[]⟩∧c≤c') ?_ ?_
 ·refine ar nmd [(4,23)] hng (by kernel_rfl) fun hf C S K hC1 hC hS hK=>?_;simp (disch:=first|omega|assumption) only [go_sem,List.length_map]
  (repeat' (first|(refine bJ (fun hv=>?_) (fun hv=>?_)<;>(try simp only [zb1,zb2,zb3,zb4,zb5] at hv)<;>simp (disch:=first|omega|assumption) only [go_sem,hv,List.length_map])|(refine hK ?_;clear hK hS hC hC1 K S C hf)))
  ·rw [show decide (i < l.length∧i < 8)=decide ((i:Int) < 8) from decide_eq_decide.2 (by omega)]
   exact aM ⟨_,rfl,by omega⟩
  ·rw [show decide (i < l.length∧i < 8)=false from decide_eq_false (by omega)]
   exact aM ⟨_,rfl,by omega⟩
 rintro s' ⟨c',rfl,hc'⟩
 refine aK rfl rfl (fun hb=>?_) (fun hb=>?_)
 ·have hlt:i < l.length:=hb.1
  generalize hg:l.getD i default=g
  obtain ⟨a,b,b2,k,raw⟩:=g
  by_cases hr:100 < raw.length
  ·have hr3:(100:Int) < (raw.length:Int):=by omega
   (try ((first|refine zn ?_|refine ze ?_|refine zk ?_);with_reducible (constructor;repeat constructor));try refine zl ?_)
   refine ar nmd [(7,36)] hng (by kernel_rfl) fun hf C S K hC1 hC hS hK=>?_;simp (disch:=first|omega|assumption) only [go_sem,hg,gx,AV.cells,List.length_map,hr3,decide_true,decide_false,ne_eq,not_true_eq_false,not_false_eq_true]
   refine hK ?_;clear hK hS hC hC1 K S C hf
   refine qw hr3 ?_
   refine ar nmd [(7,52)] hng (by kernel_rfl) fun hf C S K hC1 hC hS hK=>?_;simp (disch:=first|omega|assumption) only [go_sem,hg,gx,AV.cells,List.length_map,hr3,decide_true,decide_false,ne_eq,not_true_eq_false,not_false_eq_true]
   refine hK ?_;clear hK hS hC hC1 K S C hf
   refine qw0 ?_
   exact ay (bS rfl)
  have hr3:¬ (100:Int) < (raw.length:Int):=by omega
  have hD:=qZ hPK (by omega) b b2 k raw (by omega) (p:=.sub c' 13 x.p) (ax rfl hp) (hO.sub (by omega) 13) a
  unfold CG at hD
  simp only [gx] at hD
  (try ((first|refine zn ?_|refine ze ?_|refine zk ?_);with_reducible (constructor;repeat constructor));try refine zl ?_)
  refine ar nmd [(7,36)] hng (by kernel_rfl) fun hf C S K hC1 hC hS hK=>?_;simp (disch:=first|omega|assumption) only [go_sem,hg,gx,AV.cells,List.length_map,hr3,decide_true,decide_false,ne_eq,not_true_eq_false,not_false_eq_true]
  refine hC _ _ _ hD (by show ∀ q,q ∈ bk _→_;rw [jE];trivial) ?_ (fun _ _ h=>h.elim)
  rintro _ _ ⟨rfl,s',cwd',H',hPK',rfl⟩
  simp (disch:=first|omega|assumption) only [go_sem,decide_true,decide_false,ne_eq,not_true_eq_false,not_false_eq_true]
  refine hK ?_;clear hK hS hC hC1 K S C hf
  refine qw0 ?_
  exact ⟨_,_,by omega,fun i o h=>h,i+1,_,_,_,_,rfl,rfl,by omega,by omega,by omega,hPK',hO.mono (by omega)⟩
 clear hb hi hi2 hl
 refine qw0 ?_
 refine bp [1,2,3,9,10,12] (fun k s'=>∃ (j d:Nat),s' = ⟨[(1,.list 6 (ms.map Mm.av)),(2,.str key),(3,.int .u8 kk.toNat),(9,.bool true),(10,.ptr y 0),(12,.int .i64 j)],Mem.blk [] [(KB y pp qq N M,H)],d,[]⟩∧k=ms.length - j∧j≤ms.length∧j≤8∧c≤d∧∀ t,t < j→jO (ms.getD t default)≤500) _ ⟨0,_,rfl,rfl,Nat.zero_le _,by omega,by omega,fun t ht=>absurd ht (Nat.not_lt_zero _)⟩ ?_
 rintro k s' ⟨j,d,rfl,rfl,hj,hj8,hcd,hsm⟩
 (repeat (first|(refine aB rfl rfl ?_)|(refine aC rfl rfl ?_)|(refine ar nmd [] hng (by kernel_rfl) fun hf C S K hC1 hC hS hK=>?_;simp (disch:=first|omega|assumption) only [go_sem,List.length_map];refine hK ?_;clear hK hS hC hC1 K S C hf)|((first|refine zn ?_|refine ze ?_|refine zk ?_);with_reducible (constructor;repeat constructor);try refine zl ?_)))
 refine aK rfl rfl (fun hb=>?_) (fun hb=>?_)
 ·have hlt:j < ms.length:=by omega
  have hgm:ms.getD j default ∈ ms:=by rw [bG hlt];exact List.getElem_mem _
  have hin:=hms _ hgm
  have hSm:=fun p=>zS _ hin.k hin.o hin.e hin.rl hin.wl hin.r hin.w p
  clear hgm hin
  by_cases h5:jO (ms.getD j default)≤500
  case neg =>
   rw [decide_eq_false h5] at hSm
   clear h5
   generalize hg:ms.getD j default=g at hSm
   obtain ⟨gk,gr,gw,gs,go,ge⟩:=g
   simp only [Mm.av] at hSm
   (try ((first|refine zn ?_|refine ze ?_|refine zk ?_);with_reducible (constructor;repeat constructor));try refine zl ?_)
   refine ar nmd [(6,67)] hng (by kernel_rfl) fun hf C S K hC1 hC hS hK=>?_;simp (disch:=first|omega|assumption) only [go_sem,hg,hlt,Mm.av,AV.cells,List.length_map,decide_true,decide_false,ne_eq,not_true_eq_false,not_false_eq_true]
   refine hC1 _ (hSm _) (fun _ h=>by cases h) ?_
   simp (disch:=first|omega|assumption) only [go_sem,decide_true,decide_false,ne_eq,not_true_eq_false,not_false_eq_true]
   refine hK ?_;clear hK hS hC hC1 K S C hf
   refine qw0 ?_
   exact ay (bS rfl)
  rw [decide_eq_true h5] at hSm
  generalize hg:ms.getD j default=g at hSm h5
  obtain ⟨gk,gr,gw,gs,go,ge⟩:=g
  simp only [Mm.av] at hSm
  by_cases h8:j < 8
  case neg =>
   have h8':(8:Int)≤(j:Int):=by omega
   (try ((first|refine zn ?_|refine ze ?_|refine zk ?_);with_reducible (constructor;repeat constructor));try refine zl ?_)
   refine ar nmd [(6,67)] hng (by kernel_rfl) fun hf C S K hC1 hC hS hK=>?_;simp (disch:=first|omega|assumption) only [go_sem,hg,hlt,h8',Mm.av,AV.cells,List.length_map,decide_true,decide_false,ne_eq,not_true_eq_false,not_false_eq_true]
   refine hC1 _ (hSm _) (fun _ h=>by cases h) ?_
   simp (disch:=first|omega|assumption) only [go_sem,h8',decide_true,decide_false,ne_eq,not_true_eq_false,not_false_eq_true]
   refine hK ?_;clear hK hS hC hC1 K S C hf
   refine qw0 ?_
   exact ay (bS rfl)
  have h8':¬ (8:Int)≤(j:Int):=by omega
  (try ((first|refine zn ?_|refine ze ?_|refine zk ?_);with_reducible (constructor;repeat constructor));try refine zl ?_)
  refine ar nmd [(6,67)] hng (by kernel_rfl) fun hf C S K hC1 hC hS hK=>?_;simp (disch:=first|omega|assumption) only [go_sem,hg,hlt,h8',Mm.av,AV.cells,List.length_map,decide_true,decide_false,ne_eq,not_true_eq_false,not_false_eq_true]
  refine hC1 _ (hSm _) (fun _ h=>by cases h) ?_
  simp (disch:=first|omega|assumption) only [go_sem,h8',decide_true,decide_false,ne_eq,not_true_eq_false,not_false_eq_true]
  refine hK ?_;clear hK hS hC hC1 K S C hf
  refine qw0 ?_
  exact ⟨_,_,by omega,fun i o h=>h,j+1,_,rfl,rfl,by omega,by omega,by omega,fun t ht=>by
   by_cases e:t=j
   ·subst e;rw [hg];exact h5
   ·exact hsm t (by omega)⟩
 have hjl:j=ms.length:=by omega
 have hall:∀ m ∈ ms,jO m≤500:=fun m hm=>by
  obtain ⟨t,ht,rfl⟩:=List.getElem_of_mem hm
  have:=hsm t (by omega)
  rw [bG ht] at this;exact this
 have hms8:ms.length≤8:=by omega
 clear hsm hb hjl hj hj8 hms hml
 refine qw0 ?_
 refine cu [1,2,9,10] (fun s'=>∃ (key':Str) (d':Nat),s' = ⟨[(1,.list 6 (ms.map Mm.av)),(2,.str key'),(9,.bool true),(10,.ptr y 0)],Mem.blk [] [(KB y pp qq N M,H)],d',[]⟩∧c≤d') ?_ ?_
 ·(repeat (first|(refine aB rfl rfl ?_)|(refine aC rfl rfl ?_)|(refine ar nmd [] hng (by kernel_rfl) fun hf C S K hC1 hC hS hK=>?_;simp (disch:=first|omega|assumption) only [go_sem,List.length_map];refine hK ?_;clear hK hS hC hC1 K S C hf)|((first|refine zn ?_|refine ze ?_|refine zk ?_);with_reducible (constructor;repeat constructor);try refine zl ?_)))
  refine aK rfl rfl (fun hb=>?_) (fun hb=>?_)
  ·have hne:¬ (ms.length:Int)=0:=by omega
   have e1:((kk.toNat:Int)).tmod (ms.length:Int)=((kk.toNat % ms.length:Nat):Int):=cx _ _
   have hmod:kk.toNat % ms.length < ms.length:=Nat.mod_lt _ (by omega)
   generalize hg:ms.getD (kk.toNat % ms.length) default=g
   obtain ⟨gk,gr,gw,gs,go,ge⟩:=g
   (try ((first|refine zn ?_|refine ze ?_|refine zk ?_);with_reducible (constructor;repeat constructor));try refine zl ?_)
   refine ar nmd [] hng (by kernel_rfl) fun hf C S K hC1 hC hS hK=>?_;simp (disch:=first|omega|assumption) only [go_sem,lj,hne,e1,hmod,hg,Mm.av,AV.cells,List.length_map,decide_true,decide_false,ne_eq,not_true_eq_false,not_false_eq_true]
   refine hK ?_;clear hK hS hC hC1 K S C hf
   (try ((first|refine zn ?_|refine ze ?_|refine zk ?_);with_reducible (constructor;repeat constructor));try refine zl ?_)
   exact aM ⟨gk,_,rfl,by omega⟩
  ·(try ((first|refine zn ?_|refine ze ?_|refine zk ?_);with_reducible (constructor;repeat constructor));try refine zl ?_)
   exact aM ⟨key,_,rfl,by omega⟩
 rintro s' ⟨key',d',rfl,hd'⟩
 have hyN:=hPK.ap.yN;have hyM:=hPK.ap.yM;have hpN:=hPK.ap.pN;have hpM:=hPK.ap.pM;have hqN:=hPK.ap.qN;have hqM:=hPK.ap.qM;have hdj:=hPK.ap.dj;have hcy:=hPK.cy;have hcp:=hPK.cp;have hcq:=hPK.cq
 obtain ⟨hF,hR⟩:=ri hPK ms key' (by omega) (fun m hm=>Db (hall m hm))
 generalize ki s.L ms key' = z at hF hR
 have hON:jC x.p c N:=fun j hj h=>hO j (by simp [hj]) h
 have hOM:jC x.p c M:=fun j hj h=>hO j (by simp [hj]) h
 clear hPK hO hall
 unfold prC at hcp hcq
 rw [o9,hcy,hcp,hcq]
 (try ((first|refine zn ?_|refine ze ?_|refine zk ?_);with_reducible (constructor;repeat constructor));try refine zl ?_)
 refine bN nmd [(1,85)] [(8,14)] mixed hng (by kernel_rfl) [8] fun hf C S K hC hS hK=>?_;simp (disch:=first|omega|assumption) only [go_sem,eq_self,decide_true,decide_false,ne_eq,not_true_eq_false,not_false_eq_true]
 refine hC _ (hF _ (ax rfl hp) (hON.sub (by omega) _)) (by exact wj (by simp [hyN,hpN,hqN]) _) ?_
 simp (disch:=first|omega|assumption) only [go_sem,eq_self,decide_true,decide_false,ne_eq,not_true_eq_false,not_false_eq_true]
 refine hC _ (hR _ (hOM.sub (by omega) _)) (by exact zH (by simp [hyM,hpM,hqM]) hdj _) ?_
 simp (disch:=first|omega|assumption) only [go_sem,eq_self,decide_true,decide_false,ne_eq,not_true_eq_false,not_false_eq_true]
 (first|refine hK (aG rfl) ?_|refine hK (by simp (disch:=first|omega|assumption) only [go_sem,List.reverse_cons,List.reverse_nil,ne_eq,not_false_eq_true,implies_true]) ?_);clear hK hS hC K S C hf
 refine qw0 ?_
 exact ay (bS rfl)
end Go.Proofs.YtpficjpdfbiedaaGreatDoor
namespace Go.Proofs.YtpficjpdfbiedaaGreatDoor
open Go Go.Ab
set_option maxRecDepth 20000
set_option maxHeartbeats 4000000
def kyM:List Str:=[[97],[98]]
def plM:List Str:=[[47,97],[47,98],[47,97,47,98],[],[47,108]]
def vlM:List Str:=[[],[48,58,44],[49,58,49,44,49,58,54,44,51,58,120,121,122,44],[49,58,97,44],[49,58,50,44,49,58,55,44,48,58,44]]
def enM (b:UInt8):Mm:=⟨kyM.getD (b.toNat % 2) [],[((plM.getD (b.toNat / 2 % 5) [],decide ((200:Int)≤(b.toNat:Int))),vlM.getD (b.toNat / 16 % 5) [])],[],0,[],[]⟩
def avN (m:Mm):AV:=.agg [.str m.key,.list 3 (m.rd.map aS),.nilSl,.int .i64 m.st,.str m.out,.str m.err]
theorem wE:∀ l:List UInt8,ln ((l.map enM).map avN) ((l.map enM).map Mm.av)
 | []=>.nil
 | b::l=>.cons (vn.agg (.cons (.refl _) (.cons (.refl _) (.cons (gj.nil 3) (.cons (.refl _) (.cons (.refl _) (.cons (.refl _) .nil))))))) (wE l)
theorem lP {l:List Str} {i:Nat} (h:i < l.length) (d:AV):(l.map AV.str).getD i d = .str (l.getD i []):=by
 simp [List.getD_eq_getElem?_getD,List.getElem?_map,List.getElem?_eq_getElem h]
theorem Dc {n:Nat} (h:n < 256):IntKind.i64.wrap (IntKind.u8.wrap (n:Int))=(n:Int):=by
 rw [Ga,A9,UInt8.toNat_ofNat']
 omega
theorem Dd {l:List UInt8} {i:Nat} (h:i < l.length) (d:AV):(l.map byA).getD i d = .int .u8 ((l.getD i 0).toNat:Int):=by
 simp [List.getD_eq_getElem?_getD,List.getElem?_map,List.getElem?_eq_getElem h,byA]
theorem FH (i:Nat):(plM.getD i []).length≤4:=by
 match i with
 | 0=>decide
 | 1=>decide
 | 2=>decide
 | 3=>decide
 | 4=>decide
 | i+5=>exact Nat.zero_le _
theorem FI (l:List UInt8):∀ m ∈ l.map enM,m.rd.length≤4000000000∧∀ h ∈ m.rd,h.1.1.length≤140737488355000:=fun m hm=>by
 obtain ⟨b,_,rfl⟩:=List.mem_map.1 hm
 refine ⟨by show 1≤_;omega,fun h hh=>?_⟩
 rw [List.mem_singleton.1 hh]
 have:=FH (b.toNat / 2 % 5)
 show (plM.getD (b.toNat / 2 % 5) []).length≤_;omega
theorem zT {b:Oid} {ob:ah} {K:List Oid} {H:Oid→ah} (hb:b ∉ K) (i:Oid) (o:ah) (h:Mem.blk [] [(K,H)] i=some o):Mem.blk [(b,ob)] [(K,H)] i=some o:=by
 rw [Mem.dT]
 split
 ·rename_i e
  subst e
  rw [bu,if_neg hb] at h
  cases h
 ·exact h
theorem zU {a b:Oid} {oa ob:ah} {K:List Oid} {H:Oid→ah} (ha:a ∉ K) (hab:¬ a=b) (i:Oid) (o:ah) (h:Mem.blk [(b,ob)] [(K,H)] i=some o):Mem.blk [(a,oa),(b,ob)] [(K,H)] i=some o:=by
 rw [Mem.dT]
 split
 ·rename_i e
  subst e
  rw [Mem.dT,if_neg hab,bu,if_neg ha] at h
  cases h
 ·exact h
theorem many19_ok (l:List ActK) (hl:l.length≤140737488355328) (bs:List UInt8) (hbl:bs.length≤140737488355328) (kk:UInt8) (p:Oid) (hp:p.mono=false):aj Tryz.prog 7 [.list 5 (l.map gx),.list 1 (bs.map byA),.int .u8 kk.toNat] (Oid.under p) ⟨[],.bool true,[]⟩:=by
 refine aA (n:=133) (rs:=[.tmp 6]) Tryz.func7 rfl rfl (by decide) rfl rfl rfl ?_;rintro x rfl hrd hng
 (repeat (first|(refine aB rfl rfl ?_)|(refine aC rfl rfl ?_)|(refine ar nmd [] hng (by kernel_rfl) fun hf C S K hC1 hC hS hK=>?_;simp (disch:=first|omega|assumption) only [go_sem];(repeat ((first|refine hC1 _ (px _ (ax rfl hp)) (by simp (disch:=first|omega|assumption) only [go_sem]) ?_);simp (disch:=first|omega|assumption) only [go_sem]));refine hK ?_;clear hK hS hC hC1 K S C hf)|((first|refine zn ?_|refine ze ?_|refine zk ?_);with_reducible (constructor;repeat constructor);try refine zl ?_)))
 obtain ⟨y,st,pp,r,qq,N,M,H,hPK,hun,hB⟩:=uD 0 (.sub 3 0 x.p) (ax rfl hp)
 have hO:=CL hun
 clear hun
 rw [show dL 0 7=0 from rfl] at hPK
 refine qr1 hB ?_
 clear hB
 (try ((first|refine zn ?_|refine ze ?_|refine zk ?_);with_reducible (constructor;repeat constructor));try refine zl ?_)
 refine vc (Mem.blk [] [(KB y pp qq N M,H)]) (fun i o h=>by rw [← Mem.bh];exact xI _ _ _ i o h) ?_
 refine qw0 ?_
 refine bp [0,1,2,7,8,9] (fun k s'=>∃ (i c:Nat) (s:St) (cwd:Str) (H:Oid→ah),s' = ⟨[(0,.list 5 (l.map gx)),(1,.list 1 (bs.map byA)),(2,.int .u8 kk.toNat),(7,.bool true),(8,.ptr y 0),(9,.int .i64 i)],Mem.blk [] [(KB y pp qq N M,H)],c,[]⟩∧k=l.length - i∧i≤l.length∧i≤8∧4≤c∧dZ y st pp r qq s cwd 0 i N M H∧jC x.p c (KB y pp qq N M)) _ ⟨0,_,_,_,_,rfl,rfl,Nat.zero_le _,by omega,by omega,hPK,hO.mono (by omega)⟩ ?_
 clear hPK hO H
 rintro k s' ⟨i,c,s,cwd,H,rfl,rfl,hi,hi2,hc,hPK,hO⟩
 (try ((first|refine zn ?_|refine ze ?_|refine zk ?_);with_reducible (constructor;repeat constructor));try refine zl ?_)
 refine cu [0,1,2,7,8,9,31] (fun s'=>∃ c':Nat,s' = ⟨[(0,.list 5 (l.map gx)),(1,.list 1 (bs.map byA)),(2,.int .u8 kk.toNat),(7,.bool true),(8,.ptr y 0),(9,.int .i64 i),(31,.bool (decide (i < l.length∧i < 8)))],Mem.blk [] [(KB y pp qq N M,H)],c',[]⟩∧c≤c') ?_ ?_
 ·refine ar nmd [(4,28)] hng (by kernel_rfl) fun hf C S K hC1 hC hS hK=>?_;simp (disch:=first|omega|assumption) only [go_sem,List.length_map]
  (repeat' (first|(refine bJ (fun hv=>?_) (fun hv=>?_)<;>(try simp only [zb1,zb2,zb3,zb4,zb5] at hv)<;>simp (disch:=first|omega|assumption) only [go_sem,hv,List.length_map])|(refine hK ?_;clear hK hS hC hC1 K S C hf)))
  ·rw [show decide (i < l.length∧i < 8)=decide ((i:Int) < 8) from decide_eq_decide.2 (by omega)]
   exact aM ⟨_,rfl,by omega⟩
  ·rw [show decide (i < l.length∧i < 8)=false from decide_eq_false (by omega)]
   exact aM ⟨_,rfl,by omega⟩
 rintro s' ⟨c',rfl,hc'⟩
 refine aK rfl rfl (fun hb=>?_) (fun hb=>?_)
 ·have hlt:i < l.length:=hb.1
  generalize hg:l.getD i default=g
  obtain ⟨a,b,b2,k,raw⟩:=g
  have hD:=qZ hPK (by omega) (b % 16) (b2 % 16) k [] (by decide) (p:=.sub (c' + 1+1) 2 x.p) (ax rfl hp) (hO.sub (by omega) 2) (a % 128)
  unfold CG at hD
  simp only [gx] at hD
  have py:Oid.sub c' 4 x.p ∉ KB y pp qq N M:=hO.mem (by omega)
  (try ((first|refine zn ?_|refine ze ?_|refine zk ?_);with_reducible (constructor;repeat constructor));try refine zl ?_)
  refine ar nmd [] hng (by kernel_rfl) fun hf C S K hC1 hC hS hK=>?_;simp (disch:=first|omega|assumption) only [go_sem,hg,hlt,gx,AV.cells,List.length_map,py,decide_true,decide_false,ne_eq,not_true_eq_false,not_false_eq_true]
  refine hK ?_;clear hK hS hC hC1 K S C hf
  refine qr .o py trivial ?_
  refine ar nmd [] hng (by kernel_rfl) fun hf C S K hC1 hC hS hK=>?_;simp (disch:=first|omega|assumption) only [go_sem,py,decide_true,decide_false,ne_eq,not_true_eq_false,not_false_eq_true]
  refine hC _ _ _ hD (by exact wj (fun e he=>by rw [List.mem_singleton.1 he];exact py) _) ?_ (fun _ _ h=>h.elim)
  rintro _ _ ⟨rfl,s',cwd',H',hPK',rfl⟩
  simp (disch:=first|omega|assumption) only [go_sem,py,decide_true,decide_false,ne_eq,not_true_eq_false,not_false_eq_true]
  refine hK ?_;clear hK hS hC hC1 K S C hf
  refine qw0 ?_
  exact ⟨_,_,by omega,zT py,i+1,_,_,_,_,rfl,rfl,by omega,by omega,by omega,hPK',hO.mono (by omega)⟩
 clear hb hi hi2 hl
 refine qw0 ?_
 refine l4 13 6 rfl ?_
 refine qw0 ?_
 refine bp [1,2,7,8,11,12,13,14] (fun q s'=>∃ (j d e f:Nat),s' = ⟨[(1,.list 1 (bs.map byA)),(2,.int .u8 kk.toNat),(7,.bool true),(8,.ptr y 0),(11,.list 1 (kyM.map AV.str)),(12,.list 1 (plM.map AV.str)),(13,.sl (.sub e f x.p) 6 j),(14,.int .i64 j)],Mem.blk [(.sub e f x.p,.arr 6 (((bs.take j).map enM).map avN))] [(KB y pp qq N M,H)],d,[]⟩∧q=bs.length - j∧j≤bs.length∧j≤12∧c≤e∧e < d) _ ⟨0,_,_,0,rfl,rfl,Nat.zero_le _,by omega,by omega,by omega⟩ ?_
 rintro k s' ⟨j,d,e,f,rfl,rfl,hj,hj12,hce,hed⟩
 (try ((first|refine zn ?_|refine ze ?_|refine zk ?_);with_reducible (constructor;repeat constructor));try refine zl ?_)
 refine cu [1,2,7,8,11,12,13,14,64] (fun s'=>∃ d':Nat,s' = ⟨[(1,.list 1 (bs.map byA)),(2,.int .u8 kk.toNat),(7,.bool true),(8,.ptr y 0),(11,.list 1 (kyM.map AV.str)),(12,.list 1 (plM.map AV.str)),(13,.sl (.sub e f x.p) 6 j),(14,.int .i64 j),(64,.bool (decide (j < bs.length∧j < 12)))],Mem.blk [(.sub e f x.p,.arr 6 (((bs.take j).map enM).map avN))] [(KB y pp qq N M,H)],d',[]⟩∧d≤d') ?_ ?_
 ·refine ar nmd [(4,61)] hng (by kernel_rfl) fun hf C S K hC1 hC hS hK=>?_;simp (disch:=first|omega|assumption) only [go_sem,List.length_map]
  (repeat' (first|(refine bJ (fun hv=>?_) (fun hv=>?_)<;>(try simp only [zb1,zb2,zb3,zb4,zb5] at hv)<;>simp (disch:=first|omega|assumption) only [go_sem,hv,List.length_map])|(refine hK ?_;clear hK hS hC hC1 K S C hf)))
  ·rw [show decide (j < bs.length∧j < 12)=decide ((j:Int) < 12) from decide_eq_decide.2 (by omega)]
   exact aM ⟨_,rfl,by omega⟩
  ·rw [show decide (j < bs.length∧j < 12)=false from decide_eq_false (by omega)]
   exact aM ⟨_,rfl,by omega⟩
 rintro s' ⟨d',rfl,hd'⟩
 refine aK rfl rfl (fun hb=>?_) (fun hb=>?_)
 ·have hlt:j < bs.length:=hb.1
  have gB:=Dd (l:=bs) (i:=j) hlt AV.undef
  have htk:((bs.take (j+1)).map enM).map avN=((bs.take j).map enM).map avN++[avN (enM (bs.getD j 0))]:=by
   rw [List.take_add_one,List.getElem?_eq_getElem hlt,List.map_append,List.map_append,List.getD_eq_getElem?_getD,List.getElem?_eq_getElem hlt];rfl
  generalize bs.getD j 0=b at gB htk
  have q2:((b.toNat:Int)).tdiv 2=((b.toNat / 2:Nat):Int):=rfl
  have q16:((b.toNat:Int)).tdiv 16=((b.toNat / 16:Nat):Int):=rfl
  have hb8:=b.toNat_lt
  have w2:=Dc (n:=b.toNat / 2) (by omega)
  have w16:=Dc (n:=b.toNat / 16) (by omega)
  have r5:((b.toNat / 2:Nat):Int).tmod 5=((b.toNat / 2 % 5:Nat):Int):=cx _ 5
  have r16:((b.toNat / 16:Nat):Int).tmod 5=((b.toNat / 16 % 5:Nat):Int):=cx _ 5
  have r2:((b.toNat:Int)).tmod 2=((b.toNat % 2:Nat):Int):=cx _ 2
  have l5:b.toNat / 2 % 5 < 5:=Nat.mod_lt _ (by decide)
  have l16:b.toNat / 16 % 5 < 5:=Nat.mod_lt _ (by decide)
  have l2:b.toNat % 2 < 2:=Nat.mod_lt _ (by decide)
  have g5:=lP (l:=plM) l5 AV.undef
  have g2:=lP (l:=kyM) l2 AV.undef
  have g16:([AV.str [],AV.str [48,58,44],AV.str [49,58,49,44,49,58,54,44,51,58,120,121,122,44],AV.str [49,58,97,44],AV.str [49,58,50,44,49,58,55,44,48,58,44]]:List AV).getD (b.toNat / 16 % 5) AV.undef = .str (vlM.getD (b.toNat / 16 % 5) []):=lP (l:=vlM) l16 AV.undef
  have hpl:plM.length=5:=rfl
  have hkl:kyM.length=2:=rfl
  (try ((first|refine zn ?_|refine ze ?_|refine zk ?_);with_reducible (constructor;repeat constructor));try refine zl ?_)
  refine ar nmd [] hng (by kernel_rfl) fun hf C S K hC1 hC hS hK=>?_;simp (disch:=first|omega|assumption) only [go_sem,lj,gB,q2,w2,r5,l5,g5,hpl,hlt,List.length_map]
  refine hK ?_;clear hK hS hC hC1 K S C hf
  (try ((first|refine zn ?_|refine ze ?_|refine zk ?_);with_reducible (constructor;repeat constructor));try refine zl ?_)
  refine bN nmd [] [(4,6),(6,10),(4,17),(6,17),(10,17),(15,17)] mixed hng (by kernel_rfl) [1,2,7,8,11,12,13,14,16] fun hf C S K hC hS hK=>?_;simp (disch:=first|omega|assumption) only [go_sem,lj,gB,q16,w16,r16,l16,g16,hlt,List.length_map]
  (first|refine hK (aG rfl) ?_|refine hK (by simp (disch:=first|omega|assumption) only [go_sem,List.reverse_cons,List.reverse_nil,ne_eq,not_false_eq_true,implies_true]) ?_);clear hK hS hC K S C hf
  (try ((first|refine zn ?_|refine ze ?_|refine zk ?_);with_reducible (constructor;repeat constructor));try refine zl ?_)
  have hal:(((bs.take j).map enM).map avN).length=j:=by simp;omega
  generalize ((bs.take j).map enM).map avN=A at htk hal
  refine bN nmd [] [(5,11),(9,11)] mixed hng (by kernel_rfl) [1,2,7,8,11,12,13,14] fun hf C S K hC hS hK=>?_;simp (disch:=first|omega|assumption) only [go_sem,lj,gB,r2,l2,g2,hkl,hal,hlt,List.length_map]
  (first|refine hK (aG rfl) ?_|refine hK (by simp (disch:=first|omega|assumption) only [go_sem,List.reverse_cons,List.reverse_nil,ne_eq,not_false_eq_true,implies_true]) ?_);clear hK hS hC K S C hf
  refine qw0 ?_
  have hef:Oid.sub e f x.p ∉ KB y pp qq N M:=hO.mem hce
  rw [rW hef]
  exact ⟨_,_,by omega,zU (hO.mem (by omega)) (by simp),j+1,d' + 1+1+1+1,d' + 1+1,14,by rw [htk];rfl,rfl,by omega,by omega,by omega,by omega⟩
 clear hb
 have hal:(((bs.take j).map enM).map avN).length=j:=by simp;omega
 have hef:Oid.sub e f x.p ∉ KB y pp qq N M:=hO.mem hce
 have hbk:=kk.toNat_lt
 have r2:((kk.toNat:Int)).tmod 2=((kk.toNat % 2:Nat):Int):=cx _ 2
 have l2:kk.toNat % 2 < 2:=Nat.mod_lt _ (by decide)
 have g2:=lP (l:=kyM) l2 AV.undef
 have hkl:kyM.length=2:=rfl
 have hyN:=hPK.ap.yN;have hyM:=hPK.ap.yM;have hpN:=hPK.ap.pN;have hpM:=hPK.ap.pM;have hqN:=hPK.ap.qN;have hqM:=hPK.ap.qM;have hdj:=hPK.ap.dj;have hcy:=hPK.cy;have hcp:=hPK.cp;have hcq:=hPK.cq
 obtain ⟨hF,hR⟩:=ri hPK ((bs.take j).map enM) (kyM.getD (kk.toNat % 2) []) (by simp;omega) (FI _)
 have hF':=fun p hp ho=>(hF p hp ho).rH (.cons (gj.list (wE (bs.take j))) (.cons (.refl _) (.cons (.refl _) .nil)))
 have hR':=fun p ho=>(hR p ho).rH (.cons (gj.list (wE (bs.take j))) (.cons (.refl _) (.cons (.refl _) .nil)))
 generalize ki s.L ((bs.take j).map enM) (kyM.getD (kk.toNat % 2) [])=z at hF' hR'
 clear hF hR
 generalize ((bs.take j).map enM).map avN=A at hal hF' hR' ⊢
 have hON:jC x.p c N:=fun j hj h=>hO j (by simp [hj]) h
 have hOM:jC x.p c M:=fun j hj h=>hO j (by simp [hj]) h
 clear hPK
 unfold prC at hcp hcq
 (try ((first|refine zn ?_|refine ze ?_|refine zk ?_);with_reducible (constructor;repeat constructor));try refine zl ?_)
 (refine gR (.sub e f x.p) _ _ (by simp (disch:=first|omega|assumption) only [go_sem];rfl) ?_;simp (disch:=first|omega|assumption) only [go_sem])
 simp (disch:=first|omega|assumption) only [go_sem,hal,hef]
 refine ar nmd [] hng (by kernel_rfl) fun hf C S K hC1 hC hS hK=>?_;simp (disch:=first|omega|assumption) only [go_sem,lj,r2,l2,g2,hkl,List.length_map]
 refine hK ?_;clear hK hS hC hC1 K S C hf
 rw [o9,hcy,hcp,hcq]
 (try ((first|refine zn ?_|refine ze ?_|refine zk ?_);with_reducible (constructor;repeat constructor));try refine zl ?_)
 refine bN nmd [(1,116)] [(8,14)] mixed hng (by kernel_rfl) [6] fun hf C S K hC hS hK=>?_;simp (disch:=first|omega|assumption) only [go_sem,eq_self,decide_true,decide_false,ne_eq,not_true_eq_false,not_false_eq_true]
 refine hC _ (hF' _ (ax rfl hp) (hON.sub (by omega) _)) (by exact wj (by simp [hyN,hpN,hqN]) _) ?_
 simp (disch:=first|omega|assumption) only [go_sem,eq_self,decide_true,decide_false,ne_eq,not_true_eq_false,not_false_eq_true]
 refine hC _ (hR' _ (hOM.sub (by omega) _)) (by exact zH (by simp [hyM,hpM,hqM]) hdj _) ?_
 simp (disch:=first|omega|assumption) only [go_sem,eq_self,decide_true,decide_false,ne_eq,not_true_eq_false,not_false_eq_true]
 (first|refine hK (aG rfl) ?_|refine hK (by simp (disch:=first|omega|assumption) only [go_sem,List.reverse_cons,List.reverse_nil,ne_eq,not_false_eq_true,implies_true]) ?_);clear hK hS hC K S C hf
 refine qw0 ?_
 exact ay (bS rfl)
end Go.Proofs.YtpficjpdfbiedaaGreatDoor
namespace Go.Proofs.YtpficjpdfbiedaaGreatDoor
open Go Go.Ab
set_option maxRecDepth 100000
theorem c_str:Tryz.prog.cellsOf 9=1:=by kernel_rfl
theorem De:Tryz.prog.cellsOf 4=1:=by kernel_rfl
theorem Df:Tryz.prog.cellsOf 3=1:=by kernel_rfl
theorem Dg:Tryz.prog.cellsOf 57=3:=by kernel_rfl
theorem Jc:Tryz.prog.bytesOf 57=40:=by kernel_rfl
theorem Im:Rd Tryz.prog 57 aS (fun t=>t.1.1.length≤reachBytes∧t.2.length≤reachBytes) :=
 (jW Tryz.underlying57 (by kernel_rfl) (cz rfl (rd_str Tryz.underlying9 c_str) (cz (by rw [c_str]) (DO Tryz.underlying4 De) (cz (by rw [c_str,De]) (rd_str Tryz.underlying9 c_str) (nA _))))).map
  (fun p=>((p.1,p.2.1),p.2.2.1)) (fun _ _=>rfl) (fun _=>Dg.symm) (fun _ h=>⟨h.1,h.2.2.1⟩)
theorem sH:Tryz.prog.cellsOf 27=1:=by kernel_rfl
theorem xR:Rd Tryz.prog 27 (fun l:List Tch=>.list 3 (l.map aS)) (fun l=>l.length≤140737488355328∧∀ t ∈ l,t.1.1.length≤140737488355328∧t.2.length≤140737488355328) :=
 (lp Tryz.underlying27 sH (by rw [Dg];decide) Im).map id (fun _ _=>by rw [Dg];rfl) (fun _=>sH.symm) (fun l h=>by
  have h1:=h.1
  rw [Jc] at h1
  have h2:=h.2
  unfold reachBytes at h1 h2
  refine ⟨?_,fun t ht=>?_⟩
  ·show l.length≤_;omega
  ·have:=h2 t ht;omega)
theorem Jd:Tryz.prog.cellsOf 29=3:=by kernel_rfl
theorem Io:Rd Tryz.prog 29 (fun r:Int × Str × Str=>.agg [.int .i64 r.1,.str r.2.1,.str r.2.2]) (fun r=>(Lit.int IntKind.i64 r.1).wf=true∧r.2.1.length≤reachBytes∧r.2.2.length≤reachBytes) :=
 (jW Tryz.underlying29 (by kernel_rfl) (cz rfl (Bb Tryz.underlying3 Df) (cz (by rw [Df]) (rd_str Tryz.underlying9 c_str) (cz (by rw [Df,c_str]) (rd_str Tryz.underlying9 c_str) (nA _))))).map
  (fun p=>(p.1,p.2.1,p.2.2.1)) (fun _ _=>rfl) (fun _=>Jd.symm) (fun _ h=>⟨h.1,h.2.1,h.2.2.1⟩)
theorem Ip:Tryz.prog.cellsOf 31=6:=by kernel_rfl
theorem Je:Rd Tryz.prog 31 Mm.av (fun m=>m.in∧(Lit.int IntKind.i64 m.st).wf=true) :=
 (jW Tryz.underlying31 (by kernel_rfl) (cz rfl (rd_str Tryz.underlying9 c_str) (cz (by rw [c_str]) xR (cz (by rw [c_str,sH]) xR (cz (by rw [c_str,sH]) Io (nA _)))))).map
  (fun p=>⟨p.1,p.2.1,p.2.2.1,p.2.2.2.1.1,p.2.2.2.1.2.1,p.2.2.2.1.2.2⟩) (fun _ _=>rfl) (fun _=>Ip.symm) (fun _ h=>by
   obtain ⟨h1,⟨h2,h3⟩,⟨h4,h5⟩,⟨h6,h7,h8⟩,_⟩:=h
   unfold reachBytes at h1 h7 h8
   exact ⟨⟨Nat.le_trans h1 (by decide),Nat.le_trans h7 (by decide),Nat.le_trans h8 (by decide),h2,h4,h3,h5⟩,h6⟩)
theorem c_u8:Tryz.prog.cellsOf 5=1:=by kernel_rfl
theorem Dh:Tryz.prog.cellsOf 44=5:=by kernel_rfl
theorem Jf:Tryz.prog.bytesOf 44=24:=by kernel_rfl
theorem Iq:Rd Tryz.prog 44 gx (fun a=>a.raw.length≤reachBytes) :=
 (jW Tryz.underlying44 (by kernel_rfl) (cz rfl (rd_u8 Tryz.underlying5 c_u8) (cz (by rw [c_u8]) (rd_u8 Tryz.underlying5 c_u8) (cz (by rw [c_u8]) (rd_u8 Tryz.underlying5 c_u8) (cz (by rw [c_u8]) (rd_u8 Tryz.underlying5 c_u8) (cz (by rw [c_u8]) (rd_str Tryz.underlying9 c_str) (nA _))))))).map
  (fun p=>⟨p.1,p.2.1,p.2.2.1,p.2.2.2.1,p.2.2.2.2.1⟩) (fun _ _=>rfl) (fun _=>Dh.symm) (fun _ h=>h.2.2.2.2.1)
theorem c_acts:Tryz.prog.cellsOf 39=1:=by kernel_rfl
theorem rd_acts:Rd Tryz.prog 39 (fun l:List ActK=>.list 5 (l.map gx)) (fun l=>l.length≤140737488355328) :=
 (lp Tryz.underlying39 c_acts (by rw [Dh];decide) Iq).map id (fun _ _=>by rw [Dh];rfl) (fun _=>c_acts.symm) (fun l h=>by
  have h1:=h.1
  rw [Jf] at h1
  unfold reachBytes at h1
  show l.length≤_
  omega)
theorem c_mms:Tryz.prog.cellsOf 40=1:=by kernel_rfl
theorem Jw:Tryz.prog.bytesOf 31=104:=by kernel_rfl
theorem rd_mms:Rd Tryz.prog 40 (fun l:List Mm=>.list 6 (l.map Mm.av)) (fun l=>l.length≤140737488355328∧∀ m ∈ l,m.in) :=
 (lp Tryz.underlying40 c_mms (by rw [Ip];decide) Je).map id (fun _ _=>by rw [Ip];rfl) (fun _=>c_mms.symm) (fun l h=>by
  have h1:=h.1
  rw [Jw] at h1
  unfold reachBytes at h1
  refine ⟨?_,fun m hm=>(h.2 m hm).1⟩
  show l.length≤_
  omega)
theorem c_u8s:Tryz.prog.cellsOf 55=1:=by kernel_rfl
theorem Jx:Tryz.prog.bytesOf 5=1:=by kernel_rfl
theorem rd_u8s:Rd Tryz.prog 55 (fun l:List UInt8=>.list 1 (l.map byA)) (fun l=>l.length≤140737488355328) :=
 (lp Tryz.underlying55 c_u8s (by rw [c_u8];decide) (rd_u8 Tryz.underlying5 c_u8)).map id (fun _ _=>by rw [c_u8];rfl) (fun _=>c_u8s.symm) (fun l h=>by
  have h1:=h.1
  rw [Jx] at h1
  unfold reachBytes at h1
  show l.length≤_
  omega)
end Go.Proofs.YtpficjpdfbiedaaGreatDoor
