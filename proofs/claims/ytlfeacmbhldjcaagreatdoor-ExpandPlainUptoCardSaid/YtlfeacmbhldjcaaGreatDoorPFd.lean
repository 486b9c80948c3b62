/- A part of the proof: the texts Shelf, S1, FwL, LaidE, SXE, S2, S2b, S6a, S7, S8, S3, S4, S5, S6, S9, S10, S11, S12, S13, S14, FwP, FwM, K0, S16, S17, S23, Del, KA, FwK, FwV, S24, S25, S15, S26, FwN, Z1, Z2, Z3, Z4, Z5, Z6, Z7, Z8, Z9h, one behind the other. -/
import Derived.Test.YtlfeacmbhldjcaaGreatDoorPFc
import Derived.Shelf.Strings.Builder1
import Derived.Shelf.Strings.Builder2
import Derived.Shelf.Strings.OnBuilder
import Derived.Shelf.Strings.Trim
import Derived.Shelf.Small.Utf8
import Derived.Shelf.Small.Bits
import Derived.Shelf.Small.Strs
import Derived.Shelf.Strconv.Atoi
import Derived.Shelf.Strconv.Itoa0
import Derived.Shelf.Strconv.Itoa1
import Derived.Shelf.LaysM
import Derived.Shelf.Strconv.Itoa2
import Derived.Shelf.Strconv.Itoa3
import Derived.Shelf.Strconv.AtoiErrFast
import Derived.Shelf.Strconv.ParseIntEmpty
import Derived.Shelf.Strconv.AtoiFail
import Derived.Shelf.Strconv.Clone
import Derived.Shelf.Strconv.SyntaxError
import Derived.Shelf.LaysC
import Derived.Shelf.Strconv.ToError
import Derived.Shelf.Strconv.Lower
import Derived.Shelf.Strconv.ParseUint10
import Derived.Shelf.Strconv.ParseUint10Empty
import Derived.Shelf.Strconv.ParseUint10Any
import Derived.Shelf.Strconv.ParseInt10
import Derived.Shelf.Strconv.AtoiLong
import Derived.Shelf.Strconv.AtoiInnerAll
import Derived.Shelf.Strconv.RangeError
import Derived.Shelf.Strconv.ToErrorRange
import Derived.Shelf.Strconv.AtoiAll
import Derived.Shelf.Strings.Search1
import Derived.Shelf.Strings.Search2
import Derived.Shelf.Strings.Search3
import Derived.Shelf.Strings.Count
import Derived.Shelf.Strings.Shaped
import Derived.Shelf.Sort.Plain
import Derived.Shelf.Strings.LastIndex
import Derived.Shelf.Strings.Prefix
import Derived.Shelf.Strings.Split
import Derived.Shelf.Strings.Replace
import Derived.Shelf.Strings.SplitShaped
import Derived.Shelf.Unicode.Decode
import Derived.Shelf.Strings.Runes
import Derived.Shelf.Strings.RuneCount
import Derived.Shelf.Strings.AsciiSet
import Derived.Shelf.Unicode.DecodeSlow
import Derived.Shelf.Slices.Turned
import Derived.Shelf.Slices.In.SortNone
import Derived.Test.YtlfeacmbhldjcaaGreatDoorProg
import Derived.Lib.LaidTab
import Derived.Deep.DeepHandedRow
import Derived.Test.YtlfeacmbhldjcaaGreatDoorRows
import Derived.Test.YtlfeacmbhldjcaaGreatDoorCards
import Derived.Test.YtlfeacmbhldjcaaGreatDoorTie
import Derived.Lib.AtoiAllCases
import Derived.Lib.ItoaMem
import Derived.Lib.ItoaLen
import Derived.Lib.AtoiTie
import Derived.Sort.Row
import Derived.Shelf.SlicesE.DeleteFunc
import Derived.WalkKit
import Derived.BigQuiet
import Derived.Deep.QuietTactic
import Derived.Laws.Externs
import Derived.Laws.BitsLemmas
import Derived.Tactics
import Derived.Tactics2
import Derived.KernelRfl
set_option linter.unusedVariables false
set_option linter.unusedSimpArgs false
set_option linter.unusedSectionVars false
namespace Go.Proofs
open Go.Shelf
def Tryz.px:Go.Shelf.Ren:=⟨fun|171=>159|243=>198|246=>231|283=>258|284=>259|285=>260|286=>261|129=>276|317=>286|318=>287|319=>288|320=>289|337=>301|338=>302|n=>n,fun|3=>3|9=>9|2=>2|4=>4|171=>278|0=>0|53=>279|37=>115|5=>5|173=>282|212=>308|51=>298|20=>20|213=>309|46=>239|232=>327|233=>328|n=>n,fun|17=>5|18=>6|19=>7|n=>n⟩
theorem Tryz.Cp:Go.Proofs.LaysM.n171 Tryz.prog Tryz.px:={
 mixed:=by kernel_rfl
 f129:=Tryz.func276.trans (congrArg some (by kernel_rfl))
 f171:=Tryz.func159.trans (congrArg some (by kernel_rfl))
 f243:=Tryz.func198.trans (congrArg some (by kernel_rfl))
 f246:=Tryz.func231.trans (congrArg some (by kernel_rfl))
 f283:=Tryz.func258.trans (congrArg some (by kernel_rfl))
 f284:=Tryz.func259.trans (congrArg some (by kernel_rfl))
 f285:=Tryz.func260.trans (congrArg some (by kernel_rfl))
 f286:=Tryz.func261.trans (congrArg some (by kernel_rfl))
 f317:=Tryz.func286.trans (congrArg some (by kernel_rfl))
 f318:=Tryz.func287.trans (congrArg some (by kernel_rfl))
 f319:=Tryz.func288.trans (congrArg some (by kernel_rfl))
 f320:=Tryz.func289.trans (congrArg some (by kernel_rfl))
 f337:=Tryz.func301.trans (congrArg some (by kernel_rfl))
 f338:=Tryz.func302.trans (congrArg some (by kernel_rfl))
 t0:=Tryz.underlying0
 a0:=Tryz.isAgg0
 z0:=Tryz.sizeOf0
 v0:=Tryz.zeroValue0
 t2:=Tryz.underlying2
 a2:=Tryz.isAgg2
 z2:=Tryz.sizeOf2
 v2:=Tryz.zeroValue2
 t3:=Tryz.underlying3
 a3:=Tryz.isAgg3
 z3:=Tryz.sizeOf3
 v3:=Tryz.zeroValue3
 t4:=Tryz.underlying4
 a4:=Tryz.isAgg4
 z4:=Tryz.sizeOf4
 v4:=Tryz.zeroValue4
 t5:=Tryz.underlying5
 a5:=Tryz.isAgg5
 z5:=Tryz.sizeOf5
 v5:=Tryz.zeroValue5
 t9:=Tryz.underlying9
 a9:=Tryz.isAgg9
 z9:=Tryz.sizeOf9
 v9:=Tryz.zeroValue9
 t20:=Tryz.underlying20
 a20:=Tryz.isAgg20
 z20:=Tryz.sizeOf20
 v20:=Tryz.zeroValue20
 t37:=Tryz.underlying115
 a37:=Tryz.isAgg115
 z37:=Tryz.sizeOf115
 v37:=Tryz.zeroValue115
 t46:=Tryz.underlying239
 a46:=Tryz.isAgg239
 z46:=Tryz.sizeOf239
 v46:=Tryz.zeroValue239
 t51:=Tryz.underlying298
 a51:=Tryz.isAgg298
 z51:=Tryz.sizeOf298
 v51:=Tryz.zeroValue298
 t53:=Tryz.underlying279
 a53:=Tryz.isAgg279
 z53:=Tryz.sizeOf279
 v53:=Tryz.zeroValue279
 t171:=Tryz.underlying278
 a171:=Tryz.isAgg278
 z171:=Tryz.sizeOf278
 v171:=Tryz.zeroValue278
 t173:=Tryz.underlying282
 a173:=Tryz.isAgg282
 z173:=Tryz.sizeOf282
 v173:=Tryz.zeroValue282
 t212:=Tryz.underlying308
 a212:=Tryz.isAgg308
 z212:=Tryz.sizeOf308
 v212:=Tryz.zeroValue308
 t213:=Tryz.underlying309
 a213:=Tryz.isAgg309
 z213:=Tryz.sizeOf309
 t232:=Tryz.underlying327
 a232:=Tryz.isAgg327
 z232:=Tryz.sizeOf327
 v232:=Tryz.zeroValue327
 t233:=Tryz.underlying328
 a233:=Tryz.isAgg328
 z233:=Tryz.sizeOf328
 v233:=Tryz.zeroValue328
 g17:=by kernel_rfl
 g18:=by kernel_rfl
 g19:=by kernel_rfl
 i0:=by kernel_rfl
 i2:=by kernel_rfl
 i3:=by kernel_rfl
 i4:=by kernel_rfl
 i5:=by kernel_rfl
 i9:=by kernel_rfl
 i20:=by kernel_rfl
 i37:=by kernel_rfl
 i46:=by kernel_rfl
 i51:=by kernel_rfl
 i53:=by kernel_rfl
 i171:=by kernel_rfl
 i173:=by kernel_rfl
 i212:=by kernel_rfl
 i232:=by kernel_rfl
 i233:=by kernel_rfl
 m17:=by kernel_rfl
 m18:=by kernel_rfl
 m19:=by kernel_rfl }
open Go.RowKit Go.Sort Go.Lib in
theorem Tryz.strconv_Itoa (n:Int) (h0:-9223372036854775808≤n) (h1:n≤9223372036854775807) (w:World) (htab:Lib.TabIs Tryz.prog w "internal/strconv.uint64pow10" .u64 Lib.pow10Tab) :
  Calls Tryz.prog 159 #[.int .i64 n] w fun e w'=>e = .returned (.string ⟨(Lib.itoa n).toArray⟩)∧∃ k os,w' = grow (w.drewN k) os:=Any.strconv_Itoa Tryz.Cp n h0 h1 w htab
open Go.RowKit in
open Go.RowKit in
open Go.RowKit Go.Lib in
def Tryz.rn:Go.Shelf.Ren:=⟨fun|144=>160|143=>199|219=>232|217=>110|225=>262|224=>263|267=>264|266=>142|314=>290|n=>n,fun|9=>9|4=>4|3=>3|5=>5|46=>239|146=>311|51=>298|n=>n,fun|1=>0|n=>n⟩
theorem Tryz.WX:Go.Proofs.Lays.n144 Tryz.prog Tryz.rn:={
 mixed:=by kernel_rfl
 f143:=Tryz.func199.trans (congrArg some (by kernel_rfl))
 f144:=Tryz.func160.trans (congrArg some (by kernel_rfl))
 f217:=Tryz.func110.trans (congrArg some (by kernel_rfl))
 f219:=Tryz.func232.trans (congrArg some (by kernel_rfl))
 f224:=Tryz.func263.trans (congrArg some (by kernel_rfl))
 f225:=Tryz.func262.trans (congrArg some (by kernel_rfl))
 f266:=Tryz.func142.trans (congrArg some (by kernel_rfl))
 f267:=Tryz.func264.trans (congrArg some (by kernel_rfl))
 f314:=Tryz.func290.trans (congrArg some (by kernel_rfl))
 t3:=Tryz.underlying3
 a3:=Tryz.isAgg3
 z3:=Tryz.sizeOf3
 v3:=Tryz.zeroValue3
 t4:=Tryz.underlying4
 a4:=Tryz.isAgg4
 z4:=Tryz.sizeOf4
 v4:=Tryz.zeroValue4
 t5:=Tryz.underlying5
 a5:=Tryz.isAgg5
 z5:=Tryz.sizeOf5
 v5:=Tryz.zeroValue5
 t9:=Tryz.underlying9
 a9:=Tryz.isAgg9
 z9:=Tryz.sizeOf9
 v9:=Tryz.zeroValue9
 t46:=Tryz.underlying239
 a46:=Tryz.isAgg239
 z46:=Tryz.sizeOf239
 v46:=Tryz.zeroValue239
 t51:=Tryz.underlying298
 a51:=Tryz.isAgg298
 z51:=Tryz.sizeOf298
 v51:=Tryz.zeroValue298
 t146:=Tryz.underlying311
 a146:=Tryz.isAgg311
 z146:=Tryz.sizeOf311
 v146:=Tryz.zeroValue311
 g1:=by kernel_rfl }
open Go.RowKit Go.Lib in
theorem Tryz.strings_Contains_one (s:ByteArray) (c:UInt8) (w:World) :
  Calls Tryz.prog 160 #[.string s,.string ⟨#[c]⟩] w fun e w'=>e = .returned (.bool (decide (0≤Lib.indexByte s.data.toList c)))∧w' = w:=Any.strings_Contains_one Tryz.WX s c w
def Tryz.rp:Go.Shelf.Ren:=⟨fun|190=>206|125=>241|258=>240|128=>275|129=>276|302=>266|303=>267|304=>268|305=>269|306=>270|307=>271|308=>272|309=>273|310=>274|333=>291|329=>292|330=>293|334=>294|335=>295|336=>296|344=>303|n=>n,fun|31=>27|9=>9|3=>3|46=>239|0=>0|51=>298|53=>279|4=>4|183=>292|182=>291|131=>168|5=>5|218=>313|222=>317|228=>324|229=>325|n=>n,fun|n=>n⟩
theorem Tryz.uA:Go.Proofs.Lays.n190 Tryz.prog Tryz.rp:={
 mixed:=by kernel_rfl
 f125:=Tryz.func241.trans (congrArg some (by kernel_rfl))
 f128:=Tryz.func275.trans (congrArg some (by kernel_rfl))
 f129:=Tryz.func276.trans (congrArg some (by kernel_rfl))
 f190:=Tryz.func206.trans (congrArg some (by kernel_rfl))
 f258:=Tryz.func240.trans (congrArg some (by kernel_rfl))
 f302:=Tryz.func266.trans (congrArg some (by kernel_rfl))
 f303:=Tryz.func267.trans (congrArg some (by kernel_rfl))
 f304:=Tryz.func268.trans (congrArg some (by kernel_rfl))
 f305:=Tryz.func269.trans (congrArg some (by kernel_rfl))
 f306:=Tryz.func270.trans (congrArg some (by kernel_rfl))
 f307:=Tryz.func271.trans (congrArg some (by kernel_rfl))
 f308:=Tryz.func272.trans (congrArg some (by kernel_rfl))
 f309:=Tryz.func273.trans (congrArg some (by kernel_rfl))
 f310:=Tryz.func274.trans (congrArg some (by kernel_rfl))
 f329:=Tryz.func292.trans (congrArg some (by kernel_rfl))
 f330:=Tryz.func293.trans (congrArg some (by kernel_rfl))
 f333:=Tryz.func291.trans (congrArg some (by kernel_rfl))
 f334:=Tryz.func294.trans (congrArg some (by kernel_rfl))
 f335:=Tryz.func295.trans (congrArg some (by kernel_rfl))
 f336:=Tryz.func296.trans (congrArg some (by kernel_rfl))
 f344:=Tryz.func303.trans (congrArg some (by kernel_rfl))
 t0:=Tryz.underlying0
 a0:=Tryz.isAgg0
 z0:=Tryz.sizeOf0
 v0:=Tryz.zeroValue0
 t3:=Tryz.underlying3
 a3:=Tryz.isAgg3
 z3:=Tryz.sizeOf3
 v3:=Tryz.zeroValue3
 t4:=Tryz.underlying4
 a4:=Tryz.isAgg4
 z4:=Tryz.sizeOf4
 v4:=Tryz.zeroValue4
 t5:=Tryz.underlying5
 a5:=Tryz.isAgg5
 z5:=Tryz.sizeOf5
 v5:=Tryz.zeroValue5
 t9:=Tryz.underlying9
 a9:=Tryz.isAgg9
 z9:=Tryz.sizeOf9
 v9:=Tryz.zeroValue9
 t31:=Tryz.underlying27
 a31:=Tryz.isAgg27
 z31:=Tryz.sizeOf27
 v31:=Tryz.zeroValue27
 t46:=Tryz.underlying239
 a46:=Tryz.isAgg239
 z46:=Tryz.sizeOf239
 v46:=Tryz.zeroValue239
 t51:=Tryz.underlying298
 a51:=Tryz.isAgg298
 z51:=Tryz.sizeOf298
 v51:=Tryz.zeroValue298
 t53:=Tryz.underlying279
 a53:=Tryz.isAgg279
 z53:=Tryz.sizeOf279
 v53:=Tryz.zeroValue279
 t131:=Tryz.underlying168
 a131:=Tryz.isAgg168
 z131:=Tryz.sizeOf168
 v131:=Tryz.zeroValue168
 t182:=Tryz.underlying291
 a182:=Tryz.isAgg291
 z182:=Tryz.sizeOf291
 v182:=Tryz.zeroValue291
 t183:=Tryz.underlying292
 a183:=Tryz.isAgg292
 z183:=Tryz.sizeOf292
 v183:=Tryz.zeroValue292
 t218:=Tryz.underlying313
 a218:=Tryz.isAgg313
 z218:=Tryz.sizeOf313
 v218:=Tryz.zeroValue313
 t222:=Tryz.underlying317
 a222:=Tryz.isAgg317
 z222:=Tryz.sizeOf317
 v222:=Tryz.zeroValue317
 t228:=Tryz.underlying324
 a228:=Tryz.isAgg324
 z228:=Tryz.sizeOf324
 v228:=Tryz.zeroValue324
 t229:=Tryz.underlying325
 a229:=Tryz.isAgg325
 z229:=Tryz.sizeOf325
 v229:=Tryz.zeroValue325 }
open Go.Sort Go.RowKit in
theorem Tryz.slices_Sort_string (blk off cap:Nat) (ss:List (List UInt8)) (w:World) (hH:Holds encStr w blk off ss.toArray) (hblk:blk < w.heap.size) (hsz:ss.length < 4611686018427387904) :
  Calls Tryz.prog 206 #[.slice (some ⟨blk,off,none⟩) ss.length cap] w fun e w' =>
   e = .returned (.tuple #[])∧∃ n os,w' = grow (putRow encStr (Sort.ahead w n) blk off (ss.mergeSort fun x y=>decide (x≤y)).toArray) os:=Any.slices_Sort_string Tryz.uA blk off cap ss w hH hblk hsz
open Go.RowKit Go.Lib in
open Go.RowKit Go.Lib in
open Go.RowKit Go.Sort in
theorem Tryz.slices_Sort_string_none (p:Option Addr) (cap:Nat) (w:World) :
  Calls Tryz.prog 206 #[.slice p 0 cap] w fun e w'=>e = .returned (.tuple #[])∧w' = w:=Any.slices_Sort_string_none Tryz.uA p cap w
end Go.Proofs
namespace Go.Proofs.YtlfeacmbhldjcaaGreatDoor
open Go Go.Ab Go.RowKit
def iC (g:Gh):Prop:=(∃ v,g.com 3 0=some v∧(v = .nilIface∨∃ t p,v = .iface t p))∧∃ v,g.com 4 0=some v∧(v = .nilIface∨∃ t p,v = .iface t p)
theorem iC.mono {g g':Gh} (h:Gh.le g g'):iC g→iC g':=fun ⟨⟨v,h3,h4⟩,u,h5,h6⟩=>⟨⟨v,h.2.1 _ _ _ h3,h4⟩,u,h.2.1 _ _ _ h5,h6⟩
instance Cq:Laid Tryz.prog where
 facts g:=g.row 5=some 20∧(∀ j z,Lib.pow10Tab[j]? = some z→g.com 5 j=some (.int .u64 z))∧(∃ m,g.com 0 0=some (.int .i64 m))∧iC g
 mono h:=fun ⟨h1,h2,⟨m,h7⟩,h8⟩=>⟨h.2.2 _ _ h1,fun j z hz=>h.2.1 _ _ _ (h2 j z hz),⟨m,h.2.1 _ _ _ h7⟩,iC.mono h h8⟩
theorem afg {g:Gh} {w:World} (h:mo Tryz.prog g w):Lib.TabIs Tryz.prog w "internal/strconv.uint64pow10" .u64 Lib.pow10Tab:=by
 obtain ⟨h1,h2,_⟩:=h.facts
 obtain ⟨c,t,fz,h3,h4⟩:=h.rows 5 20 h1
 have hn:Tryz.prog.globalNamed "internal/strconv.uint64pow10" = some 5:=by kernel_rfl
 simp only [Lib.TabIs,World.var?,hn,Option.bind_some,h3]
 congr 1
 apply Array.ext
 ·rw [h4];rfl
 ·intro j h5 h6
  have h7:j < Lib.pow10Tab.length:=by simpa using h6
  have h8:=h.com 5 j _ (h2 j _ (List.getElem?_eq_getElem h7))
  simp only [World.cell?,h3,Option.isSome_none,Bool.false_eq_true,if_false,Array.getElem?_eq_getElem h5,Option.some.injEq] at h8
  simpa using h8
theorem ly (n:Int) (h0:-9223372036854775808≤n) (h1:n≤9223372036854775807) (p:Oid) (hp:p.mono=false):aA Tryz.prog 159 [.int .i64 n] (Oid.under p) ⟨[],.str (Lib.itoa n),[]⟩ :=
 gz (by kernel_rfl) hp fun g args w ha ht=>by
  obtain ⟨v,rfl,hv⟩:=ha.one
  rw [hv.aY]
  refine (Tryz.strconv_Itoa n h0 h1 w (afg ht)).mono ?_
  rintro e w' ⟨rfl,k,os,rfl⟩
  exact ⟨_,rfl,.str _ _ rfl,⟨rfl,rfl,rfl,by simp [Sort.grow,World.drewN],fun b hb=>by simp only [Sort.grow,World.drewN];rw [Array.getElem?_append_left hb]⟩⟩
theorem rq (q:Oid) (v:AV) (sp:Oid→Prop):aA Tryz.prog 115 [.ptr (.ty 117 q) 0] sp ⟨[(.ty 117 q,.cells [.nilPtr,v])],.tuple [],[(.ty 117 q,some (.cells [.ptr (.ty 117 q) 0,v]))]⟩ :=
 ⟨by kernel_rfl,fun x g args w m hm hn ha hs hx=>by
  obtain ⟨u,rfl,hu⟩:=ha.one
  obtain ⟨b,rfl,hb⟩:=hu.cA
  have hmid:=hn (.ty 117 q,.cells [.nilPtr,v]) (by simp)
  obtain ⟨b',h1,h2,h3,h4⟩:=hm.fO hmid hb
  rw [hb] at h1;simp only [Option.some.injEq] at h1;subst h1
  obtain ⟨c,t,fz,c1,c2,c3,c4⟩:=h4
  obtain ⟨c',fz',h5⟩:=hm.typs 117 q b hb
  rw [c1] at h5;simp only [Option.some.injEq,Obj.cells.injEq] at h5
  obtain ⟨_,rfl,_⟩:=h5
  have hsz:c.size=2:=c2
  have k0:=c4 0 (by simp)
  have k1:=c4 1 (by simp)
  simp only [List.getD_cons_zero,List.getD_cons_succ] at k0 k1
  have k0':=k0.cP
  have hlt:b < w.heap.size:=(Array.getElem?_eq_some_iff.1 c1).1
  have hg0:c[0]? = some (.pointer none):=by
   rw [Array.getD_eq_getD_getElem?] at k0'
   rw [Array.getElem?_eq_getElem (by omega)] at k0' ⊢
   simpa using k0'
  have hf:¬ (fz.1≤0∧0 < fz.2):=c3 0 (by omega)
  refine (lj b w (by simp [World.cell?,c1,hg0]) (by simp [World.shape?,c1,hsz]) (by
   obtain ⟨lo,hi⟩:=fz
   simp only [World.frozen?,c1]
   simp only at hf
   by_cases h:lo≤0
   ·have:¬ 0 < hi:=fun h'=>hf ⟨h,h'⟩
    simp [this]
   ·simp [h])).mono ?_
  rintro e w' ⟨rfl,rfl⟩
  have hnew:(w.setCell ⟨b,0,none⟩ (.pointer (some ⟨b,0,none⟩))).heap[b]? = some (.cells (c.setIfInBounds 0 (.pointer (some ⟨b,0,none⟩))) 117 fz):=by simp [World.setCell,Array.getElem?_modify,c1]
  refine ⟨g,_,rfl,Gh.le_refl g,fun _ _=>rfl,.tuple _ _ rfl (fun j hj=>absurd hj (Nat.not_lt_zero _)),?_⟩
  refine hm.fS (o:=.cells [.ptr (.ty 117 q) 0,v]) (w':=w.setCell ⟨b,0,none⟩ (.pointer (some ⟨b,0,none⟩))) hmid hb rfl rfl ⟨rfl,Nat.le_refl _⟩ (by simp [World.setCell]) (fun k hk _=>Below.heap_setCell w ⟨b,0,none⟩ _ k hk) (fun r hr=>?_) (fun c9 t9 fz9 h9=>?_) ?_
  ·obtain ⟨c',t',fz',h6,h7⟩:=hm.rows b r hr
   rw [c1] at h6;simp only [Option.some.injEq,Obj.cells.injEq] at h6
   obtain ⟨rfl,rfl,rfl⟩:=h6
   exact ⟨_,_,_,hnew,by simp [h7]⟩
  ·rw [c1] at h9;simp only [Option.some.injEq,Obj.cells.injEq] at h9
   obtain ⟨rfl,rfl,rfl⟩:=h9
   exact ⟨_,_,hnew⟩
  ·refine ⟨_,_,_,hnew,by simp [hsz],fun j hj=>c3 j (by simpa using hj),fun j hj=>?_⟩
   have hj2:j < 2:=hj
   match j,hj2 with
   | 0,_ =>
    simp only [List.getD_cons_zero,Array.getD_eq_getD_getElem?]
    rw [Array.getElem?_setIfInBounds_self_of_lt (by omega)]
    exact .ptr _ 0 b hb
   | 1,_ =>
    simp only [List.getD_cons_succ,List.getD_cons_zero,Array.getD_eq_getD_getElem?]
    rw [Array.getElem?_setIfInBounds_ne (by omega),← Array.getD_eq_getD_getElem?]
    exact k1⟩
theorem uB (q:Oid) (v:AV) (sp:Oid→Prop):aA Tryz.prog 115 [.ptr q 0] sp ⟨[(q,.cells [.ptr q 0,v])],.tuple [],[]⟩ :=
 ⟨by kernel_rfl,fun x g args w m hm hn ha hs hx=>by
  obtain ⟨u,rfl,hu⟩:=ha.one
  obtain ⟨b,rfl,hb⟩:=hu.cA
  have hmid:=hn (q,.cells [.ptr q 0,v]) (by simp)
  obtain ⟨b',h1,h2,h3,h4⟩:=hm.fO hmid hb
  rw [hb] at h1;simp only [Option.some.injEq] at h1;subst h1
  obtain ⟨c,t,fz,c1,c2,c3,c4⟩:=h4
  have hsz:c.size=2:=c2
  have k0:=c4 0 (by simp)
  simp only [List.getD_cons_zero] at k0
  obtain ⟨b2,k0',hb2⟩:=k0.cA
  rw [hb] at hb2;simp only [Option.some.injEq] at hb2;subst hb2
  have hg0:c[0]? = some (.pointer (some ⟨b,0,none⟩)):=by
   rw [Array.getD_eq_getD_getElem?] at k0'
   rw [Array.getElem?_eq_getElem (by omega)] at k0' ⊢
   simpa using k0'
  refine (mq b w (by simp [World.cell?,c1,hg0])).mono ?_
  rintro e w' ⟨rfl,rfl⟩
  exact ⟨g,_,rfl,Gh.le_refl g,fun _ _=>rfl,.tuple _ _ rfl (fun j hj=>absurd hj (Nat.not_lt_zero _)),hm⟩⟩
end Go.Proofs.YtlfeacmbhldjcaaGreatDoor
namespace Go.Ab
open Go.ChangeShapes Go.WideShapes
section
variable {β:Type}
end
theorem ru {ng:Nat} {P:Program} {W:World} {name:String} {k:IntKind} {zs:List Int} {g:Nat} (hg:P.globalNamed name=some g) (h:Lib.TabIs P W name k zs) :
  (cz ng W).row g=some zs.length∧∀ j z,zs[j]? = some z→(cz ng W).com g j=some (.int k z):=by
 simp only [Lib.TabIs,World.var?,hg,Option.bind_some] at h
 cases hw:W.heap[g]? with
 | none=>rw [hw] at h;cases h
 | some o =>
  rw [hw] at h
  cases o with
  | cells c t fz =>
   simp only [Option.some.injEq] at h
   subst h
   refine ⟨by simp [cz,hw],fun j z hz=>ke ?_ rfl⟩
   simp [World.cell?,hw,hz]
  | _=>cases h
theorem oa {ng:Nat} {P:Program} {W:World} {name nm:String} {d:DataW Unit} {g:Nat} {ti:TypeId} {ms:Array (String × TypeId)} (hg:P.globalNamed name=some g) (hty:(P.globals[g]?).map (·.type)=some ti) (hi:P.underlying ti=some (.interface ms))
  {l:List (String × DataW Unit)} (hm:(name,.iface nm d) ∈ l) (h:laidMet P l W):∃ v,(cz ng W).com g 0=some v∧(v = .nilIface∨∃ t p,v = .iface t p):=by
 obtain ⟨ps,hl,_,_⟩:=h
 have key:∀ {l:List (String × DataW Unit)} {ps:List MemPlace},DataW.LaidVars P W l ps→(name,.iface nm d) ∈ l→∃ t p,W.cell? ⟨g,0,none⟩=some (.iface t p):=by
  intro l
  induction l with
  | nil=>intro ps _ hm;cases hm
  | cons x r ih =>
   obtain ⟨n,e⟩:=x
   intro ps hl hm
   obtain ⟨g',t,cs,fuel,p,q,h1,h2,h3,h4,h5,_⟩:=hl
   rcases List.mem_cons.1 hm with hm|hm
   ·simp only [Prod.mk.injEq] at hm
    obtain ⟨rfl,rfl⟩:=hm
    rw [hg] at h1;simp only [Option.some.injEq] at h1;subst h1
    rw [hty] at h2;simp only [Option.some.injEq] at h2;subst h2
    obtain ⟨_,u,v,h6,_,_⟩:=iface_of_trod hi h4
    simp only [World.var?,hg,Option.bind_some] at h3
    cases hw:W.heap[g]? with
    | none=>rw [hw] at h3;cases h3
    | some o =>
     rw [hw] at h3
     cases o with
     | cells c t' fz =>
      simp only [Option.some.injEq] at h3
      subst h3
      refine ⟨u,v,?_⟩
      have h7:c[0]? = some (.iface u v):=by rw [← Array.getElem?_toList,h6];rfl
      simp [World.cell?,hw,h7]
     | _=>cases h3
   ·exact ih h5 hm
 obtain ⟨t,p,hc⟩:=key hl hm
 exact ⟨_,ke hc rfl,.inr ⟨t,p,rfl⟩⟩
theorem s9 {P:Program} {W:World} {name:String} {k:IntKind} {zs:List Int} {g:Nat} {t e:TypeId} {n:Nat} (hg:P.globalNamed name=some g) (hty:(P.globals[g]?).map (·.type)=some t) (ht:P.underlying t=some (.array n e)) (he:P.underlying e=some (.int k)) (hce:P.cellsOf e=1) (hct:P.cellsOf t=n)
  {l:List (String × DataW Unit)} (hm:(name,Lib.tabData k zs) ∈ l) (h:laidMet P l W):Lib.TabIs P W name k zs:=by
 obtain ⟨ps,hl,h1,h2⟩:=h
 clear h1 h2
 induction l generalizing ps with
 | nil=>cases hm
 | cons x r ih =>
  obtain ⟨n',d⟩:=x
  obtain ⟨g',t',cs,fuel,p,q,h1,h2,h3,h4,h5,_⟩:=hl
  rcases List.mem_cons.1 hm with hm|hm
  ·simp only [Prod.mk.injEq] at hm
   obtain ⟨rfl,rfl⟩:=hm
   rw [hg] at h1;simp only [Option.some.injEq] at h1;subst h1
   rw [hty] at h2;simp only [Option.some.injEq] at h2;subst h2
   have:=Lib.cells_of_tab ht he hce hct h4
   show W.var? P name=_
   rw [h3,← this]
  ·exact ih hm q h5
end Go.Ab
namespace Go.Proofs.YtlfeacmbhldjcaaGreatDoor
open Go Go.Ab Go.ChangeShapes Go.WideShapes Go.RowKit
set_option maxRecDepth 100000
def LL:List (String × DataW Unit):=[("math/bits.deBruijn32tab",Rows.laid_math_bits_deBruijn32tab),("math/bits.deBruijn64tab",Rows.laid_math_bits_deBruijn64tab),("internal/strconv.uint64pow10",Rows.laid_internal_strconv_uint64pow10),("unicode/utf8.acceptRanges",Rows.laid_unicode_utf8_acceptRanges),("strconv.ErrRange",Rows.laid_strconv_ErrRange),("strconv.ErrSyntax",Rows.laid_strconv_ErrSyntax),("unicode/utf8.first",Rows.laid_unicode_utf8_first)]
def ta (c:Array Value):Obj→Obj
 | .cells _ t fz=>.cells c t fz
 | o=>o
def Cr (h:Array Obj):Array Obj:=(((((((h.modify 6 (ta #[.int .u8 0,.int .u8 1,.int .u8 28,.int .u8 2,.int .u8 29,.int .u8 14,.int .u8 24,.int .u8 3,.int .u8 30,.int .u8 22,.int .u8 20,.int .u8 15,.int .u8 25,.int .u8 17,.int .u8 4,.int .u8 8,.int .u8 31,.int .u8 27,.int .u8 13,.int .u8 23,.int .u8 21,.int .u8 19,.int .u8 16,.int .u8 7,.int .u8 26,.int .u8 12,.int .u8 18,.int .u8 6,.int .u8 11,.int .u8 5,.int .u8 10,.int .u8 9])).modify 7 (ta #[.int .u8 0,.int .u8 1,.int .u8 56,.int .u8 2,.int .u8 57,.int .u8 49,.int .u8 28,.int .u8 3,.int .u8 61,.int .u8 58,.int .u8 42,.int .u8 50,.int .u8 38,.int .u8 29,.int .u8 17,.int .u8 4,.int .u8 62,.int .u8 47,.int .u8 59,.int .u8 36,.int .u8 45,.int .u8 43,.int .u8 51,.int .u8 22,.int .u8 53,.int .u8 39,.int .u8 33,.int .u8 30,.int .u8 24,.int .u8 18,.int .u8 12,.int .u8 5,.int .u8 63,.int .u8 55,.int .u8 48,.int .u8 27,.int .u8 60,.int .u8 41,.int .u8 37,.int .u8 16,.int .u8 46,.int .u8 35,.int .u8 44,.int .u8 21,.int .u8 52,.int .u8 32,.int .u8 23,.int .u8 11,.int .u8 54,.int .u8 26,.int .u8 40,.int .u8 15,.int .u8 34,.int .u8 20,.int .u8 31,.int .u8 10,.int .u8 25,.int .u8 14,.int .u8 19,.int .u8 9,.int .u8 13,.int .u8 8,.int .u8 7,.int .u8 6])).modify 5 (ta #[.int .u64 1,.int .u64 10,.int .u64 100,.int .u64 1000,.int .u64 10000,.int .u64 100000,.int .u64 1000000,.int .u64 10000000,.int .u64 100000000,.int .u64 1000000000,.int .u64 10000000000,.int .u64 100000000000,.int .u64 1000000000000,.int .u64 10000000000000,.int .u64 100000000000000,.int .u64 1000000000000000,.int .u64 10000000000000000,.int .u64 100000000000000000,.int .u64 1000000000000000000,.int .u64 10000000000000000000])).modify 2 (ta #[.int .u8 128,.int .u8 191,.int .u8 160,.int .u8 191,.int .u8 128,.int .u8 159,.int .u8 144,.int .u8 191,.int .u8 128,.int .u8 143,.int .u8 0,.int .u8 0,.int .u8 0,.int .u8 0,.int .u8 0,.int .u8 0,.int .u8 0,.int .u8 0,.int .u8 0,.int .u8 0,.int .u8 0,.int .u8 0,.int .u8 0,.int .u8 0,.int .u8 0,.int .u8 0,.int .u8 0,.int .u8 0,.int .u8 0,.int .u8 0,.int .u8 0,.int .u8 0])).modify 4 (ta #[.iface 320 (.pointer (some ⟨13,0,none⟩))])).modify 3 (ta #[.iface 320 (.pointer (some ⟨14,0,none⟩))])).modify 1 (ta ((Go.Pinned.utf8FirstZ.map fun (n:Nat)=>Value.int .u8 (n:Int)).toArray)))++#[.cells #[.string ⟨#[118,97,108,117,101,32,111,117,116,32,111,102,32,114,97,110,103,101]⟩] 322 (0,0),.cells #[.string ⟨#[105,110,118,97,108,105,100,32,115,121,110,116,97,120]⟩] 322 (0,0)]
noncomputable def laidWorld (os:Os):World:={ World.holding Tryz.prog os ⟨#[],#[],[]⟩ with heap:=Cr (World.holding Tryz.prog os ⟨#[],#[],[]⟩).heap }
theorem laid_met (os:Os) (args:Array Value):laidMet Tryz.prog LL ((laidWorld os).forCall (fun _ _=>0) ⟨#[],args,[]⟩).memory :=
 laidMet_of_run' 8 (by kernel_rfl) (by kernel_rfl)
theorem afh {W:World} (h:laidMetH Tryz.prog LL W):laidMet Tryz.prog LL W:=h
end Go.Proofs.YtlfeacmbhldjcaaGreatDoor
namespace Go.Proofs.YtlfeacmbhldjcaaGreatDoor
open Go Go.Ab
set_option maxRecDepth 100000
instance XZ:Laid Tryz.checked.prog:=Cq
theorem own:ownKnob Tryz.prog.godebug=none:=by kernel_rfl
theorem laidOut:laidOutB Tryz.prog=true:=by kernel_rfl
theorem full:∀ t e,t < Tryz.prog.types.size→Tryz.prog.underlying t=some (.slice e)→0 < Tryz.prog.cellsOf e:=slices_full_of _ (by kernel_rfl)
theorem Cs {W:World} (h':laidMet Tryz.prog LL W):iC (cz Tryz.prog.globals.size W) :=
 ⟨oa (P:=Tryz.prog) (name := "strconv.ErrSyntax") (ti:=119) (by kernel_rfl) (by kernel_rfl) Tryz.underlying119 (l:=LL) (List.mem_cons_of_mem _ (List.mem_cons_of_mem _ (List.mem_cons_of_mem _ (List.mem_cons_of_mem _ (List.mem_cons_of_mem _ List.mem_cons_self))))) h',
  oa (P:=Tryz.prog) (name := "strconv.ErrRange") (ti:=119) (by kernel_rfl) (by kernel_rfl) Tryz.underlying119 (l:=LL) (List.mem_cons_of_mem _ (List.mem_cons_of_mem _ (List.mem_cons_of_mem _ (List.mem_cons_of_mem _ List.mem_cons_self)))) h'⟩
theorem laid_facts {W:World} (h:laidMetH Tryz.prog LL W) (ho:W.ShapedOpen Tryz.prog):Laid.facts Tryz.prog (cz Tryz.prog.globals.size W):=by
 have h':=afh h
 have ht:Lib.TabIs Tryz.prog W "internal/strconv.uint64pow10" .u64 Lib.pow10Tab :=
  s9 (g:=5) (t:=308) (e:=279) (n:=20) (by kernel_rfl) (by kernel_rfl) (by kernel_rfl) (by kernel_rfl) (by kernel_rfl) (by kernel_rfl) (l:=LL) (List.mem_cons_of_mem _ (List.mem_cons_of_mem _ List.mem_cons_self)) h'
 have hn:Tryz.prog.globalNamed "internal/strconv.uint64pow10" = some 5:=by kernel_rfl
 obtain ⟨t1,t2⟩:=ru (ng:=Tryz.prog.globals.size) hn ht
 obtain ⟨m,hm⟩:=cell_of_shapedOpen_int (P:=Tryz.prog) (g:=0) (zero:=#[.int .i64 0]) (t:=3) ho (of_decide_eq_true (by kernel_rfl)) (by kernel_rfl) rfl (by kernel_rfl) (by kernel_rfl) Tryz.underlying3
 exact ⟨t1,t2,⟨m,ke hm rfl⟩,Cs h'⟩
end Go.Proofs.YtlfeacmbhldjcaaGreatDoor
namespace Go.Proofs.YtlfeacmbhldjcaaGreatDoor
open Go Go.Ab
set_option maxRecDepth 20000
set_option maxHeartbeats 2000000
theorem fq {v:OpR}:gdR True v=v:=if_pos trivial
theorem ck {need:List (Oid × ar)} {upd:List (Oid × Option ar)} {m:Mem} (h1:∀ q,q ∈ upd→∀ o,q.2=some o→m q.1=some o) (h2:∀ q,q ∈ need→(∀ r,r ∈ upd→¬ r.1=q.1)→m q.1=some q.2) (i:Oid) (o:ar)
  (h:((Mem.of need).aF upd) i=some o):m i=some o:=by
 by_cases hk:∃ q ∈ upd,q.1=i
 ·obtain ⟨q',k1,k2,k3⟩:=ee (m:=Mem.of need) hk
  rw [k3] at h
  rw [← k2];exact h1 q' k1 o h
 ·rw [aU fun q hq e=>hk ⟨q,hq,e⟩] at h
  obtain ⟨q,k1,rfl,rfl⟩:=Mem.dK h
  exact h2 q k1 fun r hr e=>hk ⟨r,hr,e⟩
theorem aP {P:Program} {rs:List ResultVar} {need:List (Oid × ar)} {fr:List (Nat × AV)} {m:Mem} {c:Nat} {val:AV} {upd:List (Oid × Option ar)} (h1:ib P m fr rs=some val)
  (h2:∀ q,q ∈ upd→∀ o,q.2=some o→m q.1=some o) (h3:∀ q,q ∈ need→(∀ r,r ∈ upd→¬ r.1=q.1)→m q.1=some q.2):eZ P rs need (fun v u=>v=val∧u=upd) (fun _ _=>False) .ret ⟨fr,m,c,[]⟩ :=
 cT val upd h1 ⟨rfl,rfl⟩ (ck h2 h3)
theorem rv (q:Oid) (s:List UInt8) (hl:s.length≤140737488355328) (p:Oid) (hq:¬ Oid.under p (.ty 117 q)) :
  aA Tryz.prog 79 [.ptr (.ty 117 q) 0,.str s] (Oid.under p) ⟨[(.ty 117 q,.cells [.nilPtr,.nilSl])],.tuple [.int .i64 s.length,.nilIface],
   [(.ty 117 q,some (.cells [.ptr (.ty 117 q) 0,.sl (.ty 5 (.sub 2 6 p)) 1 s.length])),(.ty 5 (.sub 2 6 p),some (.arr 1 (s.map byA)))]⟩:=by
 refine aN (n:=19) (rs:=[.tmp 4,.tmp 5]) Tryz.func79 rfl rfl (by decide) rfl rfl rfl ?_;rintro x rfl hrd hng
 (repeat (first|(refine ah rfl rfl ?_)|(refine aj rfl rfl ?_)|(refine af nmd [] hng (by kernel_rfl) fun hf C S K hC1 hC hS hK=>?_;simp (disch:=first|omega|assumption) only [go_sem];(repeat ((first|refine hC1 _ (rq _ .nilSl _) (by simp (disch:=first|omega|assumption) only [go_sem]) ?_);simp (disch:=first|omega|assumption) only [go_sem]));refine hK ?_;clear hK hS hC hC1 K S C hf)|((first|refine zn ?_|refine ze ?_|refine zk ?_);with_reducible (constructor;repeat constructor);try refine zl ?_)))
 refine aC (aP rfl ?_ ?_)
 all_goals simp only [List.mem_cons,List.not_mem_nil,or_false,forall_eq_or_imp,forall_eq,Option.some.injEq,forall_eq',Mem.ae,eq_self,if_true,↓reduceIte,reduceCtorEq,implies_true,not_true_eq_false,false_imp_iff,true_and,and_true,false_and,and_false,imp_self,Oid.aO hq,Oid.aS hq]
 rfl
theorem uC (q r:Oid) (s0 s:List UInt8) (hl:s0.length+s.length≤140737488355328) (p:Oid) (hq:¬ Oid.under p (.ty 117 q)) (hr:¬ Oid.under p (.ty 5 r)) :
  aA Tryz.prog 79 [.ptr (.ty 117 q) 0,.str s] (Oid.under p) ⟨[(.ty 117 q,.cells [.ptr (.ty 117 q) 0,.sl (.ty 5 r) 1 s0.length]),(.ty 5 r,.arr 1 (s0.map byA))],.tuple [.int .i64 s.length,.nilIface],
   [(.ty 117 q,some (.cells [.ptr (.ty 117 q) 0,.sl (.ty 5 (.sub 2 6 p)) 1 (s0++s).length])),(.ty 5 r,none),(.ty 5 (.sub 2 6 p),some (.arr 1 ((s0++s).map byA)))]⟩:=by
 have hr':(Oid.ty 5 r=Oid.ty 5 (.sub 2 6 p))=False:=Oid.aO hr _ _ _
 refine aN (n:=19) (rs:=[.tmp 4,.tmp 5]) Tryz.func79 rfl rfl (by decide) rfl rfl rfl ?_;rintro x rfl hrd hng
 (repeat (first|(refine ah rfl rfl ?_)|(refine aj rfl rfl ?_)|(refine af nmd [] hng (by kernel_rfl) fun hf C S K hC1 hC hS hK=>?_;simp (disch:=first|omega|assumption) only [go_sem];(repeat ((first|refine hC1 _ (uB _ (.sl (.ty 5 r) 1 s0.length) _) (by simp (disch:=first|omega|assumption) only [go_sem]) ?_);simp (disch:=first|omega|assumption) only [go_sem]));refine hK ?_;clear hK hS hC hC1 K S C hf)|((first|refine zn ?_|refine ze ?_|refine zk ?_);with_reducible (constructor;repeat constructor);try refine zl ?_)))
 refine aC (aP rfl ?_ ?_)
 all_goals simp only [List.mem_cons,List.not_mem_nil,or_false,forall_eq_or_imp,forall_eq,Option.some.injEq,forall_eq',Mem.ae,eq_self,if_true,↓reduceIte,reduceCtorEq,implies_true,not_true_eq_false,false_imp_iff,true_and,and_true,false_and,and_false,imp_self,Oid.aO hq,Oid.aS hq,Oid.aO hr,Oid.aS hr,List.length_append,List.map_append]
 rfl
theorem kg (q r:Oid) (s:List UInt8) (h0:0 < s.length) (hl:s.length≤140737488355328) (p:Oid) :
  aA Tryz.prog 72 [.ptr (.ty 117 q) 0] (Oid.under p) ⟨[(.ty 117 q,.cells [.ptr (.ty 117 q) 0,.sl (.ty 5 r) 1 s.length]),(.ty 5 r,.arr 1 (s.map byA))],.str s,[(.ty 5 r,none)]⟩:=by
 refine aN (n:=14) (rs:=[.tmp 2]) Tryz.func72 rfl rfl (by decide) rfl rfl rfl ?_;rintro x rfl hrd hng
 refine qw0 ?_
 refine qd (.d [] [] [0,2]) trivial trivial ?_
 refine aC (aP rfl ?_ ?_)
 all_goals simp only [List.mem_cons,List.not_mem_nil,or_false,forall_eq_or_imp,forall_eq,Option.some.injEq,forall_eq',Mem.ae,eq_self,if_true,↓reduceIte,reduceCtorEq,implies_true,not_true_eq_false,false_imp_iff,true_and,and_true,false_and,and_false,imp_self]
theorem jj (q:Oid) (p:Oid) :
  aA Tryz.prog 72 [.ptr (.ty 117 q) 0] (Oid.under p) ⟨[(.ty 117 q,.cells [.nilPtr,.nilSl])],.str [],[]⟩:=by
 refine aN (n:=14) (rs:=[.tmp 2]) Tryz.func72 rfl rfl (by decide) rfl rfl rfl ?_;rintro x rfl hrd hng
 refine qw0 ?_
 refine bE nmd [] [] mixed hng (by kernel_rfl) [0,2] fun hf C S K hC hS hK=>?_;simp (disch:=first|omega|assumption) only [go_sem,fq]
 (first|refine hK (aK rfl) ?_|refine hK (by simp (disch:=first|omega|assumption) only [go_sem,List.reverse_cons,List.reverse_nil,ne_eq,not_false_eq_true,implies_true]) ?_);clear hK hS hC K S C hf
 refine aC (aP rfl ?_ ?_)
 all_goals simp only [List.mem_cons,List.not_mem_nil,or_false,forall_eq_or_imp,forall_eq,Option.some.injEq,forall_eq',Mem.ae,eq_self,if_true,↓reduceIte,reduceCtorEq,implies_true,not_true_eq_false,false_imp_iff,true_and,and_true,false_and,and_false,imp_self]
end Go.Proofs.YtlfeacmbhldjcaaGreatDoor
namespace Go.Proofs.YtlfeacmbhldjcaaGreatDoor
open Go Go.Ab Go.RowKit
set_option maxRecDepth 20000
set_option maxHeartbeats 2000000
abbrev Str:=List UInt8
theorem aH {c i:Nat} {p:Oid} (hi:(i == 999983)=false) (hp:p.mono=false):(Oid.sub c i p).mono=false:=by rw [Oid.qf,hi,hp];rfl
def cM (s:Str):Int:=match Lib.atoiAll s with | .ok v=>v | .range=>Lib.atoiSat s|_=>0
def X1 (s:Str):Bool:=match Lib.atoiAll s with | .ok _=>true|_=>false
def iK (s:Str):Bool:=X1 s && decide (0≤cM s) && decide (s.length≤9) && decide (Lib.itoa (cM s)=s)
theorem afi {s:Str} (h:¬ s.length≤9):iK s=false:=by simp only [iK,decide_eq_false h,Bool.and_false,Bool.false_and]
end Go.Proofs.YtlfeacmbhldjcaaGreatDoor
namespace Go.Proofs.YtlfeacmbhldjcaaGreatDoor
open Go Go.Ab
set_option maxRecDepth 20000
set_option maxHeartbeats 4000000
theorem fG (n:Nat) (h:(n:Int)≤9223372036854775807):(Lib.decDigits n).length≤21:=by
 have:=Lib.itoa_length_le n (by omega) h;rwa [Lib.itoa_nonneg] at this
theorem aho (v:Option AV):gd True v=v:=if_pos trivial
theorem rj (a b:Nat):(a:Int).tmod b=((a % b:Nat):Int):=by
 rw [Int.tmod_eq_emod_of_nonneg (by omega)];rfl
theorem kh (n:Nat) (hn:(n:Int)≤9223372036854775807):∀ p:Oid,aA Tryz.prog 208 [.int .i64 n] (Oid.under p) ⟨[],.str (Lib.decDigits n),[]⟩:=by
 induction n using Nat.strongRecOn with
 | ind n ih =>
  intro p
  have h10:(n:Int).tmod 10=((n % 10:Nat):Int):=rj n 10
  have h11:(n:Int).tdiv 10=((n / 10:Nat):Int):=A2 n 10
  have hw:(48+((n % 10:Nat):Int))≤57:=by omega
  have hd:IntKind.u8.wrap (48+((n % 10:Nat):Int))=((UInt8.ofNat (48+n % 10)).toNat:Int):=by
   rw [w8 (by omega) (by omega),UInt8.toNat_ofNat'];omega
  have hlen:=fG (n / 10) (by omega)
  refine aN (n:=18) (rs:=[.tmp 2]) Tryz.func208 rfl rfl (by decide) rfl rfl rfl ?_;rintro x rfl hrd hng
  refine qr0 ?_
  refine af nmd [] hng (by kernel_rfl) fun hf C S K hC1 hC hS hK=>?_;simp (disch:=first|omega|assumption) only [go_sem,h10,hd,aho]
  refine hK ?_;clear hK hS hC hC1 K S C hf
  refine qw0 ?_
  refine bD rfl rfl (fun hb=>?_) (fun hb=>?_)
  ·refine qw0 ?_
   exact aC (aT (congrArg AV.str (by rw [Lib.decDigits,dif_pos (by omega)];congr 2;rw [Nat.mod_eq_of_lt (by omega)])))
  ·(try ((first|refine zn ?_|refine ze ?_|refine zk ?_);with_reducible (constructor;repeat constructor));try refine zl ?_)
   refine qr .o h11 (cq (ih (n / 10) (by omega) (by omega) _) trivial) ?_
   refine qw0 ?_
   exact aC (aT (congrArg AV.str (by rw [Lib.decDigits.eq_def n,dif_neg (by omega)])))
end Go.Proofs.YtlfeacmbhldjcaaGreatDoor
namespace Go.Proofs.YtlfeacmbhldjcaaGreatDoor
open Go Go.Ab
theorem mv (b:UInt8):∀ (t:Str) (a:Nat),Lib.decFrom a (t++[b])=(Lib.decFrom a t).bind fun v=>(Lib.digitVal b).map fun d=>v * 10+d
 | [],a=>by
  simp only [List.nil_append,Lib.decFrom,Option.bind_some]
  cases Lib.digitVal b<;>rfl
 | c::t,a=>by
  simp only [List.cons_append,Lib.decFrom]
  cases Lib.digitVal c with
  | none=>rfl
  | some d=>exact mv b t _
theorem ry {d:Nat} (h:d < 10):Lib.digitVal (UInt8.ofNat (48+d))=some d:=by
 have h1:(UInt8.ofNat (48+d)).toNat=48+d:=by rw [UInt8.toNat_ofNat'];omega
 rw [Lib.digitVal,h1,if_pos (by omega)];congr 1;omega
theorem yE {b:UInt8} {d:Nat} (h:Lib.digitVal b=some d):d < 10∧b=UInt8.ofNat (48+d):=by
 unfold Lib.digitVal at h
 split at h
 ·simp only [Option.some.injEq] at h
  refine ⟨by omega,UInt8.toNat_inj.1 ?_⟩
  rw [UInt8.toNat_ofNat'];omega
 ·cases h
theorem bG {n:Nat} (h:n < 10):Lib.decDigits n=[UInt8.ofNat (48+n)]:=by rw [Lib.decDigits,dif_pos h]
theorem dV {n:Nat} (h:¬ n < 10):Lib.decDigits n=Lib.decDigits (n / 10)++[UInt8.ofNat (48+n % 10)]:=by rw [Lib.decDigits.eq_def n,dif_neg h]
theorem ki (n:Nat):¬ Lib.decDigits n=[]:=by
 by_cases h:n < 10
 ·rw [bG h];simp
 ·rw [dV h];simp
theorem mw (n:Nat):Lib.decFrom 0 (Lib.decDigits n)=some n:=by
 induction n using Nat.strongRecOn with
 | ind n ih =>
  by_cases h:n < 10
  ·rw [bG h,Lib.decFrom,ry h];simp [Lib.decFrom]
  ·rw [dV h,mv,ih _ (by omega),ry (by omega)]
   simp only [Option.bind_some,Option.map_some];congr 1;omega
theorem oc {t u:Str} (h:¬ t=[]):(t++u).getD 0 0=t.getD 0 0:=by
 cases t with
 | nil=>exact absurd rfl h
 | cons=>rfl
theorem kU (n:Nat):(Lib.decDigits n).getD 0 0=48→n=0:=by
 induction n using Nat.strongRecOn with
 | ind n ih =>
  intro h
  by_cases hs:n < 10
  ·rw [bG hs] at h
   have h1:=congrArg UInt8.toNat h
   simp only [List.getD_cons_zero] at h1
   rw [UInt8.toNat_ofNat'] at h1
   have:(48:UInt8).toNat=48:=rfl
   omega
  ·rw [dV hs,oc (ki _)] at h
   have:=ih (n / 10) (by omega) h
   omega
theorem yF:∀ (k:Nat) (s:Str) (n:Nat),s.length=k→¬ s=[]→¬ (s.getD 0 0=48∧1 < s.length)→Lib.decFrom 0 s=some n→Lib.decDigits n=s:=by
 intro k
 induction k with
 | zero=>intro s n hk hs;exact absurd (List.eq_nil_of_length_eq_zero hk) hs
 | succ k ih =>
  intro s n hk hs hc hd
  rcases List.eq_nil_or_concat s with rfl|⟨t,b,rfl⟩
  ·exact absurd rfl hs
  rw [List.concat_eq_append] at hk hs hc hd ⊢
  rw [mv] at hd
  simp only [Option.bind_eq_some_iff,Option.map_eq_some_iff] at hd
  obtain ⟨v,hv,d,hb,rfl⟩:=hd
  obtain ⟨hd10,rfl⟩:=yE hb
  by_cases ht:t=[]
  ·subst ht
   simp only [Lib.decFrom,Option.some.injEq] at hv
   subst hv
   rw [Nat.zero_mul,Nat.zero_add,bG hd10];rfl
  ·rw [oc ht] at hc
   simp only [List.length_append,List.length_cons,List.length_nil] at hc hk
   have hlt:=List.length_pos_iff.2 ht
   have:=ih t v (by omega) ht (fun h=>hc ⟨h.1,by omega⟩) hv
   have hv1:¬ v=0:=fun e=>by
    subst e
    rw [bG (by decide)] at this
    exact hc ⟨by rw [← this];rfl,by omega⟩
   rw [dV (by omega),show (v * 10+d) / 10=v by omega,show (v * 10+d) % 10=d by omega,this]
def gQ (s:Str):Int:=if s=[]∨9 < s.length∨s.getD 0 0=48∧1 < s.length then -1 else match Lib.decFrom 0 s with|some n=>n|none=>-1
theorem jP (s:Str):iK s=decide (0≤gQ s)∧(iK s=true→cM s=gQ s):=by
 by_cases hl:s.length≤9
 ·have hsh:=Lib.atoiAll_short s (by omega)
  by_cases hg:iK s=true
  ·have h:=hg
   simp only [iK,Bool.and_eq_true,decide_eq_true_eq] at h
   obtain ⟨⟨⟨h1,h2⟩,_⟩,h4⟩:=h
   obtain ⟨n,hn⟩:=Int.eq_ofNat_of_zero_le h2
   rw [hn,Lib.itoa_nonneg] at h4
   have hR:gQ s=n:=by
    rw [gQ,if_neg,← h4,mw]
    rintro (h|h|⟨h,h'⟩)
    ·exact ki n (h4.trans h)
    ·omega
    ·rw [← h4] at h h'
     have:=kU n h
     subst this
     rw [bG (by decide)] at h'
     simp at h'
   rw [hg,hR]
   exact ⟨by simp,fun _=>hn⟩
  ·refine ⟨?_,fun h=>absurd h hg⟩
   have hgf:iK s=false:=by simpa using hg
   rw [hgf]
   symm
   rw [decide_eq_false_iff_not]
   intro h0
   apply hg
   unfold gQ at h0
   split at h0
   ·omega
   ·rename_i hc
    split at h0
    ·rename_i n hd
     have hs:¬ s=[]:=fun e=>hc (.inl e)
     have hcan:=yF _ s n rfl hs (fun h=>hc (.inr (.inr h))) hd
     have hat:Lib.atoi s=some (n:Int):=by
      cases s with
      | nil=>exact absurd rfl hs
      | cons b r =>
       have hb:∃ d,Lib.digitVal b=some d:=by
        simp only [Lib.decFrom] at hd
        split at hd
        ·exact ⟨_,by assumption⟩
        ·cases hd
       obtain ⟨d,hbd⟩:=hb
       unfold Lib.digitVal at hbd
       split at hbd
       ·rename_i hr
        have h45:(b == 45)=false:=by rw [beq_eq_false_iff_ne];rintro rfl;exact absurd hr.1 (by decide)
        have h43:(b == 43)=false:=by rw [beq_eq_false_iff_ne];rintro rfl;exact absurd hr.1 (by decide)
        simp only [Lib.atoi,h45,h43,Lib.decNat,List.isEmpty_cons,hd,Bool.false_eq_true,if_false,Option.map_some]
       ·cases hbd
     rw [hat] at hsh
     have h1:Lib.atoiAll s = .ok (n:Int):=hsh
     have h2:cM s=n:=by simp only [cM,h1]
     simp only [iK,h2,X1,h1,Lib.itoa_nonneg,hcan,Bool.and_eq_true,decide_eq_true_eq]
     exact ⟨⟨⟨trivial,by omega⟩,hl⟩,trivial⟩
    ·omega
 ·have hR:gQ s = -1:=by rw [gQ,if_pos (.inr (.inl (by omega)))]
  rw [hR,afi hl]
  exact ⟨by decide,fun h=>by cases h⟩
end Go.Proofs.YtlfeacmbhldjcaaGreatDoor
namespace Go.Proofs.YtlfeacmbhldjcaaGreatDoor
open Go Go.Ab
set_option maxRecDepth 20000
set_option maxHeartbeats 4000000
end Go.Proofs.YtlfeacmbhldjcaaGreatDoor
namespace Go.Proofs.YtlfeacmbhldjcaaGreatDoor
open Go Go.Ab
set_option maxRecDepth 20000
set_option maxHeartbeats 2000000
def chunk (s:Str):Str:=Lib.itoa s.length++[58]++s++[44]
def bV:List Str→Str
 | []=>[]
 | s::l=>chunk s++bV l
theorem kV (a b:List Str):bV (a++b)=bV a++bV b:=by
 induction a with
 | nil=>rfl
 | cons s a ih=>simp only [List.cons_append,bV,ih,List.append_assoc]
theorem kl {l:List Str} {i:Nat} (h:i < l.length):bV (l.take (i+1))=bV (l.take i)++chunk (l.getD i default):=by
 rw [List.take_add_one,kV,List.getElem?_eq_getElem h,List.getD_eq_getElem?_getD,List.getElem?_eq_getElem h]
 simp [bV]
theorem gA {l:List Str} (i:Nat):(bV (l.take i)).length≤(bV l).length:=by
 conv=>rhs;rw [← List.take_append_drop i l,kV,List.length_append]
 omega
theorem dW (s:Str):(Lib.itoa s.length).length+1+s.length+1=(chunk s).length:=by simp only [chunk,List.length_append,List.length_cons,List.length_nil]
theorem tc (q:Oid) (s:Str) (hl:(chunk s).length≤140737488355328) (p:Oid) (hp:p.mono=false) (hq:¬ Oid.under p (.ty 117 q)) :
  aA Tryz.prog 239 [.ptr (.ty 117 q) 0,.str s] (Oid.under p) ⟨[(.ty 117 q,.cells [.nilPtr,.nilSl])],.ptr (.ty 117 q) 0,
   [(.ty 117 q,some (.cells [.ptr (.ty 117 q) 0,.sl (.ty 5 (.sub 2 6 (.sub 1 8 p))) 1 (chunk s).length])),(.ty 5 (.sub 2 6 (.sub 1 8 p)),some (.arr 1 ((chunk s).map byA)))]⟩:=by
 have hs:=dW s
 have hq':∀ c i,¬ Oid.under (.sub c i p) (.ty 117 q):=fun c i h=>hq (Oid.ay h)
 refine aN (n:=15) (rs:=[.tmp 4]) Tryz.func239 rfl rfl (by decide) rfl rfl rfl ?_;rintro x rfl hrd hng
 (repeat (first|(refine ah rfl rfl ?_)|(refine aj rfl rfl ?_)|(refine af nmd [] hng (by kernel_rfl) fun hf C S K hC1 hC hS hK=>?_;simp (disch:=first|omega|assumption) only [go_sem];(repeat ((first|refine hC1 _ (ly s.length (by omega) (by omega) _ (aH rfl hp)) (by simp (disch:=first|omega|assumption) only [go_sem]) ?_|refine hC1 _ (rv q (chunk s) hl _ (hq' _ _)) (by simp (disch:=first|omega|assumption) only [go_sem]) ?_);simp (disch:=first|omega|assumption) only [go_sem]));refine hK ?_;clear hK hS hC hC1 K S C hf)|((first|refine zn ?_|refine ze ?_|refine zk ?_);with_reducible (constructor;repeat constructor);try refine zl ?_)))
 refine aC (aP rfl ?_ ?_)
 all_goals simp only [List.mem_cons,List.not_mem_nil,or_false,forall_eq_or_imp,forall_eq,Option.some.injEq,forall_eq',Mem.ae,eq_self,if_true,↓reduceIte,reduceCtorEq,implies_true,not_true_eq_false,false_imp_iff,true_and,and_true,false_and,and_false,imp_self,Oid.ty.injEq,Nat.reduceEqDiff]
theorem yG (q r:Oid) (s0 s:Str) (hl:s0.length+(chunk s).length≤140737488355328) (p:Oid) (hp:p.mono=false) (hq:¬ Oid.under p (.ty 117 q)) (hr:¬ Oid.under p (.ty 5 r)) :
  aA Tryz.prog 239 [.ptr (.ty 117 q) 0,.str s] (Oid.under p) ⟨[(.ty 117 q,.cells [.ptr (.ty 117 q) 0,.sl (.ty 5 r) 1 s0.length]),(.ty 5 r,.arr 1 (s0.map byA))],.ptr (.ty 117 q) 0,
   [(.ty 117 q,some (.cells [.ptr (.ty 117 q) 0,.sl (.ty 5 (.sub 2 6 (.sub 1 8 p))) 1 (s0++chunk s).length])),(.ty 5 r,none),(.ty 5 (.sub 2 6 (.sub 1 8 p)),some (.arr 1 ((s0++chunk s).map byA)))]⟩:=by
 have hs:=dW s
 have hq':∀ c i,¬ Oid.under (.sub c i p) (.ty 117 q):=fun c i h=>hq (Oid.ay h)
 have hr':∀ c i,¬ Oid.under (.sub c i p) (.ty 5 r):=fun c i h=>hr (Oid.ay h)
 have hn:¬ Oid.sub 2 6 (.sub 1 8 p)=r:=fun e=>hr (by subst e;simp [Oid.under,Oid.az])
 have hn':¬ r=Oid.sub 2 6 (.sub 1 8 p):=fun e=>hn e.symm
 refine aN (n:=15) (rs:=[.tmp 4]) Tryz.func239 rfl rfl (by decide) rfl rfl rfl ?_;rintro x rfl hrd hng
 (repeat (first|(refine ah rfl rfl ?_)|(refine aj rfl rfl ?_)|(refine af nmd [] hng (by kernel_rfl) fun hf C S K hC1 hC hS hK=>?_;simp (disch:=first|omega|assumption) only [go_sem];(repeat ((first|refine hC1 _ (ly s.length (by omega) (by omega) _ (aH rfl hp)) (by simp (disch:=first|omega|assumption) only [go_sem]) ?_|refine hC1 _ (uC q r s0 (chunk s) hl _ (hq' _ _) (hr' _ _)) (by simp (disch:=first|omega|assumption) only [go_sem]) ?_);simp (disch:=first|omega|assumption) only [go_sem]));refine hK ?_;clear hK hS hC hC1 K S C hf)|((first|refine zn ?_|refine ze ?_|refine zk ?_);with_reducible (constructor;repeat constructor);try refine zl ?_)))
 refine aC (aP rfl ?_ ?_)
 all_goals simp only [List.mem_cons,List.not_mem_nil,or_false,forall_eq_or_imp,forall_eq,Option.some.injEq,forall_eq',Mem.ae,eq_self,if_true,↓reduceIte,reduceCtorEq,implies_true,not_true_eq_false,false_imp_iff,true_and,and_true,false_and,and_false,imp_self,Oid.ty.injEq,Nat.reduceEqDiff,hn,hn',List.length_append]
def py (n:Nat) (p:Oid):Oid:=.sub 2 6 (.sub 1 8 (.sub (4 * n) 3 p))
theorem td {c n:Nat} {p:Oid} (h:4 * n < c):¬ Oid.under (.sub c 3 p) (.ty 5 (py n p)):=by
 have hself:¬ Oid.under (.sub c 3 p) p:=fun h=>by have:=Oid.cn h;simp [Oid.depth] at this;omega
 simp only [py,Oid.under,reduceCtorEq,false_or,Oid.sub.injEq,Nat.reduceEqDiff,false_and,and_false,hself,or_false]
 omega
theorem WY (l:List Str) (hne:¬ l=[]) (hl:(bV l).length≤140737488355328) (hn:l.length≤140737488355328) (q:Oid) (p:Oid) (hp:p.mono=false) (hq:¬ Oid.under p (.ty 117 q)) :
  aA Tryz.prog 238 [.list 1 (l.map AV.str),.ptr (.ty 117 q) 0,.fn (.func 239) [] []] (Oid.under p) ⟨[(.ty 117 q,.cells [.nilPtr,.nilSl])],.ptr (.ty 117 q) 0,
   [(.ty 117 q,some (.cells [.ptr (.ty 117 q) 0,.sl (.ty 5 (py l.length p)) 1 (bV l).length])),(.ty 5 (py l.length p),some (.arr 1 ((bV l).map byA)))]⟩:=by
 have hq':∀ c i,¬ Oid.under (.sub c i p) (.ty 117 q):=fun c i h=>hq (Oid.ay h)
 refine aN (n:=21) (rs:=[.tmp 6]) Tryz.func238 rfl rfl (by decide) rfl rfl rfl ?_;rintro x rfl hrd hng
 refine qw0 ?_
 refine a6 [1,2,9,10,11] (fun k s'=>∃ (i:Nat) (M:List (Oid × ar)),k=l.length - i∧i≤l.length∧(i=0∧M=[(.ty 117 q,.cells [.nilPtr,.nilSl])] ∨
   ¬ i=0∧M=[(.ty 117 q,.cells [.ptr (.ty 117 q) 0,.sl (.ty 5 (py i x.p)) 1 (bV (l.take i)).length]),(.ty 5 (py i x.p),.arr 1 ((bV (l.take i)).map byA))]) ∧
   s' = ⟨[(1,.ptr (.ty 117 q) 0),(2,.fn (.func 239) [] []),(9,.list 1 (l.map AV.str)),(10,.int .i64 l.length),(11,.int .i64 i)],Mem.of M,2+4 * i,[]⟩) _ ⟨0,_,rfl,Nat.zero_le _,.inl ⟨rfl,rfl⟩,rfl⟩ ?_
 rintro k s' ⟨i,M,rfl,hi,hM,rfl⟩
 rcases hM with ⟨rfl,rfl⟩|⟨h0,rfl⟩
 ·refine qw0 ?_
  refine bD rfl rfl (fun hb=>?_) (fun hb=>?_)
  ·have hi0:0 < l.length:=by omega
   have ht:=kl (l:=l) hi0
   have hle:=gA (l:=l) 1
   rw [List.take_zero] at ht
   simp only [Nat.zero_add] at ht
   (repeat (first|(refine ah rfl rfl ?_)|(refine aj rfl rfl ?_)|(refine af nmd [] hng (by kernel_rfl) fun hf C S K hC1 hC hS hK=>?_;simp (disch:=first|omega|assumption) only [go_sem];(repeat ((first|refine hC1 _ (tc q (l.getD 0 default) (by rw [ht] at hle;simp only [bV,List.nil_append] at hle;omega) _ (aH rfl hp) (hq' _ _)) (by simp (disch:=first|omega|assumption) only [go_sem]) ?_);simp (disch:=first|omega|assumption) only [go_sem]));refine hK ?_;clear hK hS hC hC1 K S C hf)|((first|refine zn ?_|refine ze ?_|refine zk ?_);with_reducible (constructor;repeat constructor);try refine zl ?_)))
   refine ⟨_,_,?_,fun _ _ h=>h,1,_,rfl,by omega,.inr ⟨by omega,rfl⟩,?_⟩
   ·omega
   ·rw [ht];rfl
  ·exact absurd (List.eq_nil_of_length_eq_zero (by omega)) hne
 ·refine qw0 ?_
  refine bD rfl rfl (fun hb=>?_) (fun hb=>?_)
  ·have ht:=kl (l:=l) (i:=i) (by omega)
   have hle:=gA (l:=l) (i+1)
   (repeat (first|(refine ah rfl rfl ?_)|(refine aj rfl rfl ?_)|(refine af nmd [] hng (by kernel_rfl) fun hf C S K hC1 hC hS hK=>?_;simp (disch:=first|omega|assumption) only [go_sem];(repeat ((first|refine hC1 _ (yG q (py i x.p) (bV (l.take i)) (l.getD i default) (by rw [ht,List.length_append] at hle;omega) _ (aH rfl hp) (hq' _ _) (td (by omega))) (by simp (disch:=first|omega|assumption) only [go_sem]) ?_);simp (disch:=first|omega|assumption) only [go_sem]));refine hK ?_;clear hK hS hC hC1 K S C hf)|((first|refine zn ?_|refine ze ?_|refine zk ?_);with_reducible (constructor;repeat constructor);try refine zl ?_)))
   refine ⟨_,_,?_,fun _ _ h=>h,i+1,_,rfl,by omega,.inr ⟨by omega,rfl⟩,?_⟩
   ·omega
   ·have hc:4 * (i+1)=2+4 * i+1+1:=by omega
    rw [ht,List.length_append,py,hc,show 2+4 * i+1+1+1+1=2+(2+4 * i+1+1) by omega];rfl
  ·obtain rfl:i=l.length:=by omega
   refine qw0 ?_
   refine aC (aP rfl ?_ ?_)
   all_goals simp only [List.mem_cons,List.not_mem_nil,or_false,forall_eq_or_imp,forall_eq,Option.some.injEq,forall_eq',Mem.ae,eq_self,if_true,↓reduceIte,reduceCtorEq,implies_true,not_true_eq_false,false_imp_iff,true_and,and_true,false_and,and_false,imp_self,Oid.ty.injEq,Nat.reduceEqDiff,List.take_length]
theorem Ct (q:Oid) (p:Oid) :
  aA Tryz.prog 238 [.list 1 [],.ptr q 0,.fn (.func 239) [] []] (Oid.under p) ⟨[(q,.cells [.nilPtr,.nilSl])],.ptr q 0,[]⟩:=by
 refine aN (n:=21) (rs:=[.tmp 6]) Tryz.func238 rfl rfl (by decide) rfl rfl rfl ?_;rintro x rfl hrd hng
 refine qw0 ?_
 refine a6 [1,2,9,10,11] (fun k s'=>k=0∧s' = ⟨[(1,.ptr q 0),(2,.fn (.func 239) [] []),(9,.list 1 []),(10,.int .i64 0),(11,.int .i64 0)],Mem.of [(q,.cells [.nilPtr,.nilSl])],2,[]⟩) _ ⟨rfl,rfl⟩ ?_
 rintro k s' ⟨rfl,rfl⟩
 refine qw0 ?_
 refine aC (aP rfl ?_ ?_)
 all_goals simp only [List.mem_cons,List.not_mem_nil,or_false,forall_eq_or_imp,forall_eq,Option.some.injEq,forall_eq',Mem.ae,eq_self,if_true,↓reduceIte,reduceCtorEq,implies_true,not_true_eq_false,false_imp_iff,true_and,and_true,false_and,and_false,imp_self,Oid.ty.injEq,Nat.reduceEqDiff]
theorem te {c i j:Nat} {t:Nat} {p:Oid} (h:¬ j=i):¬ Oid.under (.sub c j p) (.ty t (.sub c i p)):=by
 have hself:¬ Oid.under (.sub c j p) p:=fun h=>by have:=Oid.cn h;simp [Oid.depth] at this;omega
 simp only [Oid.under,reduceCtorEq,false_or,Oid.sub.injEq,h,false_and,and_false,hself,or_false,not_false_eq_true]
theorem od (l:List Str) (hl:(bV l).length≤140737488355328) (hn:l.length≤140737488355328) (p:Oid) (hp:p.mono=false) :
  aA Tryz.prog 204 [.list 1 (l.map AV.str)] (Oid.under p) ⟨[],.str (bV l),[]⟩:=by
 by_cases hne:l=[]
 ·subst hne
  refine aN (n:=8) (rs:=[.tmp 2]) Tryz.func204 rfl rfl (by decide) rfl rfl rfl ?_;rintro x rfl hrd hng
  refine qw0 ?_
  refine af nmd [] hng (by kernel_rfl) fun hf C S K hC1 hC hS hK=>?_;simp (disch:=first|omega|assumption) only [go_sem]
  refine hC1 _ (Ct (.ty 117 (.sub 1 2 _)) _) qs0 ?_
  simp (disch:=first|omega|assumption) only [go_sem]
  refine hC1 _ (jj (.sub 1 2 _) _) qs0 ?_
  simp (disch:=first|omega|assumption) only [go_sem]
  refine hK ?_;clear hK hS hC hC1 K S C hf
  refine qw0 ?_
  exact aC (aT rfl)
 ·have h0:0 < (bV l).length:=by
   cases l with
   | nil=>exact absurd rfl hne
   | cons s l =>
    have:=dW s
    simp only [bV,List.length_append];omega
  refine aN (n:=8) (rs:=[.tmp 2]) Tryz.func204 rfl rfl (by decide) rfl rfl rfl ?_;rintro x rfl hrd hng
  refine qw0 ?_
  refine af nmd [] hng (by kernel_rfl) fun hf C S K hC1 hC hS hK=>?_;simp (disch:=first|omega|assumption) only [go_sem]
  refine hC1 _ (WY l hne hl hn (.sub 1 2 _) _ (aH rfl hp) (te (by decide))) qs0 ?_
  simp (disch:=first|omega|assumption) only [go_sem]
  refine hC1 _ (kg (.sub 1 2 _) (py l.length (.sub 1 3 x.p)) _ h0 hl _) qs0 ?_
  simp (disch:=first|omega|assumption) only [go_sem]
  refine hK ?_;clear hK hS hC hC1 K S C hf
  refine qw0 ?_
  exact aC (aT rfl)
end Go.Proofs.YtlfeacmbhldjcaaGreatDoor
namespace Go.Proofs.YtlfeacmbhldjcaaGreatDoor
open Go Go.Ab Go.RowKit
set_option maxRecDepth 20000
set_option maxHeartbeats 2000000
def colon (s:Str):Nat:=(Lib.indexByte s 58).toNat
def kW (s:Str):Str:=s.take (colon s)
def iU (s:Str):Str:=s.drop (colon s+1)
def kX (s:Str):Nat:=(cM (kW s)).toNat
def okS (s:Str):Prop:=0≤Lib.indexByte s 58∧iK (kW s)=true∧cM (kW s) < (iU s).length∧(iU s).getD (kX s) 0=44
instance (s:Str):Decidable (okS s):=by unfold okS;infer_instance
def yH:Nat→Str→Option (List Str)
 | 0,_=>none
 | k+1,s=>if s=[] then some [] else if okS s then (yH k ((iU s).drop (kX s+1))).map ((iU s).take (kX s)::·) else none
theorem pz {s:Str} (h:¬ s=[]):((iU s).drop (kX s+1)).length < s.length:=by
 have:=List.length_pos_iff.2 h;simp only [iU,List.length_drop];omega
theorem oe:∀ (k k':Nat) (s:Str),s.length < k→s.length < k'→yH k s=yH k' s
 | 0,_,_,h,_=>absurd h (Nat.not_lt_zero _)
 | _+1,0,_,_,h=>absurd h (Nat.not_lt_zero _)
 | k+1,k' + 1,s,h,h'=>by
  simp only [yH]
  by_cases h0:s=[]
  ·rw [if_pos h0,if_pos h0]
  rw [if_neg h0,if_neg h0]
  split
  ·rw [oe k k' _ (by have:=pz h0;omega) (by have:=pz h0;omega)]
  ·rfl
def rz (s:Str):Option (List Str):=yH (s.length+1) s
theorem yI {s:Str} (h0:¬ s=[]) (h:okS s):rz s=(rz ((iU s).drop (kX s+1))).map ((iU s).take (kX s)::·):=by
 rw [rz,yH,if_neg h0,if_pos h]
 exact congrArg _ (oe _ _ _ (pz h0) (Nat.lt_succ_self _))
end Go.Proofs.YtlfeacmbhldjcaaGreatDoor
namespace Go.Proofs.YtlfeacmbhldjcaaGreatDoor
open Go Go.Ab
set_option maxRecDepth 20000
set_option maxHeartbeats 4000000
structure Bits where
 k:Int
 m:Int
 l:Str
deriving DecidableEq
def Bits.av (b:Bits):AV:=.agg [.int .i64 b.k,.int .i64 b.m,.str b.l]
def Bits.no:Bits:=⟨0,0,[]⟩
def Bits.ok (b:Bits):Prop:=(-9223372036854775808≤b.k∧b.k≤9223372036854775807)∧(-9223372036854775808≤b.m∧b.m≤9223372036854775807)∧b.l.length≤4000000000
def cO (b:Bits):Str:=if b.k=0 then [] else bV [Lib.itoa b.k,Lib.itoa b.m,b.l]
theorem fZ {s:Str} (h:s.length≤4000000000):(chunk s).length≤4000000100:=by
 have h1:=dW s
 have h2:=Lib.itoa_length_le s.length (by omega) (by omega)
 omega
theorem Cu (b:Bits) (hb:b.ok) (p:Oid) (hp:p.mono=false):aA Tryz.prog 205 [b.av] (Oid.under p) ⟨[],.str (cO b),[]⟩:=by
 obtain ⟨k,m,l⟩:=b
 obtain ⟨⟨k1,k2⟩,⟨m1,m2⟩,hl⟩:=hb
 simp only at k1 k2 m1 m2 hl
 have hk:=Lib.itoa_length_le k k1 k2
 have hm:=Lib.itoa_length_le m m1 m2
 have h1:=fZ (s:=Lib.itoa k) (by omega)
 have h2:=fZ (s:=Lib.itoa m) (by omega)
 have h3:=fZ hl
 have hE:(bV [Lib.itoa k,Lib.itoa m,l]).length≤140737488355328:=by simp only [bV,List.length_append,List.length_nil];omega
 simp only [Bits.av]
 refine aN (n:=16) (rs:=[.tmp 2]) Tryz.func205 rfl rfl (by decide) rfl rfl rfl ?_;rintro x rfl hrd hng
 refine qw0 ?_
 refine bD rfl rfl (fun hb=>?_) (fun hb=>?_)
 ·refine qw0 ?_
  exact aC (aT (congrArg AV.str (by rw [cO,if_pos hb])))
 ·(try ((first|refine zn ?_|refine ze ?_|refine zk ?_);with_reducible (constructor;repeat constructor));try refine zl ?_)
  refine bE nmd [] [(2,4),(2,7),(5,7)] mixed hng (by kernel_rfl) [2] fun hf C S K hC hS hK=>?_;simp (disch:=first|omega|assumption) only [go_sem]
  (repeat ((first|refine hC _ (ly k k1 k2 _ (aH rfl hp)) (by simp (disch:=first|omega|assumption) only [go_sem]) ?_|refine hC _ (ly m m1 m2 _ (aH rfl hp)) (by simp (disch:=first|omega|assumption) only [go_sem]) ?_|refine hC _ (od [Lib.itoa k,Lib.itoa m,l] hE (by simp) _ (aH rfl hp)) (by simp (disch:=first|omega|assumption) only [go_sem]) ?_);simp (disch:=first|omega|assumption) only [go_sem]))
  (first|refine hK (aK rfl) ?_|refine hK (by simp (disch:=first|omega|assumption) only [go_sem,List.reverse_cons,List.reverse_nil,ne_eq,not_false_eq_true,implies_true]) ?_);clear hK hS hC K S C hf
  refine qw0 ?_
  exact aC (aT (congrArg AV.str (by rw [cO,if_neg hb])))
def tf (s a b c:Str):Bool:=iK a && iK b && decide (1≤cM a) && decide (cM a≤3) && decide (cM b≤7) && !(decide (cM a=2) && decide (c≠[])) && decide (cO ⟨cM a,cM b,c⟩=s)
theorem rA {s a b c:Str}:tf s a b c=true↔iK a=true∧iK b=true∧1≤cM a∧cM a≤3∧cM b≤7∧¬ (cM a=2∧¬ c=[])∧cO ⟨cM a,cM b,c⟩=s:=by
 simp only [tf,Bool.and_eq_true,decide_eq_true_eq,Bool.not_eq_true',Bool.and_eq_false_imp,decide_eq_false_iff_not,not_and,and_assoc,ne_eq]
def km (s:Str):Bits × Int:=if s=[] then (Bits.no,0) else match rz s with
 | some [a,b,c]=>if tf s a b c=true then (⟨cM a,cM b,c⟩,0) else (Bits.no,20)
 | _=>(Bits.no,20)
end Go.Proofs.YtlfeacmbhldjcaaGreatDoor
namespace Go.Proofs.YtlfeacmbhldjcaaGreatDoor
open Go Go.Ab
set_option maxRecDepth 20000
set_option maxHeartbeats 4000000
theorem mx (l:List Str) (hl:(bV l).length≤140737488355328) (hn:l.length≤140737488355328) (p:Oid):aA Tryz.prog 173 [.list 1 (l.map AV.str)] (Oid.under p) ⟨[],.str (bV l),[]⟩:=by
 refine aN (n:=27) (rs:=[.tmp 2]) Tryz.func173 rfl rfl (by decide) rfl rfl rfl ?_;rintro x rfl hrd hng
 refine qw0 ?_
 refine a6 [0,3,4] (fun k s'=>∃ (i c:Nat),k=l.length - i∧i≤l.length∧s' = ⟨[(0,.list 1 (l.map AV.str)),(3,.str (bV (l.take i))),(4,.int .i64 i)],Mem.of [],c,[]⟩) _ ⟨0,_,rfl,Nat.zero_le _,rfl⟩ ?_
 rintro k s' ⟨i,c,rfl,hi,rfl⟩
 refine qw0 ?_
 refine bD rfl rfl (fun hb=>?_) (fun hb=>?_)
 ·have ht:=kl (l:=l) (i:=i) (by omega)
  have hle:=gA (l:=l) (i+1)
  have hch:=dW (l.getD i default)
  have hdl:=Lib.itoa_nonneg (l.getD i default).length
  rw [hdl] at hch
  rw [ht,List.length_append] at hle
  (try ((first|refine zn ?_|refine ze ?_|refine zk ?_);with_reducible (constructor;repeat constructor));try refine zl ?_)
  refine bE nmd [] [(6,12)] mixed hng (by kernel_rfl) [0,3,4] fun hf C S K hC hS hK=>?_;simp (disch:=first|omega|assumption) only [go_sem]
  (repeat ((first|refine hC _ (kh (l.getD i default).length (by omega) _) (by simp (disch:=first|omega|assumption) only [go_sem]) ?_);simp (disch:=first|omega|assumption) only [go_sem]))
  (first|refine hK (aK rfl) ?_|refine hK (by simp (disch:=first|omega|assumption) only [go_sem,List.reverse_cons,List.reverse_nil,ne_eq,not_false_eq_true,implies_true]) ?_);clear hK hS hC K S C hf
  refine qw0 ?_
  have hs:bV (l.take i)++Lib.decDigits (l.getD i default).length++[58]++l.getD i default++[44]=bV (l.take (i+1)):=by rw [ht,chunk,hdl];simp only [List.append_assoc]
  rw [hs]
  exact ⟨_,_,by omega,fun _ _ h=>h,i+1,c+1+1+1,rfl,by omega,rfl⟩
 ·obtain rfl:i=l.length:=by omega
  refine qw0 ?_
  exact aC (aT (congrArg AV.str (by rw [List.take_length])))
theorem yJ (b:Bits) (hb:b.ok) (h0:0≤b.k∧0≤b.m) (p:Oid):aA Tryz.prog 174 [b.av] (Oid.under p) ⟨[],.str (cO b),[]⟩:=by
 obtain ⟨k,m,l⟩:=b
 obtain ⟨⟨k1,k2⟩,⟨m1,m2⟩,hl⟩:=hb
 simp only at k1 k2 m1 m2 hl h0
 obtain ⟨k,rfl⟩:=Int.eq_ofNat_of_zero_le h0.1
 obtain ⟨m,rfl⟩:=Int.eq_ofNat_of_zero_le h0.2
 have hk:=fG k k2
 have hm:=fG m m2
 have h1:=fZ (s:=Lib.decDigits k) (by omega)
 have h2:=fZ (s:=Lib.decDigits m) (by omega)
 have h3:=fZ hl
 have hE:(bV [Lib.decDigits k,Lib.decDigits m,l]).length≤140737488355328:=by simp only [bV,List.length_append,List.length_nil];omega
 simp only [Bits.av]
 refine aN (n:=16) (rs:=[.tmp 2]) Tryz.func174 rfl rfl (by decide) rfl rfl rfl ?_;rintro x rfl hrd hng
 refine qw0 ?_
 refine bD rfl rfl (fun hb=>?_) (fun hb=>?_)
 ·refine qw0 ?_
  exact aC (aT (congrArg AV.str (by rw [cO,if_pos hb])))
 ·(try ((first|refine zn ?_|refine ze ?_|refine zk ?_);with_reducible (constructor;repeat constructor));try refine zl ?_)
  refine bE nmd [] [(2,4),(2,7),(5,7)] mixed hng (by kernel_rfl) [2] fun hf C S K hC hS hK=>?_;simp (disch:=first|omega|assumption) only [go_sem]
  (repeat ((first|refine hC _ (kh k k2 _) (by simp (disch:=first|omega|assumption) only [go_sem]) ?_|refine hC _ (kh m m2 _) (by simp (disch:=first|omega|assumption) only [go_sem]) ?_|refine hC _ (mx [Lib.decDigits k,Lib.decDigits m,l] hE (by simp) _) (by simp (disch:=first|omega|assumption) only [go_sem]) ?_);simp (disch:=first|omega|assumption) only [go_sem]))
  (first|refine hK (aK rfl) ?_|refine hK (by simp (disch:=first|omega|assumption) only [go_sem,List.reverse_cons,List.reverse_nil,ne_eq,not_false_eq_true,implies_true]) ?_);clear hK hS hC K S C hf
  refine qw0 ?_
  exact aC (aT (congrArg AV.str (by rw [cO,if_neg hb,Lib.itoa_nonneg,Lib.itoa_nonneg])))
end Go.Proofs.YtlfeacmbhldjcaaGreatDoor
namespace Go.Proofs.YtlfeacmbhldjcaaGreatDoor
open Go Go.Ab
set_option maxRecDepth 20000
set_option maxHeartbeats 4000000
theorem rB (c:UInt8):∀ r:Str,(Lib.indexByte r c = -1∧∀ j,j < r.length→¬ r.getD j 0=c)∨∃ i:Nat,Lib.indexByte r c=i∧i < r.length∧r.getD i 0=c∧∀ j,j < i→¬ r.getD j 0=c
 | []=>.inl ⟨rfl,fun j hj=>absurd hj (Nat.not_lt_zero _)⟩
 | b::r=>by
  by_cases hb:b=c
  ·refine .inr ⟨0,by simp [Lib.indexByte,hb],by simp,by simp [hb],fun j hj=>absurd hj (Nat.not_lt_zero _)⟩
  have hb':(b == c)=false:=by simpa using hb
  rcases rB c r with ⟨h1,h2⟩|⟨i,h1,h2,h3,h4⟩
  ·refine .inl ⟨by simp [Lib.indexByte,hb',h1],fun j hj=>?_⟩
   cases j with
   | zero=>simpa using hb
   | succ j=>simpa using h2 j (by simpa using hj)
  ·refine .inr ⟨i+1,?_,by simpa using h2,by simpa using h3,fun j hj=>?_⟩
   ·have:¬ Lib.indexByte r c = -1:=by omega
    simp only [Lib.indexByte,hb',Bool.false_eq_true,if_false,beq_iff_eq,this,h1];omega
   ·cases j with
    | zero=>simpa using hb
    | succ j=>simpa using h4 j (by omega)
end Go.Proofs.YtlfeacmbhldjcaaGreatDoor
namespace Go.Proofs.YtlfeacmbhldjcaaGreatDoor
open Go Go.Ab
set_option maxRecDepth 20000
set_option maxHeartbeats 4000000
theorem Cv {s a b c:Str}:tf s a b c=true↔1≤gQ a∧gQ a≤3∧0≤gQ b∧gQ b≤7∧¬ (gQ a=2∧¬ c=[])∧cO ⟨gQ a,gQ b,c⟩=s:=by
 rw [rA]
 obtain ⟨a1,a2⟩:=jP a
 obtain ⟨b1,b2⟩:=jP b
 constructor
 ·rintro ⟨h1,h2,h3,h4,h5,h6,h7⟩
  rw [a2 h1] at h3 h4 h6 h7
  rw [b2 h2] at h5 h7
  rw [b1,decide_eq_true_eq] at h2
  exact ⟨h3,h4,h2,h5,h6,h7⟩
 ·rintro ⟨h1,h2,h3,h4,h5,h6⟩
  have g1:iK a=true:=by rw [a1,decide_eq_true_eq];omega
  have g2:iK b=true:=by rw [b1,decide_eq_true_eq];omega
  rw [a2 g1,b2 g2]
  exact ⟨g1,g2,h1,h2,h4,h5,h6⟩
theorem WZ {s a b c:Str}:(if tf s a b c=true then ((⟨cM a,cM b,c⟩:Bits),(0:Int)) else (Bits.no,20))=if tf s a b c=true then (⟨gQ a,gQ b,c⟩,0) else (Bits.no,20):=by
 split
 ·rename_i h
  have:=rA.1 h
  rw [(jP a).2 this.1,(jP b).2 this.2.1]
 ·rfl
end Go.Proofs.YtlfeacmbhldjcaaGreatDoor
namespace Go.Proofs.YtlfeacmbhldjcaaGreatDoor
open Go Go.Ab
set_option maxRecDepth 20000
set_option maxHeartbeats 4000000
theorem yK {a b:List Str} {i:Nat} (ha:i < a.length) (hb:i < b.length) (h:a.take i=b.take i) (he:a.getD i default=b.getD i default):a.take (i+1)=b.take (i+1):=by
 rw [List.take_add_one,List.take_add_one,h,List.getElem?_eq_getElem ha,List.getElem?_eq_getElem hb]
 rw [List.getD_eq_getElem?_getD,List.getD_eq_getElem?_getD,List.getElem?_eq_getElem ha,List.getElem?_eq_getElem hb] at he
 simp only [Option.getD_some] at he
 rw [he]
theorem uD (a b:List Str) (ha:a.length≤140737488355328) (hbl:b.length≤140737488355328) (p:Oid):aA Tryz.prog 8 [.list 1 (a.map AV.str),.list 1 (b.map AV.str)] (Oid.under p) ⟨[],.bool (decide (a=b)),[]⟩:=by
 refine aN (n:=26) (rs:=[.tmp 4]) Tryz.func8 rfl rfl (by decide) rfl rfl rfl ?_;rintro x rfl hrd hng
 refine qw0 ?_
 refine bD rfl rfl (fun hb=>?_) (fun hb=>?_)
 ·have hne:¬ a=b:=fun e=>hb (by rw [e])
  refine qw0 ?_
  exact aC (aT (congrArg AV.bool (decide_eq_false hne).symm))
 ·have hlen:a.length=b.length:=by omega
  refine qw0 ?_
  refine a6 [0,1,5] (fun k s'=>∃ (i c:Nat),k=a.length - i∧i≤a.length∧a.take i=b.take i∧s' = ⟨[(0,.list 1 (a.map AV.str)),(1,.list 1 (b.map AV.str)),(5,.int .i64 i)],Mem.of [],c,[]⟩) _ ⟨0,_,rfl,Nat.zero_le _,rfl,rfl⟩ ?_
  rintro k s' ⟨i,c,rfl,hi,htk,rfl⟩
  refine qw0 ?_
  refine bD rfl rfl (fun hb=>?_) (fun hb=>?_)
  ·(try ((first|refine zn ?_|refine ze ?_|refine zk ?_);with_reducible (constructor;repeat constructor));try refine zl ?_)
   refine dE [0,1,5,25] (fun s'=>∃ c':Nat,s' = ⟨[(0,.list 1 (a.map AV.str)),(1,.list 1 (b.map AV.str)),(5,.int .i64 i),(25,.bool (decide (¬ a.getD i default=b.getD i default)))],Mem.of [],c',[]⟩) ?_ ?_
   ·refine qd (.d [] [] [0,1,5,25]) trivial trivial ?_
    exact aR ⟨_,rfl⟩
   rintro s' ⟨c',rfl⟩
   refine qw0 ?_
   refine bD rfl rfl (fun hb=>?_) (fun hb=>?_)
   ·have hne:¬ a=b:=fun e=>hb (by rw [e])
    refine qw0 ?_
    exact aC (aT (congrArg AV.bool (decide_eq_false hne).symm))
   ·refine qw0 ?_
    exact ⟨_,_,by omega,fun _ _ h=>h,i+1,_,rfl,by omega,yK (by omega) (by omega) htk (Classical.not_not.1 hb),rfl⟩
  ·have he:a=b:=by
    have h1:i=a.length:=by omega
    rw [h1,List.take_length,hlen,List.take_length] at htk
    exact htk
   refine qw0 ?_
   exact aC (aT (congrArg AV.bool (decide_eq_true he).symm))
end Go.Proofs.YtlfeacmbhldjcaaGreatDoor
namespace Go.Proofs.YtlfeacmbhldjcaaGreatDoor
open Go Go.Ab
set_option maxRecDepth 20000
set_option maxHeartbeats 4000000
def paths:List Str:=[[],[47,97],[47,98],[47,97,47,97],[47,97,47,98],[47,98,47,97],[97],[47,97,47,97,47,97],[47],[47,97,98]]
def uE (i:UInt8):Str:=paths.getD (i.toNat % 10) default
def db (m k l:UInt8):Bits :=
 ⟨(m.toNat % 4:Nat),(k.toNat % 8:Nat),if m.toNat % 4=1∨m.toNat % 4=3 then ([120,121,122]:Str).drop (l.toNat % 3) else []⟩
theorem afj (p:Oid):aA Tryz.prog 27 [] (Oid.under p) ⟨[],.ptr (.sub 1 2 p) 0,[(.sub 1 2 p,some (.cells [.map (.sub 1 0 p),.nilPtr])),(.sub 1 0 p,some (.map [.ss] false [] 0))]⟩:=by
 refine aN (n:=4) (rs:=[.tmp 0]) Tryz.func27 rfl rfl (by decide) rfl rfl rfl ?_;rintro x rfl hrd hng
 refine qw0 ?_
 refine aC (aP rfl ?_ ?_)
 all_goals simp [Mem.ae]
end Go.Proofs.YtlfeacmbhldjcaaGreatDoor
namespace Go.Proofs.YtlfeacmbhldjcaaGreatDoor
open Go Go.Ab
set_option maxRecDepth 20000
set_option maxHeartbeats 4000000
theorem cm {P:Program} {rs:List ResultVar} {need:List (Oid × ar)} {fr:List (Nat × AV)} {m:Mem} {c:Nat} {val:AV} {upd:List (Oid × Option ar)} (h1:ib P m fr rs=some val)
  (h2:∀ q,q ∈ upd→∀ o,q.2=some o→m q.1=some o) (h3:∀ q,q ∈ need→(∀ r,r ∈ upd→¬ r.1=q.1)→m q.1=some q.2):eZ P rs need (fun v u=>v=val∧u=upd) (fun _ _=>False) .normal ⟨fr,m,c,[]⟩ :=
 bc val upd h1 ⟨rfl,rfl⟩ (ck h2 h3)
variable (st t:Oid) (es:List ME) (clock:Nat) (hts:¬ t=st) (p:Oid) (hs:¬ Oid.under p st) (ht:¬ Oid.under p t)
include hts hs ht
theorem W0 (b:Bits):aA Tryz.prog 60 [.ptr st 0,.str [],b.av] (Oid.under p) ⟨[(st,.cells [.map t,.nilPtr]),(t,.map [.ss] false es clock)],.tuple [],[]⟩:=by
 simp only [Bits.av]
 refine aN (n:=35) (rs:=[]) Tryz.func60 rfl rfl (by decide) rfl rfl rfl ?_;rintro x rfl hrd hng
 refine qw (ai (uu ht) (ai (uu hs) hts)) ?_
 refine aC (aP rfl ?_ ?_)
 all_goals simp only [List.mem_cons,List.not_mem_nil,or_false,forall_eq_or_imp,forall_eq,Option.some.injEq,forall_eq',Mem.ae,eq_self,if_true,↓reduceIte,reduceCtorEq,implies_true,not_true_eq_false,false_imp_iff,true_and,and_true,false_and,and_false,imp_self,Oid.aa ht,Oid.ab ht,Oid.aa hs,Oid.ab hs,hts]
theorem W1 (n:Str) (hn:¬ n=[]) (b:Bits) (hb:¬ b.k=0):aA Tryz.prog 60 [.ptr st 0,.str n,b.av] (Oid.under p) ⟨[(st,.cells [.map t,.nilPtr]),(t,.map [.ss] false es clock)],.tuple [],[(t,some (.map [.ss] false (dz (.str n) b.av clock es) (if cF (.str n) es then clock else clock+1)))]⟩:=by
 simp only [Bits.av]
 refine aN (n:=35) (rs:=[]) Tryz.func60 rfl rfl (by decide) rfl rfl rfl ?_;rintro x rfl hrd hng
 refine qw (ai (uu ht) (ai (uu hs) hts)) ?_
 refine bD rfl rfl (fun hb'=>?_) (fun hb'=>?_)
 ·exact absurd hb' hn
 ·refine qw (ai (uu ht) (ai (uu hs) hts)) ?_
  refine bD rfl rfl (fun hb'=>?_) (fun hb'=>?_)
  ·exact absurd hb' hb
  ·(try ((first|refine zn ?_|refine ze ?_|refine zk ?_);with_reducible (constructor;repeat constructor));try refine zl ?_)
   refine qd (.d [] [] [0]) (ai (uu ht) (ai (uu hs) hts)) trivial ?_
   refine br (cm rfl ?_ ?_)
   all_goals simp only [List.mem_cons,List.not_mem_nil,or_false,forall_eq_or_imp,forall_eq,Option.some.injEq,forall_eq',Mem.ae,eq_self,if_true,↓reduceIte,reduceCtorEq,implies_true,not_true_eq_false,false_imp_iff,true_and,and_true,false_and,and_false,imp_self,Oid.aa ht,Oid.ab ht,Oid.aa hs,Oid.ab hs,hts]
theorem W3 (n:Str) (hn:¬ n=[]) (b:Bits) (hb:b.k=0):aA Tryz.prog 60 [.ptr st 0,.str n,b.av] (Oid.under p) ⟨[(st,.cells [.map t,.nilPtr]),(t,.map [.ss] false es clock)],.tuple [],[(t,some (.map [.ss] false (jG (.str n) es) clock))]⟩:=by
 simp only [Bits.av]
 refine aN (n:=35) (rs:=[]) Tryz.func60 rfl rfl (by decide) rfl rfl rfl ?_;rintro x rfl hrd hng
 refine qw (ai (uu ht) (ai (uu hs) hts)) ?_
 refine bD rfl rfl (fun hb'=>?_) (fun hb'=>?_)
 ·exact absurd hb' hn
 ·refine qw (ai (uu ht) (ai (uu hs) hts)) ?_
  refine bD rfl rfl (fun hb'=>?_) (fun hb'=>?_)
  ·refine qw (ai (uu ht) (ai (uu hs) hts)) ?_
   refine br (cm rfl ?_ ?_)
   all_goals simp only [List.mem_cons,List.not_mem_nil,or_false,forall_eq_or_imp,forall_eq,Option.some.injEq,forall_eq',Mem.ae,eq_self,if_true,↓reduceIte,reduceCtorEq,implies_true,not_true_eq_false,false_imp_iff,true_and,and_true,false_and,and_false,imp_self,Oid.aa ht,Oid.ab ht,Oid.aa hs,Oid.ab hs,hts]
  ·exact absurd hb hb'
omit hts in
theorem Cw (n:Str) (b:Bits) (hv:fC (.str n) (.agg [.int .i64 0,.int .i64 0,.str []]) es=b.av):aA Tryz.prog 139 [.map t,.str n] (Oid.under p) ⟨[(t,.map [.ss] false es clock)],(if n=[] then (⟨2,7,[]⟩:Bits) else b).av,[]⟩:=by
 simp only [Bits.av] at hv
 refine aN (n:=11) (rs:=[.cell 4 96]) Tryz.func139 rfl rfl (by decide) rfl rfl rfl ?_;rintro x rfl hrd hng
 refine qw (uu ht) ?_
 refine bD rfl rfl (fun hb'=>?_) (fun hb'=>?_)
 ·rw [if_pos hb']
  refine qw (uu ht) ?_
  refine aC (aP (by simp (disch:=first|omega|assumption) only [go_sem,Bits.av,Oid.aa ht,Oid.ab ht]) ?_ ?_)
  all_goals simp only [List.mem_cons,List.not_mem_nil,or_false,forall_eq_or_imp,forall_eq,Option.some.injEq,forall_eq',Mem.ae,eq_self,if_true,↓reduceIte,reduceCtorEq,implies_true,not_true_eq_false,false_imp_iff,true_and,and_true,false_and,and_false,imp_self,Oid.aa ht,Oid.ab ht]
 ·rw [if_neg hb']
  refine qw (ai (uu ht) hv) ?_
  refine aC (aP (by simp (disch:=first|omega|assumption) only [go_sem,Bits.av,Oid.aa ht,Oid.ab ht]) ?_ ?_)
  all_goals simp only [List.mem_cons,List.not_mem_nil,or_false,forall_eq_or_imp,forall_eq,Option.some.injEq,forall_eq',Mem.ae,eq_self,if_true,↓reduceIte,reduceCtorEq,implies_true,not_true_eq_false,false_imp_iff,true_and,and_true,false_and,and_false,imp_self,Oid.aa ht,Oid.ab ht]
omit hts ht in
theorem uF (n:Str) (f:Bool):aA Tryz.prog 131 [.ptr st 0,.agg [.str n,.bool f]] (Oid.under p) ⟨[(st,.cells [.map t,.nilPtr])],.tuple [],[]⟩:=by
 refine aN (n:=59) (rs:=[]) Tryz.func131 rfl rfl (by decide) rfl rfl rfl ?_;rintro x rfl hrd hng
 refine qr .o (uu hs) trivial ?_
 refine bE nmd [(5,11),(9,15)] [] mixed hng (by kernel_rfl) [27] fun hf C S K hC hS hK=>?_;simp (disch:=first|omega|assumption) only [go_sem,Oid.aa hs,Oid.ab hs]
 (first|refine hK (aK rfl) ?_|refine hK (by simp (disch:=first|omega|assumption) only [go_sem,List.reverse_cons,List.reverse_nil,ne_eq,not_false_eq_true,implies_true]) ?_);clear hK hS hC K S C hf
 refine qw0 ?_
 refine aC (aP rfl ?_ ?_)
 all_goals simp only [List.mem_cons,List.not_mem_nil,or_false,forall_eq_or_imp,forall_eq,Option.some.injEq,forall_eq',Mem.ae,eq_self,if_true,↓reduceIte,reduceCtorEq,implies_true,not_true_eq_false,false_imp_iff,true_and,and_true,false_and,and_false,imp_self,Oid.aa hs,Oid.ab hs]
theorem th (n:Str) (b:Bits) (hv:fC (.str n) (.agg [.int .i64 0,.int .i64 0,.str []]) es=b.av):aA Tryz.prog 102 [.ptr st 0,.str n] (Oid.under p) ⟨[(st,.cells [.map t,.nilPtr]),(t,.map [.ss] false es clock)],(if n=[] then (⟨2,7,[]⟩:Bits) else b).av,[]⟩:=by
 have hs':∀ c i,¬ Oid.under (.sub c i p) st:=fun c i h=>hs (Oid.ay h)
 have ht':∀ c i,¬ Oid.under (.sub c i p) t:=fun c i h=>ht (Oid.ay h)
 generalize hB:(if n=[] then (⟨2,7,[]⟩:Bits) else b)=B
 have hat:=fun p hs ht=>Cw st t es clock p hs ht n b hv
 rw [hB] at hat
 simp only [Bits.av] at hat ⊢
 refine aN (n:=15) (rs:=[.cell 4 96]) Tryz.func102 rfl rfl (by decide) rfl rfl rfl ?_;rintro x rfl hrd hng
 refine qw (ai (uu ht) (ai (uu hs) hts)) ?_
 refine qr .o (ai (uu ht) (ai (uu hs) hts)) (cq (uF st t _ (hs' _ _) n false) trivial) ?_
 refine qr .o (ai (uu ht) (ai (uu hs) hts)) (cq (hat _ (hs' _ _) (ht' _ _)) trivial) ?_
 refine qw (ai (uu ht) (ai (uu hs) hts)) ?_
 refine aC (aP (qs (ai (uu ht) (ai (uu hs) hts))) ?_ ?_)
 all_goals simp only [List.mem_cons,List.not_mem_nil,or_false,forall_eq_or_imp,forall_eq,Option.some.injEq,forall_eq',Mem.ae,eq_self,if_true,↓reduceIte,reduceCtorEq,implies_true,not_true_eq_false,false_imp_iff,true_and,and_true,false_and,and_false,imp_self,Oid.aa ht,Oid.ab ht,Oid.aa hs,Oid.ab hs,hts]
end Go.Proofs.YtlfeacmbhldjcaaGreatDoor
namespace Go.Proofs.YtlfeacmbhldjcaaGreatDoor
open Go Go.Ab
set_option maxRecDepth 20000
set_option maxHeartbeats 4000000
theorem fv (s:Str) (c:UInt8) (sp:Oid→Prop):aA Tryz.prog 160 [.str s,.str [c]] sp ⟨[],.bool (decide (0≤Lib.indexByte s c)),[]⟩ :=
 fp (by kernel_rfl) fun g args w ha _=>by
  obtain ⟨v,u,rfl,hv,hu⟩:=ha.two
  obtain ⟨b,rfl,hb⟩:=hv.bf
  obtain ⟨d,rfl,hd⟩:=hu.bf
  obtain rfl:d=⟨#[c]⟩:=by cases d with|mk a=>cases a with|mk l=>simp only at hd;rw [hd]
  refine (Tryz.strings_Contains_one b c w).mono ?_
  rintro e w' ⟨rfl,rfl⟩
  exact ⟨_,rfl,by rw [hb];exact .bool _,rfl⟩
def gB (s t:Str):Bool:=decide (t.length≤s.length) && decide (s.take t.length=t)
theorem jQ (s t:Str) (hl:s.length≤140737488355328) (hl2:t.length≤140737488355328) (p:Oid):aA Tryz.prog 144 [.str s,.str t] (Oid.under p) ⟨[],.bool (gB s t),[]⟩:=by
 refine aN (n:=18) (rs:=[.tmp 4]) Tryz.func144 rfl rfl (by decide) rfl rfl rfl ?_;rintro x rfl hrd hng
 refine qr0 ?_
 refine af nmd [(5,10)] hng (by kernel_rfl) fun hf C S K hC1 hC hS hK=>?_;simp (disch:=first|omega|assumption) only [go_sem]
 (repeat' (first|(refine bm (fun hv=>?_) (fun hv=>?_)<;>(try simp only [zb1,zb2,zb3,zb4,zb5] at hv)<;>simp (disch:=first|omega|assumption) only [go_sem,hv])|(refine hK ?_;clear hK hS hC hC1 K S C hf)))
 ·refine qw0 ?_
  exact aC (aT (congrArg AV.bool (by rw [gB,decide_eq_true (by omega:t.length≤s.length),Bool.true_and])))
 ·refine qw0 ?_
  exact aC (aT (congrArg AV.bool (by rw [gB,decide_eq_false (by omega:¬ t.length≤s.length),Bool.false_and])))
theorem nz (s t:Str) (hl:s.length≤140737488355328) (hl2:t.length≤140737488355328) (p:Oid):aA Tryz.prog 187 [.str s,.str t] (Oid.under p) ⟨[],.tuple [.str (if gB s t=true then s.drop t.length else s),.bool (gB s t)],[]⟩:=by
 have hpre:gB s t=true→t.length≤s.length:=fun h=>by simp only [gB,Bool.and_eq_true,decide_eq_true_eq] at h;exact h.1
 refine aN (n:=15) (rs:=[.tmp 4,.tmp 5]) Tryz.func187 rfl rfl (by decide) rfl rfl rfl ?_;rintro x rfl hrd hng
 (repeat (first|(refine ah rfl rfl ?_)|(refine aj rfl rfl ?_)|(refine af nmd [] hng (by kernel_rfl) fun hf C S K hC1 hC hS hK=>?_;simp (disch:=first|omega|assumption) only [go_sem];(repeat ((first|refine hC1 _ (jQ s t hl hl2 _) (by simp (disch:=first|omega|assumption) only [go_sem]) ?_);simp (disch:=first|omega|assumption) only [go_sem]));refine hK ?_;clear hK hS hC hC1 K S C hf)|((first|refine zn ?_|refine ze ?_|refine zk ?_);with_reducible (constructor;repeat constructor);try refine zl ?_)))
 cases hp:gB s t with
 | true =>
  have:=hpre hp
  refine qw0 ?_
  exact aC (aE rfl)
 | false =>
  refine qw0 ?_
  exact aC (aE rfl)
theorem pA (s t:Str) (hl:s.length≤140737488355328) (hl2:t.length≤140737488355328) (p:Oid):aA Tryz.prog 154 [.str s,.str t] (Oid.under p) ⟨[],.tuple [.str (if gB s t=true then s.drop t.length else s),.bool (gB s t)],[]⟩:=by
 refine aN (n:=11) (rs:=[.tmp 4,.tmp 5]) Tryz.func154 rfl rfl (by decide) rfl rfl rfl ?_;rintro x rfl hrd hng
 (repeat (first|(refine ah rfl rfl ?_)|(refine aj rfl rfl ?_)|(refine af nmd [] hng (by kernel_rfl) fun hf C S K hC1 hC hS hK=>?_;simp (disch:=first|omega|assumption) only [go_sem];(repeat ((first|refine hC1 _ (nz s t hl hl2 _) (by simp (disch:=first|omega|assumption) only [go_sem]) ?_);simp (disch:=first|omega|assumption) only [go_sem]));refine hK ?_;clear hK hS hC hC1 K S C hf)|((first|refine zn ?_|refine ze ?_|refine zk ?_);with_reducible (constructor;repeat constructor);try refine zl ?_)))
 exact aC (aE rfl)
end Go.Proofs.YtlfeacmbhldjcaaGreatDoor
namespace Go.Ab
end Go.Ab
namespace Go.Ab
section
variable {κ ν:Type} [DecidableEq κ] {ek:κ→AV} {ev:ν→AV}
def jR (ek:κ→AV) (ev:ν→AV) (q:κ × ν × Nat):ME:=⟨ek q.1,ev q.2.1,q.2.2⟩
def prj (q:κ × ν × Nat):κ × ν:=(q.1,q.2.1)
def aM (n:κ):List (κ × ν)→Option ν
 | []=>none
 | q::L=>if n=q.1 then some q.2 else aM n L
def Cx (n:κ) (b:ν) (c:Nat):List (κ × ν × Nat)→List (κ × ν × Nat)
 | []=>[(n,b,c)]
 | q::L=>if n=q.1 then (q.1,b,q.2.2)::L else q::Cx n b c L
def Cy (n:κ):List (κ × ν × Nat)→List (κ × ν × Nat)
 | []=>[]
 | q::L=>if n=q.1 then L else q::Cy n L
def afk (ev:ν→AV) (z:AV):Option ν→AV
 | some b=>ev b
 | none=>z
theorem X3 (he:iS ek) (n:κ) (z:AV):∀ E:List (κ × ν × Nat),fC (ek n) z (E.map (jR ek ev))=afk ev z (aM n (E.map prj))
 | []=>rfl
 | q::L=>by
  have ih:=X3 he n z L
  have h1:=he n q.1
  simp only [fC,List.map_cons,dm,jR,h1,aM,prj] at ih ⊢
  by_cases h:n=q.1
  ·simp [h,afk]
  ·simp only [h,decide_false,Bool.false_eq_true,if_false];exact ih
theorem X4 (he:iS ek) (n:κ):∀ E:List (κ × ν × Nat),cF (ek n) (E.map (jR ek ev))=(aM n (E.map prj)).isSome
 | []=>rfl
 | q::L=>by
  have ih:=X4 he n L
  have h1:=he n q.1
  simp only [cF,List.map_cons,dm,jR,h1,aM,prj] at ih ⊢
  by_cases h:n=q.1
  ·simp [h]
  ·simp only [h,decide_false,Bool.false_eq_true,if_false];exact ih
theorem X5 (he:iS ek) (n:κ) (b:ν) (c:Nat):∀ E:List (κ × ν × Nat),dz (ek n) (ev b) c (E.map (jR ek ev))=(Cx n b c E).map (jR ek ev)
 | []=>rfl
 | q::L=>by
  have ih:=X5 he n b c L
  have h1:=he n q.1
  simp only [List.map_cons,dz,Cx]
  by_cases h:n=q.1
  ·simp [h,jR,he q.1 q.1]
  ·simp only [h,jR,h1,decide_false,Bool.false_eq_true,if_false,List.map_cons]
   exact congrArg _ ih
theorem X6 (he:iS ek) (n:κ):∀ E:List (κ × ν × Nat),jG (ek n) (E.map (jR ek ev))=(Cy n E).map (jR ek ev)
 | []=>rfl
 | q::L=>by
  have ih:=X6 he n L
  have h1:=he n q.1
  simp only [List.map_cons,jG,Cy]
  by_cases h:n=q.1
  ·simp [h,jR,he q.1 q.1]
  ·simp only [h,jR,h1,decide_false,Bool.false_eq_true,if_false,List.map_cons]
   exact congrArg _ ih
theorem ga {n:κ}:∀ {L:List (κ × ν)},¬ n ∈ L.map (·.1)→L.filter (fun q=>decide (¬ q.1=n))=L
 | [],_=>rfl
 | q::L,h=>by
  simp only [List.map_cons,List.mem_cons,not_or] at h
  have h1:¬ q.1=n:=fun e=>h.1 e.symm
  rw [List.filter_cons_of_pos (by simpa using h1),ga h.2]
theorem og (n:κ) (b:ν) (c:Nat):∀ E:List (κ × ν × Nat),((E.map prj).map (·.1)).Nodup→((Cx n b c E).map prj).Perm ((n,b)::(E.map prj).filter fun q=>decide (¬ q.1=n))
 | [],_=>.refl _
 | q::L,h=>by
  simp only [List.map_cons,List.nodup_cons] at h
  have ih:=og n b c L h.2
  simp only [Cx]
  by_cases hn:n=q.1
  ·subst hn
   rw [if_pos rfl,List.map_cons,List.map_cons,List.filter_cons_of_neg (by simp [prj])];erw [ga h.1]
   exact .refl _
  ·rw [if_neg hn,List.map_cons,List.map_cons,List.filter_cons_of_pos (by show decide (¬ (prj q).1=n)=true;exact decide_eq_true fun e=>hn (Eq.symm e))]
   exact (ih.cons _).trans (.swap _ _ _)
theorem uG (n:κ):∀ E:List (κ × ν × Nat),((E.map prj).map (·.1)).Nodup→(Cy n E).map prj=(E.map prj).filter fun q=>decide (¬ q.1=n)
 | [],_=>rfl
 | q::L,h=>by
  simp only [List.map_cons,List.nodup_cons] at h
  have ih:=uG n L h.2
  simp only [Cy]
  by_cases hn:n=q.1
  ·subst hn
   rw [if_pos rfl,List.map_cons,List.filter_cons_of_neg (by simp [prj])];exact (ga h.1).symm
  ·rw [if_neg hn,List.map_cons,List.map_cons,List.filter_cons_of_pos (by show decide (¬ (prj q).1=n)=true;exact decide_eq_true fun e=>hn (Eq.symm e)),ih]
theorem bw {n:κ} {b:ν}:∀ {L:List (κ × ν)},(L.map (·.1)).Nodup→(aM n L=some b↔(n,b) ∈ L)
 | [],_=>by simp [aM]
 | q::L,h=>by
  simp only [List.map_cons,List.nodup_cons] at h
  have ih:=bw (n:=n) (b:=b) h.2
  simp only [aM]
  by_cases hn:n=q.1
  ·subst hn
   rw [if_pos rfl]
   refine ⟨fun e=>?_,fun e=>?_⟩
   ·simp only [Option.some.injEq] at e;subst e;exact List.mem_cons_self
   ·rcases List.mem_cons.1 e with e|e
    ·rw [← e]
    ·exact absurd (List.mem_map_of_mem (f:=(·.1)) e) h.1
  ·rw [if_neg hn,ih]
   exact ⟨List.mem_cons_of_mem _,fun e=>(List.mem_cons.1 e).resolve_left fun e=>hn (by rw [← e])⟩
theorem jl {n:κ} {L L':List (κ × ν)} (hp:L.Perm L') (h:(L.map (·.1)).Nodup):aM n L=aM n L':=by
 have h':(L'.map (·.1)).Nodup:=(hp.map _).nodup_iff.1 h
 cases h1:aM n L with
 | some b=>rw [eq_comm,bw h',← hp.mem_iff,← bw h];exact h1
 | none =>
  cases h2:aM n L' with
  | none=>rfl
  | some b=>rw [bw h',← hp.mem_iff,← bw h,h1] at h2;cases h2
def jm (ek:κ→AV) (ev:ν→AV) (es:List ME) (L:List (κ × ν)):Prop:=∃ E:List (κ × ν × Nat),es=E.map (jR ek ev)∧(E.map prj).Perm L∧(L.map (·.1)).Nodup
omit [DecidableEq κ] in
theorem Cz:jm ek ev [] ([]:List (κ × ν)):=⟨[],rfl,.refl _,List.nodup_nil⟩
theorem rC (he:iS ek) {es:List ME} {L:List (κ × ν)} (h:jm ek ev es L) (n:κ) (z:AV):fC (ek n) z es=afk ev z (aM n L):=by
 obtain ⟨E,rfl,h2,h3⟩:=h
 rw [X3 he,jl h2 ((h2.map _).nodup_iff.2 h3)]
theorem CA (he:iS ek) {es:List ME} {L:List (κ × ν)} (h:jm ek ev es L) (n:κ):cF (ek n) es=(aM n L).isSome:=by
 obtain ⟨E,rfl,h2,h3⟩:=h
 rw [X4 he,jl h2 ((h2.map _).nodup_iff.2 h3)]
theorem my (he:iS ek) {es:List ME} {L L':List (κ × ν)} (h:jm ek ev es L) (n:κ) (b:ν) (c:Nat) (hp:L'.Perm ((n,b)::L.filter fun q=>decide (¬ q.1=n))):jm ek ev (dz (ek n) (ev b) c es) L':=by
 obtain ⟨E,rfl,h2,h3⟩:=h
 have h4:=(h2.map (·.1)).nodup_iff.2 h3
 refine ⟨_,X5 he n b c E,((og n b c E h4).trans ((h2.filter _).cons _)).trans hp.symm,((hp.map (·.1)).nodup_iff).2 ?_⟩
 rw [List.map_cons,List.nodup_cons]
 refine ⟨fun hm=>?_,h3.sublist (List.filter_sublist.map _)⟩
 obtain ⟨q,h5,h6⟩:=List.mem_map.1 hm
 have:=(List.mem_filter.1 h5).2
 simp only [decide_eq_true_eq] at this
 exact this h6
theorem CB (he:iS ek) {es:List ME} {L L':List (κ × ν)} (h:jm ek ev es L) (n:κ) (hp:L'.Perm (L.filter fun q=>decide (¬ q.1=n))):jm ek ev (jG (ek n) es) L':=by
 obtain ⟨E,rfl,h2,h3⟩:=h
 have h4:=(h2.map (·.1)).nodup_iff.2 h3
 refine ⟨_,X6 he n E,?_,((hp.map (·.1)).nodup_iff).2 (h3.sublist (List.filter_sublist.map _))⟩
 rw [uG n E h4]
 exact (h2.filter _).trans hp.symm
omit [DecidableEq κ] in
theorem yL {es S:List ME} (hp:es.Pairwise fun e e'=>e.born < e'.born) (hs:∀ e ∈ S,e ∈ es) (hn:(S.map (·.born)).Nodup) (hall:∀ e ∈ es,e.born ∈ S.map (·.born)):S.Perm es:=by
 have hne:es.Nodup:=(hp.imp fun {a b} h=>by intro e;subst e;exact Nat.lt_irrefl _ h)
 have hns:S.Nodup:=by
  refine List.Pairwise.imp ?_ (List.pairwise_map.1 hn)
  intro a b h e;exact h (by rw [e])
 refine (List.perm_ext_iff_of_nodup hns hne).2 fun e=>⟨hs e,fun he=>?_⟩
 obtain ⟨e',h1,h2⟩:=List.mem_map.1 (hall e he)
 have h3:e' = e:=by
  apply Classical.byContradiction
  intro hne'
  have hinj:∀ a ∈ es,∀ b ∈ es,¬ a=b→¬ a.born=b.born:=fun a ha b hb hab=>by
   have h5:es.Pairwise fun a b=>¬ a.born=b.born:=hp.imp fun h=>by omega
   obtain ⟨i,hi,rfl⟩:=List.mem_iff_getElem.1 ha
   obtain ⟨j,hj,rfl⟩:=List.mem_iff_getElem.1 hb
   rw [List.pairwise_iff_getElem] at h5
   rcases Nat.lt_trichotomy i j with h|h|h
   ·exact h5 i j hi hj h
   ·subst h;exact absurd rfl hab
   ·exact fun e=>h5 j i hj hi h (Eq.symm e)
  exact hinj e' (hs e' h1) e he hne' h2
 rwa [← h3]
end
section
variable {κ ν:Type} [DecidableEq κ] (lt:κ→κ→Prop) [DecidableRel lt]
structure Ord:Prop where
 irr:∀ a,¬ lt a a
 tr:∀ a b c,lt a b→lt b c→lt a c
 tot:∀ a b,¬ lt a b→¬ a=b→lt b a
def dL (n:κ):Option ν→List (κ × ν)
 | some b=>[(n,b)]
 | none=>[]
def cX (n:κ) (o:Option ν):List (κ × ν)→List (κ × ν)
 | []=>dL n o
 | q::L=>if lt q.1 n then q::cX n o L else dL n o++(if q.1=n then L else q::L)
def aZ (L:List (κ × ν)):Prop:=L.Pairwise fun a b=>lt a.1 b.1
variable {lt}
omit [DecidableEq κ] [DecidableRel lt] in
theorem aZ.nodup (ho:Ord lt) {L:List (κ × ν)} (h:aZ lt L):(L.map (·.1)).Nodup:=by
 rw [List.nodup_iff_pairwise_ne,List.pairwise_map]
 exact h.imp fun {a b} h (e:a.1=b.1)=>ho.irr a.1 (by rw [← e] at h;exact h)
theorem b6 (ho:Ord lt) (n:κ) (o:Option ν):∀ {L:List (κ × ν)},aZ lt L→(cX lt n o L).Perm (dL n o++L.filter fun q=>decide (¬ q.1=n))
 | [],_=>by simp [cX]
 | q::L,h=>by
  have h2:=List.pairwise_cons.1 h
  have ih:=b6 ho n o (L:=L) h2.2
  simp only [cX]
  by_cases hl:lt q.1 n
  ·have hn:¬ q.1=n:=fun e=>ho.irr n (by rw [e] at hl;exact hl)
   rw [if_pos hl,List.filter_cons_of_pos (by simpa using hn)]
   exact (ih.cons _).trans List.perm_middle.symm
  ·rw [if_neg hl]
   have hno:∀ q' ∈ L,¬ q'.1=n:=fun q' hq e=>by
    have:=h2.1 q' hq
    rw [e] at this;exact hl this
   have hf:L.filter (fun q=>decide (¬ q.1=n))=L:=ga fun hm=>by
    obtain ⟨q',h3,h4⟩:=List.mem_map.1 hm
    exact hno q' h3 h4
   by_cases hn:q.1=n
   ·rw [if_pos hn,List.filter_cons_of_neg (by simpa using hn),hf]
   ·rw [if_neg hn,List.filter_cons_of_pos (by simpa using hn),hf]
theorem eg {n:κ} {o:Option ν} {x:κ × ν}:∀ {L:List (κ × ν)},x ∈ cX lt n o L→x ∈ dL n o∨x ∈ L
 | [],h=>.inl h
 | q::L,h=>by
  simp only [cX] at h
  split at h
  ·rcases List.mem_cons.1 h with rfl|h
   ·exact .inr List.mem_cons_self
   ·exact (eg h).imp id (List.mem_cons_of_mem _)
  ·rcases List.mem_append.1 h with h|h
   ·exact .inl h
   ·split at h
    ·exact .inr (List.mem_cons_of_mem _ h)
    ·exact .inr h
omit [DecidableEq κ] [DecidableRel lt] in
theorem mz {n:κ} {o:Option ν} {x:κ × ν} (h:x ∈ dL n o):x.1=n∧o=some x.2:=by
 cases o with
 | none=>cases h
 | some b=>simp only [dL,List.mem_singleton] at h;subst h;exact ⟨rfl,rfl⟩
theorem eO (ho:Ord lt) (n:κ) (o:Option ν):∀ {L:List (κ × ν)},aZ lt L→aZ lt (cX lt n o L)
 | [],_=>by cases o<;>simp [cX,dL,aZ]
 | q::L,h=>by
  have h2:=List.pairwise_cons.1 h
  have ih:=eO ho n o (L:=L) h2.2
  simp only [cX]
  by_cases hl:lt q.1 n
  ·rw [if_pos hl]
   refine List.pairwise_cons.2 ⟨fun x hx=>?_,ih⟩
   rcases eg hx with hx|hx
   ·rw [(mz hx).1];exact hl
   ·exact h2.1 x hx
  ·rw [if_neg hl]
   refine List.pairwise_append.2 ⟨by cases o<;>simp [dL],?_,fun x hx y hy=>?_⟩
   ·split
    ·exact h2.2
    ·exact h
   ·rw [(mz hx).1]
    by_cases hn:q.1=n
    ·rw [if_pos hn] at hy;rw [← hn];exact h2.1 y hy
    ·rw [if_neg hn] at hy
     have hq:=ho.tot q.1 n hl hn
     rcases List.mem_cons.1 hy with rfl|hy
     ·exact hq
     ·exact ho.tr _ _ _ hq (h2.1 y hy)
omit [DecidableEq κ] [DecidableRel lt] in
theorem oh (ho:Ord lt) {L L':List (κ × ν)} (hp:L.Perm L') (h1:aZ lt L) (h2:aZ lt L'):L=L' :=
 List.Perm.eq_of_pairwise (le:=fun a b:κ × ν=>lt a.1 b.1) (fun a b _ _ h3 h4=>absurd (ho.tr _ _ _ h3 h4) (ho.irr _)) h1 h2 hp
theorem om (ho:Ord lt) (n n':κ) (o:Option ν) {L:List (κ × ν)} (h:aZ lt L):aM n' (cX lt n o L)=if n' = n then o else aM n' L:=by
 have h1:=eO ho n o h
 have hp:=b6 ho n o h
 have hnd:=h1.nodup ho
 rw [jl hp hnd]
 have hf:∀ {L:List (κ × ν)},aM n' (L.filter fun q=>decide (¬ q.1=n))=if n' = n then none else aM n' L:=by
  intro L
  induction L with
  | nil=>simp [aM]
  | cons q L ih =>
   by_cases hn:q.1=n
   ·rw [List.filter_cons_of_neg (by simpa using hn),ih,aM]
    by_cases h':n' = n
    ·simp [h']
    ·have:¬ n' = q.1:=fun e=>h' (e.trans hn)
     simp [h',this]
   ·rw [List.filter_cons_of_pos (by simpa using hn),aM,aM,ih]
    by_cases h':n' = n
    ·subst h'
     have:¬ n' = q.1:=fun e=>hn (Eq.symm e)
     simp [this]
    ·simp [h']
 cases o with
 | none=>simp only [dL,List.nil_append,hf]
 | some b =>
  simp only [dL,List.cons_append,List.nil_append,aM,hf]
  by_cases h':n' = n<;>simp [h']
end
end Go.Ab
namespace Go.Proofs.YtlfeacmbhldjcaaGreatDoor
open Go Go.Ab Go.RowKit
set_option maxRecDepth 20000
set_option maxHeartbeats 2000000
theorem mA {c:UInt8}:∀ {s:Str},c ∉ s→Lib.index s [c] = -1
 | [],_=>rfl
 | b::t,h=>by
  have h1:¬ b=c:=fun e=>h (by simp [e])
  have h2:c ∉ t:=fun e=>h (by simp [e])
  have ih:=mA h2
  rw [Lib.index_one] at ih ⊢
  rw [Lib.indexByte,if_neg (by simpa using h1),ih,if_pos (by simp)]
def oq (l:Str) (b:UInt8):Nat→Int
 | 0=>-1
 | k+1=>if l.getD k 0=b then k else oq l b k
end Go.Proofs.YtlfeacmbhldjcaaGreatDoor
namespace Go.Proofs.YtlfeacmbhldjcaaGreatDoor
open Go Go.Ab
theorem yO (a b:Str):dD (.str a) (.str b)=decide (a=b):=by
 by_cases h:a=b<;>simp [dD,AV.cells,bp,eqS,h]
abbrev Ent:=Str × Bits × Nat
def ll (n:Str):List Ent→List Ent
 | []=>[]
 | q::L=>if n=q.1 then L else q::ll n L
theorem pB (n:Str):∀ L:List Ent,(ll n L).Sublist L
 | []=>.slnil
 | q::L=>by
  simp only [ll]
  split
  ·exact (List.Sublist.refl L).cons q
  ·exact (pB n L).cons_cons q
end Go.Proofs.YtlfeacmbhldjcaaGreatDoor
namespace Go.Proofs.YtlfeacmbhldjcaaGreatDoor
open Go Go.Ab
set_option maxRecDepth 20000
theorem kY {P:Program} [Laid P] {f:FuncId} {xs:List AV} {sp:Oid→Prop} {need:List (Oid × ar)} {v:AV} {t:Oid} {o:ar} (h:aA P f xs sp ⟨need,v,[]⟩) (ht:(t,o) ∈ need):aA P f xs sp ⟨need,v,[(t,some o)]⟩ :=
 ⟨h.enters,fun x g args w m hm hn ha hs hx=>(h.calls x g args w m hm hn ha hs hx).mono fun en w' ⟨g',u,h1,h2,h3,h4,h5⟩=>⟨g',u,h1,h2,h3,h4,by
  have he:m.aF [(t,some o)]=m:=by
   funext i
   simp only [Mem.aF,Mem.set]
   split
   ·rename_i e;rw [e];exact (hn _ ht).symm
   ·rfl
  show aD x g' (m.aF [(t,some o)]) w'
  rw [he];exact h5⟩⟩
def pC (n:Str) (b:Bits) (es:List ME) (clock:Nat):List ME:=if n=[] then es else if b.k=0 then jG (.str n) es else dz (.str n) b.av clock es
def pD (n:Str) (b:Bits) (es:List ME) (clock:Nat):Nat:=if n=[] then clock else if b.k=0 then clock else if cF (.str n) es then clock else clock+1
theorem afl (st t:Oid) (es:List ME) (clock:Nat) (hts:¬ t=st) (p:Oid) (hs:¬ Oid.under p st) (ht:¬ Oid.under p t) (n:Str) (b:Bits) :
  aA Tryz.prog 60 [.ptr st 0,.str n,b.av] (Oid.under p) ⟨[(st,.cells [.map t,.nilPtr]),(t,.map [.ss] false es clock)],.tuple [],[(t,some (.map [.ss] false (pC n b es clock) (pD n b es clock)))]⟩:=by
 unfold pC pD
 by_cases hn:n=[]
 ·subst hn
  simp only [if_true]
  exact kY (W0 st t es clock hts p hs ht b) (by simp)
 ·by_cases hb:b.k=0
  ·simp only [hn,hb,if_true,if_false]
   exact W3 st t es clock hts p hs ht n hn b hb
  ·simp only [hn,hb,if_false]
   exact W1 st t es clock hts p hs ht n hn b hb
end Go.Proofs.YtlfeacmbhldjcaaGreatDoor
namespace Go.Proofs.YtlfeacmbhldjcaaGreatDoor
open Go Go.Ab
open Go.Sort Go.RowKit
set_option maxRecDepth 20000
set_option maxHeartbeats 4000000
def cG (l:List Str):List Str:=l.mergeSort fun x y=>decide (x≤y)
theorem CD {w:World} {b n:Nat} {d:Array Str} {os:Array Obj} {b':Nat} (hb:b'≠b) (hlt:b' < w.heap.size):(grow (putRow encStr (Sort.ahead w n) b 0 d) os).heap[b']? = w.heap[b']? := by
 unfold putRow mapBlock
 rw [heap_grow_old _ _ (by simpa [ahead] using hlt)]
 simp [Array.getElem?_modify,Ne.symm hb,ahead]
theorem pE {w:World} {b n:Nat} {d:Array Str} {os:Array Obj} {c:Array Value} {t:TypeId} {fz:Nat × Nat} (hb:w.heap[b]? = some (.cells c t fz)) :
  (grow (putRow encStr (Sort.ahead w n) b 0 d) os).heap[b]? = some (.cells (putCells encStr 0 d c) t fz):=by
 have hlt:=(Array.getElem?_eq_some_iff.1 hb).1
 unfold putRow mapBlock
 rw [heap_grow_old _ _ (by simpa [ahead] using hlt)]
 simp [Array.getElem?_modify,hb,ahead,onCells]
theorem W4 {w:World} {b n:Nat} {d:Array Str} {os:Array Obj}:w.heap.size≤(grow (putRow encStr (Sort.ahead w n) b 0 d) os).heap.size:=by
 unfold putRow mapBlock
 simp [grow,ahead]
theorem pF (d:Array Str) (c:Array Value):(putCells encStr 0 d c).size=c.size:=by simp [putCells]
theorem gC (l:List Str):(cG l).Perm l:=List.mergeSort_perm _ _
theorem jS (l:List Str):(cG l).length=l.length:=(gC l).length_eq
theorem W5 {g:Gh} {s:Str} {v:Value}:VR g (.str s) v↔v=encStr s:=by
 constructor
 ·intro h
  obtain ⟨b,rfl,hb⟩:=h.bf
  show Value.string b=Value.string _
  congr 1
  cases b
  simp only at hb
  congr 1
  rw [← hb]
 ·rintro rfl
  exact .str _ _ rfl
theorem tj (l:List Str) (hl:¬ l=[]) (hsz:l.length < 4611686018427387904) (id p:Oid) :
  aA Tryz.prog 206 [.sl id 1 l.length] (Oid.under p) ⟨[(id,.arr 1 (l.map .str))],.tuple [],[(id,some (.arr 1 ((cG l).map .str)))]⟩:=by
 refine ⟨by kernel_rfl,fun x g args w m hm hn hargs hsp hng=>?_⟩
 have hmi:=hn _ List.mem_cons_self
 simp only at hmi
 obtain ⟨v,rfl,a0⟩:=hargs.one
 have hne:l.length≠0:=fun e=>hl (List.eq_nil_of_length_eq_zero e)
 obtain ⟨b,cap,rfl,hloc,hcap,hrow⟩:=a0.dq.resolve_left fun h=>hne h.1
 obtain ⟨b0,hb0,hcom,hmay,hobj⟩:=hm.fO hmi hloc
 rw [hloc] at hb0;simp only [Option.some.injEq] at hb0;subst hb0
 obtain ⟨c,t,fz,hh,hcs,hfz,hxl,hone,hv⟩:=hobj
 have hlt:=(Array.getElem?_eq_some_iff.1 hh).1
 simp only [List.length_map,Nat.mul_one] at hcs hxl hone hv
 have hav:∀ (l:List Str) i,i < l.length→(l.map AV.str).getD i .undef = .str (l.getD i []):=fun l i hi=>by simp [List.getD_eq_getElem?_getD,List.getElem?_map,List.getElem?_eq_getElem hi]
 have hcell:∀ i,i < l.length→c.getD i undef=encStr (l.getD i []):=fun i hi=>by
  have:=hv i 0 hi (by omega)
  rw [hav l i hi] at this
  simp only [AV.cells,List.getD_cons_zero,Nat.mul_one,Nat.add_zero] at this
  exact W5.1 this
 have hH:Holds encStr w b 0 l.toArray:=by
  intro j hj
  have hj':j < l.length:=by simpa using hj
  have hjc:j < c.size:=by omega
  constructor
  ·have h3:=hcell j hj'
   simp only [World.cell?,hh,Nat.zero_add,Option.isSome_none,Bool.false_eq_true,if_false,Array.getElem?_eq_getElem hjc,Option.some.injEq]
   rw [Array.getD_eq_getD_getElem?,Array.getElem?_eq_getElem hjc,Option.getD_some] at h3
   rw [h3]
   have h5:l.toArray[j]! = l.getD j []:=by simp [List.getElem?_eq_getElem hj',hj']
   rw [h5]
  ·simp only [World.frozen?,hh,Nat.zero_add]
   have:=hfz j hjc
   by_cases h:fz.1≤j
   ·have:¬ j < fz.2:=fun h'=>this ⟨h,h'⟩
    simp [this]
   ·simp [h]
 refine (Tryz.slices_Sort_string b 0 cap l w hH hlt hsz).mono ?_
 rintro en w' ⟨rfl,n,os,rfl⟩
 have hlen:=jS l
 show ∃ _ _,_
 refine ⟨g,_,rfl,Gh.le_refl g,fun _ _=>rfl,.tuple _ _ rfl (fun j hj=>absurd hj (Nat.not_lt_zero _)),?_⟩
 have hfold:(l.mergeSort fun x y=>decide (x≤y))=cG l:=rfl
 rw [hfold]
 refine hm.fS (o:=.arr 1 ((cG l).map .str)) hmi hloc rfl rfl ⟨rfl,Nat.le_add_right _ _⟩ W4 (fun b' hb' hlt'=>CD hb' hlt') (fun r hr=>?_) ?_ ?_
 ·obtain ⟨c',t',fz',h2,h3⟩:=hm.rows b r hr
  exact ⟨_,_,_,pE h2,by rw [pF];exact h3⟩
 ·intro c9 t9 fz9 h9;exact ⟨_,_,pE h9⟩
 ·have hget:∀ i,i < (cG l).length→(putCells encStr 0 (cG l).toArray c).getD i undef=encStr ((cG l).getD i []):=fun i hi=>by
   have hc2:i < c.size:=by omega
   simp only [putCells,Array.getD_eq_getD_getElem?,Array.getElem?_mapIdx,Array.getElem?_eq_getElem hc2,Option.map_some,Option.getD_some,Nat.zero_le,true_and,Nat.zero_add,Nat.sub_zero,List.size_toArray,hi,if_true]
   congr 1
   simp [List.getElem?_eq_getElem hi,hi]
  refine ⟨_,t,fz,pE hh,?_,?_,?_,?_,?_⟩
  ·rw [pF,List.length_map,Nat.mul_one,hlen];exact hcs
  ·rw [pF];exact hfz
  ·intro i hi
   rw [hav _ i (by simpa using hi)];rfl
  ·intro j hj
   have hj':j < (cG l).length:=by simpa using hj
   rw [hget j hj'];rfl
  ·intro i j hi hj
   have hi':i < (cG l).length:=by simpa using hi
   obtain rfl:j=0:=by omega
   rw [hav _ i hi',Nat.mul_one,Nat.add_zero,hget i hi']
   exact .str _ _ rfl
theorem rD (p:Oid):aA Tryz.prog 206 [.nilSl] (Oid.under p) ⟨[],.tuple [],[]⟩ :=
 fp (by kernel_rfl) fun g args w ha _=>by
  obtain ⟨v,rfl,hv⟩:=ha.one
  rw [hv.bu]
  refine (Tryz.slices_Sort_string_none none 0 w).mono ?_
  rintro e w' ⟨rfl,rfl⟩
  exact ⟨_,rfl,.tuple _ _ rfl (fun j hj=>absurd hj (Nat.not_lt_zero _)),rfl⟩
theorem mB {l l':List Str} (hp:l.Perm l') (h1:l.Pairwise (· ≤ ·)) (h2:l'.Pairwise (· ≤ ·)):l=l':=by
 exact List.Perm.eq_of_pairwise (le:=(· ≤ ·)) (fun a b _ _ h3 h4=>List.le_antisymm h3 h4) h1 h2 hp
theorem mC (l:List Str):(cG l).Pairwise (· ≤ ·):=by
 have:=List.pairwise_mergeSort (le:=fun (x y:Str)=>decide (x≤y)) (fun a b c h1 h2=>by
  simp only [decide_eq_true_eq] at h1 h2 ⊢;exact List.le_trans h1 h2) (fun a b=>by
  simp only [Bool.or_eq_true,decide_eq_true_eq];exact List.le_total a b) l
 exact this.imp fun h=>by simpa using h
theorem CE {l l':List Str} (hp:l.Perm l') (h:l'.Pairwise (· ≤ ·)):cG l=l':=mB ((gC l).trans hp) (mC l) h
theorem nA {l l':List Str} (hp:l.Perm l'):cG l=cG l':=mB ((gC l).trans (hp.trans (gC l').symm)) (mC l) (mC l')
end Go.Proofs.YtlfeacmbhldjcaaGreatDoor
namespace Go.Proofs
open Go.Shelf
end Go.Proofs
namespace Go.Proofs.YtlfeacmbhldjcaaGreatDoor
open Go Go.Ab Go.RowKit Go.Sort
set_option maxRecDepth 100000
set_option maxHeartbeats 4000000
end Go.Proofs.YtlfeacmbhldjcaaGreatDoor
namespace Go.Ab
abbrev Bk:=List Oid × (Oid→ar)
def bk (B:Bk):List (Oid × ar):=B.1.map fun i=>(i,B.2 i)
def sb (N:List Oid) (f:Oid→ar):List (Oid × Option ar):=N.map fun i=>(i,some (f i))
def Mem.blk (A:List (Oid × ar)) (Bs:List Bk):Mem:=Mem.of (A++(Bs.map bk).flatten)
def Mem.cons (a:Oid × ar) (m:Mem):Mem:=m.set a.1 (some a.2)
def bH (p:Oid) (N:List Oid):Prop:=∀ i ∈ N,¬ Oid.under p i
def DJ (N M:List Oid):Prop:=∀ i ∈ N,i ∉ M
theorem bH.sub {p:Oid} {N:List Oid} (h:bH p N) (c i:Nat):bH (.sub c i p) N:=fun j hj hu=>h j hj (Oid.ay hu)
theorem bH.mem {p:Oid} {N:List Oid} (h:bH p N) {c i:Nat}:Oid.sub c i p ∉ N:=fun hm=>h _ hm (Oid.ay (Oid.az _))
theorem bH.afm {p:Oid} {N:List Oid} (h:bH p N) {t c i:Nat}:Oid.ty t (.sub c i p) ∉ N:=fun hm=>h _ hm (Oid.ay (Oid.fM t _))
theorem bH.afn {p:Oid} {N:List Oid} (h:bH p N) {c i c' i':Nat}:Oid.sub c' i' (.sub c i p) ∉ N:=fun hm=>h _ hm (Oid.ay (Oid.ay (Oid.az _)))
def rE (p:Oid) (c:Nat) (N:List Oid):Prop:=∀ i ∈ N,¬ dB p c i
theorem rE.sub {p:Oid} {c0:Nat} {N:List Oid} (h:rE p c0 N) {c:Nat} (hc:c0≤c) (i:Nat):bH (.sub c i p) N:=fun j hj hu=>h j hj ⟨c,i,hc,hu⟩
theorem rE.mono {p:Oid} {c0 c:Nat} {N:List Oid} (h:rE p c0 N) (hc:c0≤c):rE p c N:=fun j hj hu=>h j hj (hu.mono hc)
theorem rE.mem {p:Oid} {c0:Nat} {N:List Oid} (h:rE p c0 N) {c i:Nat} (hc:c0≤c):Oid.sub c i p ∉ N:=fun hm=>h _ hm ⟨c,i,hc,Oid.az _⟩
theorem bH.C {p:Oid} {N:List Oid} (h:bH p N) (c:Nat):rE p c N:=fun j hj hu=>h j hj hu.under
theorem Mem.jo (q:Oid × ar) (A:List (Oid × ar)) (Bs:List Bk) (i:Oid):Mem.blk (q::A) Bs i=if i=q.1 then some q.2 else Mem.blk A Bs i:=rfl
theorem Mem.CF (q:Oid × ar) (A:List (Oid × ar)) (Bs:List Bk):Mem.cons q (Mem.blk A Bs)=Mem.blk (q::A) Bs:=rfl
theorem rF (A:List (Oid × ar)) (Bs:List Bk):(Mem.blk A Bs).aF []=Mem.blk A Bs:=rfl
theorem ik (i:Oid) (o:ar) (F:List (Oid × ar)):∀ A,(Mem.of (A++F)).set i (some o)=Mem.of (c8 i (some o) A++F)
 | []=>rfl
 | q::A=>by
  have ih:=ik i o F A
  simp only [c8]
  by_cases h:i=q.1
  ·rw [if_pos h];funext k;simp only [List.cons_append,Mem.of,Mem.set];subst h;split<;>rfl
  ·rw [if_neg h];funext k;simp only [List.cons_append,Mem.of];rw [← ih];simp only [Mem.set]
   by_cases h1:k=i
   ·rw [if_pos h1,if_pos h1,if_neg (fun h2=>h (h1.symm.trans h2))]
   ·rw [if_neg h1,if_neg h1]
theorem pG (A:List (Oid × ar)) (Bs:List Bk) (i:Oid) (o:ar) (u:List (Oid × Option ar)):(Mem.blk A Bs).aF ((i,some o)::u)=(Mem.blk (c8 i (some o) A) Bs).aF u:=by
 show ((Mem.of _).set i (some o)).aF u=_
 rw [ik];rfl
theorem pH (A:List (Oid × ar)) (Bs:List Bk) (i:Oid) (o:ar):(Mem.blk A Bs).set i (some o)=Mem.blk (c8 i (some o) A) Bs:=ik i o _ A
def del (i:Oid) (B:Bk):Bk:=(B.1.filter fun j=>decide (¬ j=i),B.2)
def ll (i:Oid):List Bk→List Bk
 | []=>[]
 | B::Bs=>del i B::ll i Bs
theorem CG (Bs:List Bk) (i:Oid):((Bs.map bk).flatten.filter fun q=>decide (¬ q.1=i))=((ll i Bs).map bk).flatten:=by
 induction Bs with
 | nil=>rfl
 | cons B Bs ih =>
  simp only [List.map_cons,List.flatten_cons,List.filter_append,ih,ll]
  congr 1
  simp only [bk,del,List.filter_map]
  rfl
theorem uH (i:Oid):∀ L:List (Oid × ar),(Mem.of L).set i none=Mem.of (L.filter fun q=>decide (¬ q.1=i))
 | []=>by funext k;simp [Mem.of,Mem.set,Mem.emp]
 | q::L=>by
  have ih:=uH i L
  by_cases h:q.1=i
  ·rw [List.filter_cons_of_neg (by simpa using h),← ih];funext k;simp only [Mem.of,Mem.set];subst h;split<;>rfl
  ·rw [List.filter_cons_of_pos (by simpa using h)]
   show _=(Mem.of _).set q.1 (some q.2)
   rw [← ih];funext k;simp only [Mem.of,Mem.set]
   by_cases h1:k=i
   ·rw [if_pos h1,if_neg (fun h2=>h (h2.symm.trans h1)),if_pos h1]
   ·rw [if_neg h1,if_neg h1]
theorem kZ (i:Oid):∀ A:List (Oid × ar),c8 i none A=A.filter fun q=>decide (¬ q.1=i)
 | []=>rfl
 | q::A=>by
  have ih:=kZ i A
  simp only [c8]
  by_cases h:i=q.1
  ·rw [if_pos h,List.filter_cons_of_neg (by simpa using h.symm),ih]
  ·rw [if_neg h,List.filter_cons_of_pos (by simpa using fun e=>h e.symm),ih]
theorem jT (A:List (Oid × ar)) (Bs:List Bk) (i:Oid):(Mem.blk A Bs).set i none=Mem.blk (c8 i none A) (ll i Bs):=by
 show (Mem.of _).set i none=Mem.of _
 rw [uH,List.filter_append,kZ,CG]
theorem pI (A:List (Oid × ar)) (Bs:List Bk) (i:Oid) (u:List (Oid × Option ar)):(Mem.blk A Bs).aF ((i,none)::u)=(Mem.blk (c8 i none A) (ll i Bs)).aF u:=by
 show ((Mem.blk A Bs).set i none).aF u=_
 rw [jT]
theorem CH (i:Oid):ll i []=[]:=rfl
theorem yP (i:Oid) (B:Bk) (Bs:List Bk):ll i (B::Bs)=del i B::ll i Bs:=rfl
theorem lz {i:Oid} {N:List Oid} {f:Oid→ar} (h:i ∉ N):del i (N,f)=(N,f):=by
 simp only [del,Prod.mk.injEq,and_true]
 exact List.filter_eq_self.2 fun j hj=>by rw [decide_eq_true_eq];rintro rfl;exact h hj
theorem pB {c k:Nat} {p:Oid} {N:List Oid} {f:Oid→ar} (h:bH p N):del (.sub c k p) (N,f)=(N,f):=lz h.mem
theorem afo {t c k:Nat} {p:Oid} {N:List Oid} {f:Oid→ar} (h:bH p N):del (.ty t (.sub c k p)) (N,f)=(N,f):=lz h.afm
theorem CI {c k c' k':Nat} {p:Oid} {N:List Oid} {f:Oid→ar} (h:bH p N):del (.sub c' k' (.sub c k p)) (N,f)=(N,f):=lz h.afn
theorem dM (N:List Oid) (f:Oid→ar) (i:Oid):∀ m:Mem,(m.aF (sb N f)) i=if i ∈ N then some (f i) else m i:=by
 induction N with
 | nil=>intro m;simp [sb,Mem.aF]
 | cons j N ih =>
  intro m
  show ((m.set j (some (f j))).aF (sb N f)) i=_
  rw [ih]
  by_cases h1:i ∈ N
  ·rw [if_pos h1,if_pos (List.mem_cons_of_mem _ h1)]
  ·rw [if_neg h1]
   by_cases h2:i=j
   ·subst h2;rw [if_pos List.mem_cons_self];simp [Mem.set]
   ·rw [if_neg (by simp [h1,h2])];simp [Mem.set,h2]
theorem CJ (N:List Oid) (f:Oid→ar) (F:List (Oid × ar)) (i:Oid):Mem.of (bk (N,f)++F) i=if i ∈ N then some (f i) else Mem.of F i:=by
 induction N with
 | nil=>simp [bk]
 | cons j N ih =>
  show (Mem.of (bk (N,f)++F)).set j (some (f j)) i=_
  simp only [Mem.set]
  by_cases h2:i=j
  ·subst h2;rw [if_pos rfl,if_pos List.mem_cons_self]
  ·rw [if_neg h2,ih]
   by_cases h1:i ∈ N
   ·rw [if_pos h1,if_pos (List.mem_cons_of_mem _ h1)]
   ·rw [if_neg h1,if_neg (by simp [h1,h2])]
theorem aV (N:List Oid) (f:Oid→ar) (Bs:List Bk) (i:Oid):Mem.blk [] ((N,f)::Bs) i=if i ∈ N then some (f i) else Mem.blk [] Bs i:=CJ N f _ i
theorem W6 (N:List Oid) (f g:Oid→ar) (Bs:List Bk):(Mem.blk [] ((N,f)::Bs)).aF (sb N g)=Mem.blk [] ((N,g)::Bs):=by
 funext i
 rw [dM,aV,aV]
 split<;>rfl
theorem W7 {M N:List Oid} (h:DJ M N) (e f g:Oid→ar) (Bs:List Bk):(Mem.blk [] ((M,e)::(N,f)::Bs)).aF (sb N g)=Mem.blk [] ((M,e)::(N,g)::Bs):=by
 funext i
 rw [dM,aV,aV,aV,aV]
 by_cases h1:i ∈ N
 ·rw [if_pos h1,if_neg (fun h2=>h i h2 h1),if_pos h1]
 ·simp only [if_neg h1]
theorem W8 {L M N:List Oid} (h:DJ L N) (h':DJ M N) (d e f g:Oid→ar) (Bs:List Bk):(Mem.blk [] ((L,d)::(M,e)::(N,f)::Bs)).aF (sb N g)=Mem.blk [] ((L,d)::(M,e)::(N,g)::Bs):=by
 funext i
 rw [dM,aV,aV,aV,aV,aV,aV]
 by_cases h1:i ∈ N
 ·rw [if_pos h1,if_neg (fun h2=>h i h2 h1),if_neg (fun h2=>h' i h2 h1),if_pos h1]
 ·simp only [if_neg h1]
theorem lA {q:Oid × ar} {A:List (Oid × ar)} {Bs:List Bk} {N:List Oid} {g:Oid→ar} (h:q.1 ∉ N):(Mem.blk (q::A) Bs).aF (sb N g)=Mem.cons q ((Mem.blk A Bs).aF (sb N g)):=by
 funext i
 rw [dM]
 simp only [Mem.cons,Mem.set,Mem.jo]
 rw [dM]
 by_cases h1:i=q.1
 ·subst h1;rw [if_neg h,if_pos rfl,if_pos rfl]
 ·rw [if_neg h1,if_neg h1]
theorem W9 {i:Oid} {o:ar} {A:List (Oid × ar)} {Bs:List Bk} {N:List Oid} {g:Oid→ar} (h:i ∉ N):(Mem.blk ((i,o)::A) Bs).aF (sb N g)=Mem.cons (i,o) ((Mem.blk A Bs).aF (sb N g)):=lA h
theorem Xa {c k:Nat} {p:Oid} {o:ar} {A:List (Oid × ar)} {Bs:List Bk} {N:List Oid} {g:Oid→ar} (h:bH p N):(Mem.blk ((.sub c k p,o)::A) Bs).aF (sb N g)=Mem.cons (.sub c k p,o) ((Mem.blk A Bs).aF (sb N g)):=lA h.mem
theorem Xb {t c k:Nat} {p:Oid} {o:ar} {A:List (Oid × ar)} {Bs:List Bk} {N:List Oid} {g:Oid→ar} (h:bH p N):(Mem.blk ((.ty t (.sub c k p),o)::A) Bs).aF (sb N g)=Mem.cons (.ty t (.sub c k p),o) ((Mem.blk A Bs).aF (sb N g)):=lA h.afm
theorem CK {c k c' k':Nat} {p:Oid} {o:ar} {A:List (Oid × ar)} {Bs:List Bk} {N:List Oid} {g:Oid→ar} (h:bH p N):(Mem.blk ((.sub c' k' (.sub c k p),o)::A) Bs).aF (sb N g)=Mem.cons (.sub c' k' (.sub c k p),o) ((Mem.blk A Bs).aF (sb N g)):=lA h.afn
theorem dc {B:Bk} {q:Oid × ar}:q ∈ bk B↔q.1 ∈ B.1∧q.2=B.2 q.1:=by
 simp only [bk,List.mem_map]
 constructor
 ·rintro ⟨i,h1,rfl⟩;exact ⟨h1,rfl⟩
 ·rintro ⟨h1,h2⟩;exact ⟨q.1,h1,by rw [← h2]⟩
theorem afp (N:List Oid) (f:Oid→ar) (Bs:List Bk):(∀ q,q ∈ bk (N,f)→Mem.blk [] ((N,f)::Bs) q.1=some q.2)=True:=eq_true fun q hq=>by
 obtain ⟨h1,h2⟩:=dc.1 hq
 rw [aV,if_pos h1,h2]
theorem afq {M N:List Oid} (h:DJ M N) (e f:Oid→ar) (Bs:List Bk):(∀ q,q ∈ bk (N,f)→Mem.blk [] ((M,e)::(N,f)::Bs) q.1=some q.2)=True:=eq_true fun q hq=>by
 obtain ⟨h1,h2⟩:=dc.1 hq
 rw [aV,if_neg (fun h3=>h _ h3 h1),aV,if_pos h1,h2]
theorem afr {L M N:List Oid} (h:DJ L N) (h':DJ M N) (d e f:Oid→ar) (Bs:List Bk):(∀ q,q ∈ bk (N,f)→Mem.blk [] ((L,d)::(M,e)::(N,f)::Bs) q.1=some q.2)=True:=eq_true fun q hq=>by
 obtain ⟨h1,h2⟩:=dc.1 hq
 rw [aV,if_neg (fun h3=>h _ h3 h1),aV,if_neg (fun h3=>h' _ h3 h1),aV,if_pos h1,h2]
theorem pJ {a:Oid × ar} {A:List (Oid × ar)} {Bs:List Bk} {N:List Oid} {f:Oid→ar} (h:a.1 ∉ N):(∀ q,q ∈ bk (N,f)→Mem.blk (a::A) Bs q.1=some q.2)=(∀ q,q ∈ bk (N,f)→Mem.blk A Bs q.1=some q.2):=by
 refine propext ⟨fun k q hq=>?_,fun k q hq=>?_⟩
 ·have:=k q hq
  rwa [Mem.jo,if_neg (fun e:q.1=a.1=>h (e ▸ (dc.1 hq).1))] at this
 ·rw [Mem.jo,if_neg (fun e:q.1=a.1=>h (e ▸ (dc.1 hq).1))];exact k q hq
theorem afs {i:Oid} {o:ar} {A:List (Oid × ar)} {Bs:List Bk} {N:List Oid} {f:Oid→ar} (h:i ∉ N):(∀ q,q ∈ bk (N,f)→Mem.blk ((i,o)::A) Bs q.1=some q.2)=(∀ q,q ∈ bk (N,f)→Mem.blk A Bs q.1=some q.2):=pJ h
theorem aft {c k:Nat} {p:Oid} {o:ar} {A:List (Oid × ar)} {Bs:List Bk} {N:List Oid} {f:Oid→ar} (h:bH p N):(∀ q,q ∈ bk (N,f)→Mem.blk ((.sub c k p,o)::A) Bs q.1=some q.2)=(∀ q,q ∈ bk (N,f)→Mem.blk A Bs q.1=some q.2):=pJ h.mem
theorem afu {t c k:Nat} {p:Oid} {o:ar} {A:List (Oid × ar)} {Bs:List Bk} {N:List Oid} {f:Oid→ar} (h:bH p N):(∀ q,q ∈ bk (N,f)→Mem.blk ((.ty t (.sub c k p),o)::A) Bs q.1=some q.2)=(∀ q,q ∈ bk (N,f)→Mem.blk A Bs q.1=some q.2):=pJ h.afm
theorem Xc {c k c' k':Nat} {p:Oid} {o:ar} {A:List (Oid × ar)} {Bs:List Bk} {N:List Oid} {f:Oid→ar} (h:bH p N):(∀ q,q ∈ bk (N,f)→Mem.blk ((.sub c' k' (.sub c k p),o)::A) Bs q.1=some q.2)=(∀ q,q ∈ bk (N,f)→Mem.blk A Bs q.1=some q.2):=pJ h.afn
theorem Xd {A0:List (Oid × ar)} {U:List (Oid × Option ar)} {N:List Oid} {f g:Oid→ar} {m:Mem} (h2:∀ q,q ∈ U→∀ o,q.2=some o→m q.1=some o) (h3:∀ q,q ∈ A0→(∀ r,r ∈ U→¬ r.1=q.1)→m q.1=some q.2)
  (h4:∀ q,q ∈ bk (N,g)→m q.1=some q.2) (i:Oid) (o:ar) (h:((Mem.of (A0++bk (N,f))).aF (U++sb N g)) i=some o):m i=some o:=by
 rw [bZ,dM] at h
 by_cases h1:i ∈ N
 ·rw [if_pos h1] at h
  rw [← h];exact h4 (i,g i) (dc.2 ⟨h1,rfl⟩)
 ·rw [if_neg h1] at h
  by_cases hk:∃ q ∈ U,q.1=i
  ·obtain ⟨q',k1,k2,k3⟩:=ee (m:=Mem.of (A0++bk (N,f))) hk
   rw [k3] at h
   rw [← k2];exact h2 q' k1 o h
  ·rw [aU fun q hq e=>hk ⟨q,hq,e⟩] at h
   obtain ⟨q,k1,rfl,rfl⟩:=Mem.dK h
   rcases List.mem_append.1 k1 with k1|k1
   ·exact h3 q k1 fun r hr e=>hk ⟨r,hr,e⟩
   ·exact absurd (dc.1 k1).1 h1
section
variable {P:Program} {rs:List ResultVar} {fr:List (Nat × AV)} {m:Mem} {c:Nat} {val:AV} {N:List Oid} {f g:Oid→ar} {Rp:AV→List (Oid × Option ar)→Prop}
theorem Xe {a:Oid × ar} (h1:ib P m fr rs=some val) (h3:m a.1=some a.2) (h4:∀ q,q ∈ bk (N,g)→m q.1=some q.2):eZ P rs (a::bk (N,f)) (fun v u=>v=val∧u=sb N g) Rp .ret ⟨fr,m,c,[]⟩ :=
 cT val _ h1 ⟨rfl,rfl⟩ (Xd (A0:=[a]) (U:=[]) (fun _ h=>by cases h) (fun q h _=>by rw [List.mem_singleton.1 h];exact h3) h4)
end
abbrev afv (P:Program) [Laid P] (f:FuncId) (xs:List AV) (sp:Oid→Prop) (need:List (Oid × ar)) (pv:AV) (upd:List (Oid × Option ar)):Prop:=aX P f xs sp need (fun _ _=>False) (fun v u=>v=pv∧u=upd)
theorem aA.CL {P:Program} [Laid P] {f:FuncId} {xs:List AV} {sp:Oid→Prop} {L0:List (Oid × ar)} {v:AV} {U:List (Oid × Option ar)} {N:List Oid} {F G:Oid→ar}
  (h:aA P f xs sp ⟨L0,v,U⟩) (hL:∀ q,q ∈ L0→q ∈ bk (N,F)) (hU:∀ q,q ∈ U→q.1 ∈ N) (hf:∀ i,i ∈ N→((Mem.of (bk (N,F))).aF U) i=some (G i)):aA P f xs sp ⟨bk (N,F),v,sb N G⟩ :=
 ⟨h.enters,fun x g args w m hm hn ha hs hx=>by
  refine (h.calls x g args w m hm (fun q hq=>hn q (hL q hq)) ha hs hx).mono fun en w' ⟨g',v',h1,h2,h3,h4,h5⟩=>⟨g',v',h1,h2,h3,h4,?_⟩
  have:m.aF U=m.aF (sb N G):=by
   funext i
   rw [dM]
   by_cases hi:i ∈ N
   ·rw [if_pos hi,← hf i hi]
    refine sF ?_
    rw [hn (i,F i) (dc.2 ⟨hi,rfl⟩)]
    have:=CJ N F [] i
    rw [List.append_nil,if_pos hi] at this
    exact this.symm
   ·rw [if_neg hi,aU fun q hq (e:q.1=i)=>hi (e ▸ hU q hq)]
  simp only at h5 ⊢
  rw [← this];exact h5⟩
def mD (F:Oid→ar) (i:Oid) (o:ar):Oid→ar:=fun j=>if j=i then o else F j
theorem bj (F:Oid→ar) (i:Oid) (o:ar) (j:Oid):mD F i o j=if j=i then o else F j:=rfl
theorem pK {N:List Oid} {F:Oid→ar} {i:Oid} (h:i ∈ N):Mem.of (bk (N,F)) i=some (F i):=by
 have:=CJ N F [] i
 rwa [List.append_nil,if_pos h] at this
theorem bk2 (F:Oid→ar) (a b:Oid):bk ([a,b],F)=[(a,F a),(b,F b)]:=rfl
theorem bk6 (F:Oid→ar) (a b c d e f:Oid):bk ([a,b,c,d,e,f],F)=[(a,F a),(b,F b),(c,F c),(d,F d),(e,F e),(f,F f)]:=rfl
theorem bk1 (F:Oid→ar) (a:Oid):bk ([a],F)=[(a,F a)]:=rfl
theorem aA.one {P:Program} [Laid P] {f:FuncId} {xs:List AV} {sp:Oid→Prop} {r:Oid} {o o':ar} {v:AV} {F:Oid→ar} (h:aA P f xs sp ⟨[(r,o)],v,[(r,some o')]⟩) (hF:F r=o):aA P f xs sp ⟨bk ([r],F),v,sb [r] (mD F r o')⟩:=by
 refine h.CL ?_ (fun q hq=>by rw [List.mem_singleton.1 hq];simp) fun i hi=>?_
 ·rw [bk1,hF];exact fun q hq=>hq
 ·rw [List.mem_singleton.1 hi]
  show ((Mem.of _).set r (some o')) r=_
  simp [Mem.set,mD]
attribute [go_sem] Mem.jo rF pG pI pH jT CH yP lz pB afo CI W6 W7 W8 W9 Xa Xb CK Mem.CF afp afq afr afs aft afu Xc
end Go.Ab
namespace Go.Ab
theorem ks {p e:Prop} (e1:e) (h:e→p:=by intro e;simp (disch:=first|omega|assumption) only [go_sem,eq_self,decide_true,decide_false,ne_eq,not_true_eq_false,not_false_eq_true,uu hpp,hpN,hO,e];first|done|fail):p:=h e1
theorem ks0 {p:Prop} (h:p:=by simp (disch:=first|omega|assumption) only [go_sem,eq_self,decide_true,decide_false,ne_eq,not_true_eq_false,not_false_eq_true,uu hpp,hpN,hO];first|done|fail):p:=h
theorem kt {p q e:Prop} (e1:e) (k:q) (h:e→kf q→p:=by intro e k;refine qt (ai (uu hpp) (ai hpN (ai hO e))) ?_;exact k.out):p:=h e1 ⟨k⟩
theorem ms {p e:Prop} (e1:e) (h:e→p:=by intro e;simp (disch:=first|omega|assumption) only [go_sem,eq_self,decide_true,decide_false,ne_eq,not_true_eq_false,not_false_eq_true,Q,hdj,hON,hOM,e];first|done|fail):p:=h e1
theorem mt {p q e:Prop} (e1:e) (k:q) (h:e→kf q→p:=by intro e k;refine qt (ai Q (ai hdj (ai hON (ai hOM e)))) ?_;exact k.out):p:=h e1 ⟨k⟩
theorem mn {p e:Prop} (e1:e) (h:e→p:=by intro e;first|(intro _ h;cases h;done)|exact agV _|(refine agW ?_ _;simp [hyN,hpN,hqN,hON.mem];done)|(refine agX ?_ hdj _;simp [hyM,hpM,hqM,hOM.mem];done)|exact ms e|(simp only [List.mem_cons,forall_eq_or_imp];refine ⟨ms e,?_⟩;first|exact agV _|(refine agW ?_ _;simp [hyN,hpN,hqN,hON.mem];done)|(refine agX ?_ hdj _;simp [hyM,hpM,hqM,hOM.mem];done))):p:=h e1
theorem mm {p c:Prop} (c1:c) (h:c→p:=by intro c;first|exact c|exact c (aH rfl hp)|exact c _ (aH rfl hp) (fun h=>hpp (Oid.ay h)) (hON.sub _ _)|exact c _ (aH rfl hp) (fun h=>hqq (Oid.ay h)) (hOM.sub _ _)):p:=h c1
theorem mr {p q e c:Prop} {U gl:List (Nat × Nat)} {ts:List Nat} (g:HD U gl ts) (e1:e) (c1:c) (k:q) (h:HD U gl ts→e→c→kf q→p:=by
  intro g e c k;(try refine qv ?_)
  refine XY g hng (by kernel_rfl) fun hf C S K hC1 hC hS hK=>?_;refine mt e ?_
  repeat (obtain ⟨c1,c⟩:CC _ _:=c;refine hC1 _ (mm c1) (mn e) ?_;refine mt e ?_)
  refine hK ?_;clear hK hS hC hC1 K S C hf;(try refine qv ?_)
  exact k.out):p:=h g e1 c1 ⟨k⟩
theorem md {p q e c:Prop} {U gl:List (Nat × Nat)} {ts:List Nat} (g:HD U gl ts) (e1:e) (c1:c) (k:q) (h:HD U gl ts→e→c→kf q→p:=by
  intro g e c k;(try refine qv ?_)
  refine A7 g mixed hng (by kernel_rfl) fun hf C S K hC hS hK=>?_;refine mt e ?_
  repeat (obtain ⟨c1,c⟩:CC _ _:=c;refine hC _ (mm c1) (mn e) ?_;refine mt e ?_)
  (first|refine hK (aK rfl) ?_|refine hK (by simp (disch:=first|omega|assumption) only [go_sem,List.reverse_cons,List.reverse_nil,ne_eq,not_false_eq_true,implies_true]) ?_);clear hK hS hC K S C hf;(try refine qv ?_)
  exact k.out):p:=h g e1 c1 ⟨k⟩
theorem kq {p:Prop} (h:p:=by refine aC (Xe (by simp (disch:=first|omega|assumption) only [go_sem,eq_self,decide_true,decide_false,ne_eq,not_true_eq_false,not_false_eq_true,uu hpp,hpN,hO,Xm,rN,fI,rdV,lsV,fnV,rdS,rdB,rdL,cdN,Bits.no]) (by show _=some _;exact ks0) (by first|exact nbu _|(refine nbA ?_ _;simp [hpN,hO.mem];done)|(refine nbA ?_ _;simp [hwN,hpN,hO.mem];done)))):p:=h
end Go.Ab
namespace Go.Proofs.YtlfeacmbhldjcaaGreatDoor
open Go Go.Ab
set_option maxRecDepth 20000
set_option maxHeartbeats 4000000
def iL (e:ME):Str:=match e.key with
 | .str s=>s
 | _=>[]
def bW (n k:Str):Option Str:=if gB k (n++[47])=true∧¬ 0≤Lib.indexByte (k.drop (n.length+1)) 47 then some (k.drop (n.length+1)) else none
theorem afw {l l':List (Oid × ar)} {i:Oid} (h:∀ q ∈ l,¬ i=q.1):Mem.of (l++l') i=Mem.of l' i:=by
 induction l with
 | nil=>rfl
 | cons q l ih=>rw [List.cons_append,Mem.ae,if_neg (h q List.mem_cons_self)];exact ih fun q' hq'=>h q' (List.mem_cons_of_mem _ hq')
theorem lB {m:Mem} {B L:List (Oid × ar)} (h1:∀ q,q ∈ B→m q.1=some q.2) (h2:∀ q,q ∈ L→m q.1=some q.2):∀ q,q ∈ B++L→m q.1=some q.2 :=
 fun q hq=>(List.mem_append.1 hq).elim (h1 q) (h2 q)
theorem rG {k:AV} (h:aQ [.ss] false k=true):∃ s,k = .str s:=by
 cases k<;>simp [aQ,AV.isAgg,AV.cells,fits,eD] at h ⊢
theorem Xf {es U:List ME} (hp:es.Pairwise fun e e'=>e.born < e'.born) (hs:∀ e ∈ U,e ∈ es) (hn:(U.map (·.born)).Nodup):U.length≤es.length:=by
 have h1:U.Nodup:=List.Pairwise.imp (fun h e=>h (by rw [e])) (List.pairwise_map.1 hn)
 exact h1.length_le_of_subset fun e he=>hs e he
theorem find_born {es:List ME} (hp:es.Pairwise fun e e'=>e.born < e'.born) {e:ME} (he:e ∈ es):es.find? (fun q=>q.born == e.born)=some e:=by
 induction es with
 | nil=>cases he
 | cons a es ih =>
  have h2:=List.pairwise_cons.1 hp
  rcases List.mem_cons.1 he with rfl|he
  ·simp
  ·have:=h2.1 e he
   rw [List.find?_cons_of_neg (by simp;omega)]
   exact ih h2.2 he
theorem yQ (b1 b2 o:Oid) (n:Str) (hln:n.length≤140737488355000) (es:List ME) (clock:Nat) (hkl:∀ e ∈ es,(iL e).length≤140737488355328) (p:Oid) (hne1:¬ o=b1) (hne2:¬ o=b2) (hne3:¬ b2=b1) (hb1:¬ Oid.under p b1) (hb2:¬ Oid.under p b2) (ho:¬ Oid.under p o) :
  qO Tryz.prog 207 [.ptr b1 0,.ptr b2 0] p [(b1,.cells [.map o]),(b2,.cells [.str n]),(o,.map [.ss] false es clock)] 1 (fun pre xs=>pre.length < es.length∧∃ s:Str,xs=[.str s]) (fun b pre=>b=true→∃ U:List ME,U.Perm es∧pre=(U.filterMap fun e=>bW n (iL e)).map fun s=>[.str s]):=by
 intro l J L0 hJ hdis hnp hY
 refine fm (by kernel_rfl) fun hcon=>?_
 refine ma (n:=32) (rs:=[]) Tryz.func207 rfl rfl (by decide) rfl rfl rfl ?_;rintro x rfl hrd hng
 have hcL:∀ q ∈ L0,Mem.of L0 q.1=some q.2:=fun q hq=>by
  have:=hcon q (List.mem_append_right _ hq)
  rwa [afw fun q' hq'=>hdis q hq q' hq'] at this
 generalize hQ:eZ Tryz.prog [] ([(b1,.cells [.map o]),(b2,.cells [.str n]),(o,.map [.ss] false es clock)]++L0) _ _=Q
 refine ahi fun hwf=>?_
 obtain ⟨hw1,hw2⟩:=hwf o [.ss] false es clock (by simp only [bU,cK,Mem.ae,Mem.bn,Mem.bt,Mem.bF,dF,c8,List.cons_append,List.nil_append,List.append_nil,↓reduceIte,eq_self,and_true,true_and,and_self,and_false,false_and,reduceCtorEq,Oid.sub.injEq,Nat.reduceEqDiff,hne1,hne2,hne3,Oid.ab hb1,Oid.ab hb2,Oid.ab ho,Oid.aa hb1,Oid.aa hb2,Oid.aa ho])
 have hstr:∀ e ∈ es,e.key = .str (iL e):=fun e he=>by
  obtain ⟨s,hs⟩:=rG (hw1 e he).1
  simp only [iL,hs]
 (try ((first|refine zn ?_|refine ze ?_|refine zk ?_);with_reducible (constructor;repeat constructor));try refine zl ?_)
 refine af nmd [] hng (by kernel_rfl) fun hf C S K hC1 hC hS hK=>?_;simp (disch:=first|omega|assumption) only [go_sem,hne1,hne2,hne3,Oid.ab hb1,Oid.ab hb2,Oid.ab ho,Oid.aa hb1,Oid.aa hb2,Oid.aa ho,aJ]
 refine hK ?_;clear hK hS hC hC1 K S C hf
 (try ((first|refine zn ?_|refine ze ?_|refine zk ?_);with_reducible (constructor;repeat constructor));try refine zl ?_)
 have hn0:∀ q ∈ L0,¬ q.1=b1∧¬ q.1=b2∧¬ q.1=o∧¬ q.1 = .sub 0 1 x.p:=fun q hq=>⟨hdis q hq _ List.mem_cons_self,hdis q hq _ (List.mem_cons_of_mem _ List.mem_cons_self),hdis q hq _ (List.mem_cons_of_mem _ (List.mem_cons_of_mem _ List.mem_cons_self)),fun e=>hnp q hq (e ▸ Oid.ay (Oid.az _))⟩
 refine bq ([(b1,.cells [.map o]),(b2,.cells [.str n]),(o,.map [.ss] false es clock),(.sub 0 1 x.p,.iter (some o) clock [] clock)]++L0) (lB ?_ ?_) ?_
 ·simp only [bU,cK,Mem.ae,Mem.bn,Mem.bt,Mem.bF,dF,c8,List.cons_append,List.nil_append,List.append_nil,↓reduceIte,eq_self,and_true,true_and,and_self,and_false,false_and,reduceCtorEq,Oid.sub.injEq,Nat.reduceEqDiff,hne1,hne2,hne3,Oid.ab hb1,Oid.ab hb2,Oid.ab ho,Oid.aa hb1,Oid.aa hb2,Oid.aa ho,aJ]
 ·intro q hq
  obtain ⟨a1,a2,a3,a4⟩:=hn0 q hq
  simp only [bU,cK,Mem.ae,Mem.bn,Mem.bt,Mem.bF,dF,c8,List.cons_append,List.nil_append,List.append_nil,↓reduceIte,eq_self,and_true,true_and,and_self,and_false,false_and,reduceCtorEq,Oid.sub.injEq,Nat.reduceEqDiff,aJ,a1,a2,a3,a4]
  exact hcL q hq
 refine a6 [0,1,2,8] (fun q s'=>∃ (c:Nat) (U:List ME) (L:List (Oid × ar)),s' = ⟨[(0,.fn (.yield l) [] []),(1,.ptr b1 0),(2,.ptr b2 0),(8,.iter (.sub 0 1 x.p))],Mem.of ([(b1,.cells [.map o]),(b2,.cells [.str n]),(o,.map [.ss] false es clock),(.sub 0 1 x.p,.iter (some o) clock (U.map ME.born) clock)]++L),c,[]⟩∧0 < c∧q=es.length - U.length∧(U.map ME.born).Nodup∧(∀ e ∈ U,e ∈ es)∧J true ((U.filterMap fun e=>bW n (iL e)).map fun s=>[.str s]) L ∧
  (∀ q ∈ L,Mem.of L q.1=some q.2)∧∀ q ∈ L,((∃ q' ∈ L0,q'.1=q.1)∨Oid.under x.p q.1)∧¬ q.1=b1∧¬ q.1=b2∧¬ q.1=o∧¬ q.1 = .sub 0 1 x.p∧∀ d j,c≤d→¬ Oid.under (.sub d j x.p) q.1) es.length ⟨_,[],L0,rfl,by omega,rfl,List.nodup_nil,fun i h=>(by cases h),hJ,hcL,fun q hq=>⟨.inl ⟨q,hq,rfl⟩,(hn0 q hq).1,(hn0 q hq).2.1,(hn0 q hq).2.2.1,(hn0 q hq).2.2.2,fun d j _ h=>hnp q hq (Oid.ay h)⟩⟩ ?_
 rintro q s' ⟨c,U,L,rfl,hc,rfl,hnd,hlt,hj,hcc,hnm⟩
 have hst:U.map ME.born=[]∨es=[]∨∃ e ∈ es,e.born < clock:=by
  cases U with
  | nil=>exact .inl rfl
  | cons e _=>exact .inr (.inr ⟨e,hlt e List.mem_cons_self,(hw1 e (hlt e List.mem_cons_self)).2⟩)
 (try ((first|refine zn ?_|refine ze ?_|refine zk ?_);with_reducible (constructor;repeat constructor));try refine zl ?_)
 refine af nmd [] hng (by kernel_rfl) fun hf C S K hC1 hC hS hK=>?_;simp (disch:=first|omega|assumption) only [go_sem]
 refine hS _ _ _ (fun o' hd ho'=>DW (it:=.sub 0 1 x.p) (id:=o) (since:=clock) (ks:=[.ss]) (ag:=false) (clock:=clock) ho' rfl hst) ?_ ?_ (fun _ _ h=>h.elim)
 ·simp only [bU,cK,Mem.ae,Mem.bn,Mem.bt,Mem.bF,dF,c8,List.cons_append,List.nil_append,List.append_nil,↓reduceIte,eq_self,and_true,true_and,and_self,and_false,false_and,reduceCtorEq,Oid.sub.injEq,Nat.reduceEqDiff,hne1,hne2,hne3,Oid.ab hb1,Oid.ab hb2,Oid.ab ho,Oid.aa hb1,Oid.aa hb2,Oid.aa ho]
 rintro val upd (⟨e,he,hns,rfl,rfl⟩|⟨hall,rfl,rfl⟩)
 ·have hfi:=find_born hw2 he
  have hk:=hstr e he
  have hkl1:=hkl e he
  have hnd':((U++[e]).map ME.born).Nodup:=by
   rw [List.map_append]
   exact List.nodup_append.2 ⟨hnd,by simp,fun a ha b hb' e'=>by simp at hb';subst hb';subst e';exact hns ha⟩
  have hlt':∀ j ∈ U++[e],j ∈ es:=fun j hj=>by
   rcases List.mem_append.1 hj with hj|hj
   ·exact hlt j hj
   ·simp at hj;subst hj;exact he
  have hle:=Xf hw2 hlt' hnd'
  have hfm:(U.filterMap fun e=>bW n (iL e)).length≤U.length:=List.length_filterMap_le ..
  have hrest:((U++[e]).filterMap fun e=>bW n (iL e))=(U.filterMap fun e=>bW n (iL e))++(bW n (iL e)).toList:=by
   rw [List.filterMap_append];congr 1
  generalize iL e=s at *
  simp (disch:=first|omega|assumption) only [go_sem,hne1,hne2,hne3,Oid.ab hb1,Oid.ab hb2,Oid.ab ho,Oid.aa hb1,Oid.aa hb2,Oid.aa ho,aJ,hk]
  refine hK ?_;clear hK hS hC hC1 K S C hf
  (repeat (first|(refine ah rfl rfl ?_)|(refine aj rfl rfl ?_)|(refine af nmd [] hng (by kernel_rfl) fun hf C S K hC1 hC hS hK=>?_;simp (disch:=first|omega|assumption) only [go_sem];refine hK ?_;clear hK hS hC hC1 K S C hf)|((first|refine zv ?_|refine zw ?_|refine zu ?_);with_reducible (constructor;repeat constructor);try refine zl ?_)))
  refine jO ?_
  (repeat (first|(refine ah rfl rfl ?_)|(refine aj rfl rfl ?_)|(refine af nmd [] hng (by kernel_rfl) fun hf C S K hC1 hC hS hK=>?_;simp (disch:=first|omega|assumption) only [go_sem];refine hK ?_;clear hK hS hC hC1 K S C hf)|((first|refine zv ?_|refine zw ?_|refine zu ?_);with_reducible (constructor;repeat constructor);try refine zl ?_)))
  refine af nmd [] hng (by kernel_rfl) fun hf C S K hC1 hC hS hK=>?_;simp (disch:=first|omega|assumption) only [go_sem,hne1,hne2,hne3,Oid.ab hb1,Oid.ab hb2,Oid.ab ho,Oid.aa hb1,Oid.aa hb2,Oid.aa ho,aJ,hfi,hk,List.getLast?_concat]
  refine hK ?_;clear hK hS hC hC1 K S C hf
  (repeat (first|(refine ah rfl rfl ?_)|(refine aj rfl rfl ?_)|(refine af nmd [] hng (by kernel_rfl) fun hf C S K hC1 hC hS hK=>?_;simp (disch:=first|omega|assumption) only [go_sem];refine hK ?_;clear hK hS hC hC1 K S C hf)|((first|refine zv ?_|refine zw ?_|refine zu ?_);with_reducible (constructor;repeat constructor);try refine zl ?_)))
  refine af nmd [] hng (by kernel_rfl) fun hf C S K hC1 hC hS hK=>?_;simp (disch:=first|omega|assumption) only [go_sem,hne1,hne2,hne3,Oid.ab hb1,Oid.ab hb2,Oid.ab ho,Oid.aa hb1,Oid.aa hb2,Oid.aa ho,aJ]
  refine hC1 _ (pA s (n++[47]) (by omega) (by simp only [List.length_append,List.length_cons,List.length_nil];omega) _) qs0 ?_
  simp (disch:=first|omega|assumption) only [go_sem]
  refine hK ?_;clear hK hS hC hC1 K S C hf
  have hnm2:∀ q ∈ L,((∃ q' ∈ L0,q'.1=q.1)∨Oid.under x.p q.1)∧¬ q.1=b1∧¬ q.1=b2∧¬ q.1=o∧¬ q.1 = .sub 0 1 x.p∧∀ d j,c+4≤d→¬ Oid.under (.sub d j x.p) q.1:=fun q hq=>by
   obtain ⟨a0,a1,a2,a3,a4,a5⟩:=hnm q hq
   exact ⟨a0,a1,a2,a3,a4,fun d j hd=>a5 d j (by omega)⟩
  have hnL:∀ q ∈ L,∀ q' ∈ ([(b1,.cells [.map o]),(b2,.cells [.str n]),(o,.map [.ss] false es clock),(.sub 0 1 x.p,.iter (some o) clock (U.map ME.born++[e.born]) clock)]:List (Oid × ar)),¬ q.1=q'.1:=fun q hq=>by
   obtain ⟨_,a1,a2,a3,a4,a5⟩:=hnm q hq
   simp only [bU,cK,Mem.ae,Mem.bn,Mem.bt,Mem.bF,dF,c8,List.cons_append,List.nil_append,List.append_nil,↓reduceIte,eq_self,and_true,true_and,and_self,and_false,false_and,reduceCtorEq,Oid.sub.injEq,Nat.reduceEqDiff,a1,a2,a3,a4,not_false_eq_true]
  have hBm:∀ q ∈ ([(b1,.cells [.map o]),(b2,.cells [.str n]),(o,.map [.ss] false es clock),(.sub 0 1 x.p,.iter (some o) clock (U.map ME.born++[e.born]) clock)]:List (Oid × ar)),Mem.of ([(b1,.cells [.map o]),(b2,.cells [.str n]),(o,.map [.ss] false es clock),(.sub 0 1 x.p,.iter (some o) clock (U.map ME.born++[e.born]) clock)]++L) q.1=some q.2:=by
   simp only [bU,cK,Mem.ae,Mem.bn,Mem.bt,Mem.bF,dF,c8,List.cons_append,List.nil_append,List.append_nil,↓reduceIte,eq_self,and_true,true_and,and_self,and_false,false_and,reduceCtorEq,Oid.sub.injEq,Nat.reduceEqDiff,hne1,hne2,hne3,Oid.ab hb1,Oid.ab hb2,Oid.ab ho,Oid.aa hb1,Oid.aa hb2,Oid.aa ho]
  have hall:=mj hBm hnL hcc
  have hmm:(U++[e]).map ME.born=U.map ME.born++[e.born]:=by simp
  have hlen2:(U++[e]).length=U.length+1:=by simp
  by_cases hp:gB s (n++[47])=true
  ·by_cases hq:0≤Lib.indexByte (s.drop (n.length+1)) 47
   ·have hro:bW n s=none:=if_neg fun h=>h.2 hq
    (repeat (first|(refine ah rfl rfl ?_)|(refine aj rfl rfl ?_)|(refine af nmd [] hng (by kernel_rfl) fun hf C S K hC1 hC hS hK=>?_;simp (disch:=first|omega|assumption) only [go_sem];refine hK ?_;clear hK hS hC hC1 K S C hf)|((first|refine zv ?_|refine zw ?_|refine zu ?_);with_reducible (constructor;repeat constructor);try refine zl ?_)))
    refine af nmd [(1,21),(6,26)] hng (by kernel_rfl) fun hf C S K hC1 hC hS hK=>?_;simp (disch:=first|omega|assumption) only [go_sem,hp]
    refine hC1 _ (fv (s.drop (n.length+1)) 47 _) qs0 ?_
    simp (disch:=first|omega|assumption) only [go_sem,hq]
    refine hK ?_;clear hK hS hC hC1 K S C hf
    refine qw0 ?_
    refine ⟨_,Mem.of ([(b1,.cells [.map o]),(b2,.cells [.str n]),(o,.map [.ss] false es clock),(.sub 0 1 x.p,.iter (some o) clock (U.map ME.born++[e.born]) clock)]++L),?_,ph hall,c+1+1+1+1,U++[e],L,by rw [hmm];rfl,by omega,rfl,hnd',hlt',?_,hcc,hnm2⟩
    ·rw [hlen2] at hle ⊢;omega
    ·rw [hrest,hro];simpa using hj
   ·have hro:bW n s=some (s.drop (n.length+1)):=if_pos ⟨hp,hq⟩
    (repeat (first|(refine ah rfl rfl ?_)|(refine aj rfl rfl ?_)|(refine af nmd [] hng (by kernel_rfl) fun hf C S K hC1 hC hS hK=>?_;simp (disch:=first|omega|assumption) only [go_sem];refine hK ?_;clear hK hS hC hC1 K S C hf)|((first|refine zv ?_|refine zw ?_|refine zu ?_);with_reducible (constructor;repeat constructor);try refine zl ?_)))
    refine af nmd [(1,21),(6,26)] hng (by kernel_rfl) fun hf C S K hC1 hC hS hK=>?_;simp (disch:=first|omega|assumption) only [go_sem,hp]
    refine hC1 _ (fv (s.drop (n.length+1)) 47 _) qs0 ?_
    simp (disch:=first|omega|assumption) only [go_sem,hq]
    generalize hr:s.drop (n.length+1)=r at *
    refine hS _ _ _ (fun o' hd ho'=>vI ho' rfl (hY _ [.str r] L (.sub (c+1+1+1) 9 x.p) hj rfl ⟨by rw [List.length_map];rw [hlen2] at hle;omega,r,rfl⟩)) (fun q hq=>hall q (List.mem_append_right _ hq)) ?_ (fun _ _ h=>h.elim)
    rintro val upd ⟨b,L',rfl,hj',hU⟩
    have hym:=vO hU (fun q hq=>hall q (List.mem_append_right _ hq)) hBm ?_
    rotate_left
    ·intro q hq
     refine ⟨fun q' hq'=>hnL q' hq' q hq,fun hu=>?_⟩
     simp only [List.mem_cons,List.not_mem_nil,or_false] at hq
     rcases hq with rfl|rfl|rfl|rfl
     ·exact hb1 (Oid.ay hu)
     ·exact hb2 (Oid.ay hu)
     ·exact ho (Oid.ay hu)
     ·have:=(Oid.apart hu (Oid.az _)).1;omega
    have hcl:∀ q ∈ L',Mem.of L' q.1=some q.2:=fun q hq=>by
     obtain ⟨o',ho'⟩:=Mem.o5 hq
     obtain ⟨q',h1,h2,h3⟩:=Mem.dK ho'
     have h4:=hym q (List.mem_append_right _ hq)
     have h5:=hym q' (List.mem_append_right _ h1)
     rw [h2,h4,h3] at h5
     rw [ho'];exact h5.symm
    simp (disch:=first|omega|assumption) only [go_sem]
    refine hK ?_;clear hK hS hC hC1 K S C hf
    (repeat (first|(refine ah rfl rfl ?_)|(refine aj rfl rfl ?_)|(refine af nmd [] hng (by kernel_rfl) fun hf C S K hC1 hC hS hK=>?_;simp (disch:=first|omega|assumption) only [go_sem];refine hK ?_;clear hK hS hC hC1 K S C hf)|((first|refine zv ?_|refine zw ?_|refine zu ?_);with_reducible (constructor;repeat constructor);try refine zl ?_)))
    refine bq ([(b1,.cells [.map o]),(b2,.cells [.str n]),(o,.map [.ss] false es clock),(.sub 0 1 x.p,.iter (some o) clock (U.map ME.born++[e.born]) clock)]++L') (by rw [← Mem.bt];exact hym) ?_
    have hnm':∀ q ∈ L',((∃ q' ∈ L0,q'.1=q.1)∨Oid.under x.p q.1)∧¬ q.1=b1∧¬ q.1=b2∧¬ q.1=o∧¬ q.1 = .sub 0 1 x.p∧∀ d j,c+1+1+1+1≤d→¬ Oid.under (.sub d j x.p) q.1:=fun q hq=>by
     rcases hU.nam q hq with ⟨q',h1,h2⟩|h1
     ·obtain ⟨a0,a1,a2,a3,a4,a5⟩:=hnm q' h1
      rw [h2] at a0 a1 a2 a3 a4 a5
      exact ⟨a0,a1,a2,a3,a4,fun d j hd=>a5 d j (by omega)⟩
     ·have hu:=Oid.ay h1
      refine ⟨.inr hu,fun e=>hb1 (e ▸ hu),fun e=>hb2 (e ▸ hu),fun e=>ho (e ▸ hu),fun e=>?_,fun d j hd h2=>?_⟩
      ·rw [e] at h1;have:=(Oid.apart h1 (Oid.az _)).1;omega
      ·have:=(Oid.apart h1 h2).1;omega
    have hmap:((U++[e]).filterMap fun e=>bW n (iL e)).map (fun s=>[AV.str s])=((U.filterMap fun e=>bW n (iL e)).map fun s=>[AV.str s])++[[.str r]]:=by rw [hrest,hro];simp
    have hnL':∀ q ∈ L',∀ q' ∈ ([(b1,.cells [.map o]),(b2,.cells [.str n]),(o,.map [.ss] false es clock),(.sub 0 1 x.p,.iter (some o) clock (U.map ME.born++[e.born]) clock)]:List (Oid × ar)),¬ q.1=q'.1:=fun q hq=>by
     obtain ⟨_,a1,a2,a3,a4,a5⟩:=hnm' q hq
     simp only [bU,cK,Mem.ae,Mem.bn,Mem.bt,Mem.bF,dF,c8,List.cons_append,List.nil_append,List.append_nil,↓reduceIte,eq_self,and_true,true_and,and_self,and_false,false_and,reduceCtorEq,Oid.sub.injEq,Nat.reduceEqDiff,a1,a2,a3,a4,not_false_eq_true]
    have hall':=mj (L:=L') (B:=[(b1,.cells [.map o]),(b2,.cells [.str n]),(o,.map [.ss] false es clock),(.sub 0 1 x.p,.iter (some o) clock (U.map ME.born++[e.born]) clock)]) (fun q hq=>by
     have:=hym q (List.mem_append_left _ hq)
     revert q
     simp only [bU,cK,Mem.ae,Mem.bn,Mem.bt,Mem.bF,dF,c8,List.cons_append,List.nil_append,List.append_nil,↓reduceIte,eq_self,and_true,true_and,and_self,and_false,false_and,reduceCtorEq,Oid.sub.injEq,Nat.reduceEqDiff,hne1,hne2,hne3,Oid.ab hb1,Oid.ab hb2,Oid.ab ho,Oid.aa hb1,Oid.aa hb2,Oid.aa ho,implies_true]) hnL' hcl
    cases b with
    | true =>
     refine qw0 ?_
     rw [← hmap] at hj'
     refine ⟨_,Mem.of ([(b1,.cells [.map o]),(b2,.cells [.str n]),(o,.map [.ss] false es clock),(.sub 0 1 x.p,.iter (some o) clock (U.map ME.born++[e.born]) clock)]++L'),?_,ph hall',c+1+1+1+1,U++[e],L',by rw [hmm];rfl,by omega,rfl,hnd',hlt',hj',hcl,hnm'⟩
     rw [hlen2] at hle ⊢;omega
    | false =>
     refine ah rfl rfl (aC ?_)
     subst hQ
     have hsw:=o8 (L:=[(b1,.cells [.map o]),(b2,.cells [.str n]),(o,.map [.ss] false es clock)]++L0) (L':=[(b1,.cells [.map o]),(b2,.cells [.str n]),(o,.map [.ss] false es clock)]++L') (m:=Mem.of ([(b1,.cells [.map o]),(b2,.cells [.str n]),(o,.map [.ss] false es clock),(.sub 0 1 x.p,.iter (some o) clock (U.map ME.born++[e.born]) clock)]++L')) (sp:=Oid.under x.p) (fun q hq=>hall' q (by
       rcases List.mem_append.1 hq with hq|hq
       ·exact List.mem_append_left _ (by simp only [List.mem_cons,List.not_mem_nil,or_false] at hq ⊢;rcases hq with h|h|h<;>simp [h])
       ·exact List.mem_append_right _ hq)) (fun q hq=>by
       rcases List.mem_append.1 hq with hq|hq
       ·exact .inl ⟨q,List.mem_append_left _ hq,rfl⟩
       ·rcases (hnm' q hq).1 with ⟨q',h1,h2⟩|h
        ·exact .inl ⟨q',List.mem_append_right _ h1,h2⟩
        ·exact .inr h)
     exact cT _ _ rfl ⟨false,_,L',fun h=>(by cases h),hj',hsw.1⟩ hsw.2
  ·have hro:bW n s=none:=if_neg fun h=>hp h.1
   rw [Bool.not_eq_true] at hp
   (repeat (first|(refine ah rfl rfl ?_)|(refine aj rfl rfl ?_)|(refine af nmd [] hng (by kernel_rfl) fun hf C S K hC1 hC hS hK=>?_;simp (disch:=first|omega|assumption) only [go_sem];refine hK ?_;clear hK hS hC hC1 K S C hf)|((first|refine zv ?_|refine zw ?_|refine zu ?_);with_reducible (constructor;repeat constructor);try refine zl ?_)))
   refine af nmd [(1,21),(6,26)] hng (by kernel_rfl) fun hf C S K hC1 hC hS hK=>?_;simp (disch:=first|omega|assumption) only [go_sem,hp]
   refine hK ?_;clear hK hS hC hC1 K S C hf
   refine qw0 ?_
   refine ⟨_,Mem.of ([(b1,.cells [.map o]),(b2,.cells [.str n]),(o,.map [.ss] false es clock),(.sub 0 1 x.p,.iter (some o) clock (U.map ME.born++[e.born]) clock)]++L),?_,ph hall,c+1+1+1+1,U++[e],L,by rw [hmm];rfl,by omega,rfl,hnd',hlt',?_,hcc,hnm2⟩
   ·rw [hlen2] at hle ⊢;omega
   ·rw [hrest,hro];simpa using hj
 ·simp (disch:=first|omega|assumption) only [go_sem]
  refine hK ?_;clear hK hS hC hC1 K S C hf
  (try ((first|refine zn ?_|refine ze ?_|refine zk ?_);with_reducible (constructor;repeat constructor));try refine zl ?_)
  subst hQ
  have hfull:=yL hw2 hlt hnd fun e he=>hall e he (hw1 e he).2
  have hnL:∀ q ∈ L,∀ q' ∈ ([(b1,.cells [.map o]),(b2,.cells [.str n]),(o,.map [.ss] false es clock),(.sub 0 1 x.p,.iter (some o) clock (U.map ME.born) clock)]:List (Oid × ar)),¬ q.1=q'.1:=fun q hq=>by
   obtain ⟨_,a1,a2,a3,a4,a5⟩:=hnm q hq
   simp only [bU,cK,Mem.ae,Mem.bn,Mem.bt,Mem.bF,dF,c8,List.cons_append,List.nil_append,List.append_nil,↓reduceIte,eq_self,and_true,true_and,and_self,and_false,false_and,reduceCtorEq,Oid.sub.injEq,Nat.reduceEqDiff,a1,a2,a3,a4,not_false_eq_true]
  have hall':=mj (L:=L) (B:=[(b1,.cells [.map o]),(b2,.cells [.str n]),(o,.map [.ss] false es clock),(.sub 0 1 x.p,.iter (some o) clock (U.map ME.born) clock)]) (by
   simp only [bU,cK,Mem.ae,Mem.bn,Mem.bt,Mem.bF,dF,c8,List.cons_append,List.nil_append,List.append_nil,↓reduceIte,eq_self,and_true,true_and,and_self,and_false,false_and,reduceCtorEq,Oid.sub.injEq,Nat.reduceEqDiff,hne1,hne2,hne3,Oid.ab hb1,Oid.ab hb2,Oid.ab ho,Oid.aa hb1,Oid.aa hb2,Oid.aa ho]) hnL hcc
  have hsw:=o8 (L:=[(b1,.cells [.map o]),(b2,.cells [.str n]),(o,.map [.ss] false es clock)]++L0) (L':=[(b1,.cells [.map o]),(b2,.cells [.str n]),(o,.map [.ss] false es clock)]++L) (m:=Mem.of ([(b1,.cells [.map o]),(b2,.cells [.str n]),(o,.map [.ss] false es clock),(.sub 0 1 x.p,.iter (some o) clock (U.map ME.born) clock)]++L)) (sp:=Oid.under x.p) (fun q hq=>hall' q (by
     rcases List.mem_append.1 hq with hq|hq
     ·exact List.mem_append_left _ (by simp only [List.mem_cons,List.not_mem_nil,or_false] at hq ⊢;rcases hq with h|h|h<;>simp [h])
     ·exact List.mem_append_right _ hq)) (fun q hq=>by
     rcases List.mem_append.1 hq with hq|hq
     ·exact .inl ⟨q,List.mem_append_left _ hq,rfl⟩
     ·rcases (hnm q hq).1 with ⟨q',h1,h2⟩|h
      ·exact .inl ⟨q',List.mem_append_right _ h1,h2⟩
      ·exact .inr h)
  refine aj rfl rfl ?_
  (try ((first|refine zn ?_|refine ze ?_|refine zk ?_);with_reducible (constructor;repeat constructor));try refine zl ?_)
  refine br ?_
  exact bc _ _ rfl ⟨true,_,L,fun _=>⟨U,hfull,rfl⟩,hj,hsw.1⟩ hsw.2
end Go.Proofs.YtlfeacmbhldjcaaGreatDoor
namespace Go.Proofs.YtlfeacmbhldjcaaGreatDoor
open Go Go.Ab
set_option maxRecDepth 20000
set_option maxHeartbeats 4000000
theorem yR (t:Nat) (a:AV) (fr:List (Nat × AV)):nV [t] [a] fr=(t,a)::fr:=rfl
theorem uI {P:Program} [Laid P] {x:Ctx} {n:Nat} {a:Code} {Q:AX→AS→Prop} {fr:List (Nat × AV)} {m:Mem} {c:Nat} {ds:List AD} (h:(∀ i,dB x.p c i→m i=none)→T P x n a ⟨fr,m,c,ds⟩ Q):T P x n a ⟨fr,m,c,ds⟩ Q :=
 fun g a w hr=>h hr.fresh g a w hr
theorem X7 {P:Program} [Laid P] {x:Ctx} {n:Nat} {a:Code} {Q:AX→AS→Prop} {s:AS} (h:T P x n a s (after P x n Q [])):T P x n a s Q:=gT h fun _ _ h=>h
def tk (l:List Str) (v:AV) (L:List (Oid × ar)) (sp:Oid→Prop):Prop :=
 (l=[]∧v = .nilSl∧L=[])∨(¬ l=[]∧∃ id,v = .sl id 1 l.length∧L=[(id,.arr 1 (l.map .str))]∧sp id)
theorem tk.mono {l:List Str} {v:AV} {L:List (Oid × ar)} {sp sp':Oid→Prop} (h:tk l v L sp) (hs:∀ i,sp i→sp' i):tk l v L sp':=h.imp id fun ⟨a,i,b,c,d⟩=>⟨a,i,b,c,hs i d⟩
theorem pL (gf:FuncId) (cap:List AV) (need:List (Oid × ar)) (N:Nat) (S:Bool→List (List AV)→Prop) (hN:N≤2000000000000) (p:Oid) (hnp:∀ q ∈ need,¬ Oid.under p q.1) (hna:∀ q ∈ need,∀ sz xs,¬ q.2 = .arr sz xs)
  (hseq:∀ p',Oid.under p p'→qO Tryz.prog gf cap p' need 1 (fun pre xs=>pre.length < N∧∃ h:Str,xs=[.str h]) S) :
  aX Tryz.prog 66 [.nilSl,.fn (.func gf) [] cap] (Oid.under p) need (fun v u=>∃ l L',S true (l.map fun h=>[.str h])∧tk l v L' (Oid.under p)∧u=jN L') (fun _ _=>False):=by
 refine fm (by kernel_rfl) fun hcon=>?_
 refine ma (n:=13) (rs:=[.tmp 4]) Tryz.func66 rfl rfl (by decide) rfl rfl rfl ?_;rintro x rfl hrd hng
 have hnb:∀ q ∈ need,¬ q.1 = .sub 0 0 x.p:=fun q hq e=>hnp q hq (e ▸ Oid.ay (Oid.az _))
 generalize hQ:eZ Tryz.prog _ need _ _=Q
 (try ((first|refine zn ?_|refine ze ?_|refine zk ?_);with_reducible (constructor;repeat constructor));try refine zl ?_)
 refine af nmd [] hng (by kernel_rfl) fun hf C S K hC1 hC hS hK=>?_;simp (disch:=first|omega|assumption) only [go_sem,aJ]
 refine hK ?_;clear hK hS hC hC1 K S C hf
 refine qw0 ?_
 refine qQ (S:=S) hrd hng (by decide) rfl rfl (hseq _ (Oid.ay (Oid.az _))) ?_
  (fun jump pre L=>jump=none∧∃ (l:List Str) (v:AV) (L1:List (Oid × ar)),pre=l.map (fun h=>[.str h])∧tk l v L1 (fun id=>¬ id = .sub 0 0 x.p)∧L=(.sub 0 0 x.p,.cells [v])::L1)
  [(.sub 0 0 x.p,.cells [.nilSl])] ⟨rfl,[],.nilSl,[],rfl,.inl ⟨rfl,rfl,rfl⟩,rfl⟩ ?_ ?_
  (fun _ xs L1 p' s=>∃ h:Str,xs=[.str h]∧F s.fr 5 = .str h∧F s.fr 2 = .ptr (.sub 0 0 x.p) 0∧(∀ q,q ∈ L1→s.mem q.1=some q.2)∧s.ds=[]∧0 < s.c∧¬ p' = x.p) ?_ ?_ ?_ ?_
 ·intro q hq
  rw [aJ,if_neg (hnb q hq)];exact hcon q hq
 ·intro q hq
  simp only [List.mem_singleton] at hq
  subst hq
  rw [aJ,if_pos rfl]
 ·intro q hq q' hq' e
  simp only [List.mem_singleton] at hq
  subst hq
  exact hnb q' hq' e.symm
 ·rintro y l0 pre xs L1 ⟨_,l,v,L2,rfl,hr,rfl⟩ _ ⟨hlen,h,rfl⟩ hyr hyg
  refine X7 (uI fun hf=>?_)
  replace hng:=hyg
  have hfy:=hf (.sub 0 0 y.p) ⟨0,0,Nat.le_refl _,Oid.az _⟩
  have hb:¬ Oid.sub 0 0 y.p = .sub 0 0 x.p:=fun e=>by rw [e] at hfy;simp [Mem.ae] at hfy
  have hb2:¬ y.p=x.p:=fun e=>hb (by rw [e])
  generalize hrest:L2=rest at hfy ⊢
  rw [Mem.ae,if_neg hb] at hfy
  have hdis:∀ q ∈ L2,¬ q.1 = .sub 0 0 x.p∧Mem.of L2 q.1=some q.2:=by
   rcases hr with ⟨_,_,rfl⟩|⟨_,id,_,rfl,hid⟩
   ·intro q hq;cases hq
   ·intro q hq
    simp only [List.mem_singleton] at hq
    subst hq
    exact ⟨hid,by simp [Mem.ae]⟩
  refine af nmd [] hng (by kernel_rfl) fun hf C S K hC1 hC hS hK=>?_;simp (disch:=first|omega|assumption) only [go_sem,aJ,hb2,yR]
  refine hK ?_;clear hK hS hC hC1 K S C hf
  refine br ⟨rfl,h,rfl,rfl,rfl,?_,rfl,by simp,hb2⟩
  refine lB (B:=[(.sub 0 0 x.p,.cells [v])]) ?_ ?_
  ·simp only [bU,cK,Mem.ae,Mem.bn,Mem.bt,Mem.bF,dF,c8,List.cons_append,List.nil_append,List.append_nil,↓reduceIte,eq_self,and_true,true_and,and_self,and_false,false_and,reduceCtorEq,Oid.sub.injEq,Nat.reduceEqDiff,aJ,hb2,AV.cells]
  ·intro q hq
   subst hrest
   obtain ⟨a2,a3⟩:=hdis q hq
   simp only [bU,cK,Mem.ae,Mem.bn,Mem.bt,Mem.bF,dF,c8,List.cons_append,List.nil_append,List.append_nil,↓reduceIte,eq_self,and_true,true_and,and_self,and_false,false_and,reduceCtorEq,Oid.sub.injEq,Nat.reduceEqDiff,aJ,hb2,a2]
   exact a3
 ·rintro y l0 pre xs L1 ⟨fr,m,c,ds⟩ ⟨_,l,v,L2,rfl,hr,rfl⟩ _ ⟨hlen,_,_⟩ hyr hyg ⟨h,rfl,h5,h2,hm,rfl,hc,hb2⟩
  simp only at h5 h2 hm hc
  refine X7 (ahm [(5,.str h),(2,.ptr (.sub 0 0 x.p) 0)] rfl (by simp [h5,h2]) (bq _ hm (uI fun hf=>?_)))
  replace hng:=hyg
  have hfy:∀ j,Mem.of ((Oid.sub 0 0 x.p,ar.cells [v])::L2) (.sub c j y.p)=none:=fun j=>hf _ ⟨c,j,Nat.le_refl _,Oid.az _⟩
  clear hf
  have hb3:¬ x.p=y.p:=fun e=>hb2 e.symm
  rcases hr with ⟨rfl,rfl,rfl⟩|⟨hl,id,rfl,rfl,hid⟩
  ·(repeat (first|(refine ah rfl rfl ?_)|(refine aj rfl rfl ?_)|(refine af nmd [] hng (by kernel_rfl) fun hf C S K hC1 hC hS hK=>?_;simp (disch:=first|omega|assumption) only [go_sem];refine hK ?_;clear hK hS hC hC1 K S C hf)|((first|refine zv ?_|refine zw ?_|refine zu ?_);with_reducible (constructor;repeat constructor);try refine zl ?_)))
   refine jO ?_
   (repeat (first|(refine ah rfl rfl ?_)|(refine aj rfl rfl ?_)|(refine af nmd [] hng (by kernel_rfl) fun hf C S K hC1 hC hS hK=>?_;simp (disch:=first|omega|assumption) only [go_sem];refine hK ?_;clear hK hS hC hC1 K S C hf)|((first|refine zv ?_|refine zw ?_|refine zu ?_);with_reducible (constructor;repeat constructor);try refine zl ?_)))
   refine af nmd [] hng (by kernel_rfl) fun hf C S K hC1 hC hS hK=>?_;simp (disch:=first|omega|assumption) only [go_sem,aJ,hb2,hb3,fq]
   refine hK ?_;clear hK hS hC hC1 K S C hf
   (try ((first|refine zn ?_|refine ze ?_|refine zk ?_);with_reducible (constructor;repeat constructor));try refine zl ?_)
   refine br ⟨[(.sub 0 0 x.p,.cells [.sl (.sub c 3 y.p) 1 1]),(.sub c 3 y.p,.arr 1 [.str h])],⟨rfl,[h],_,_,rfl,.inr ⟨by simp,.sub c 3 y.p,rfl,rfl,fun e=>by simp at e⟩,rfl⟩,?_,?_⟩
   ·simp only [bU,cK,Mem.ae,Mem.bn,Mem.bt,Mem.bF,dF,c8,List.cons_append,List.nil_append,List.append_nil,↓reduceIte,eq_self,and_true,true_and,and_self,and_false,false_and,reduceCtorEq,Oid.sub.injEq,Nat.reduceEqDiff,hb2,hb3]
   ·intro q hq
    simp only [List.mem_cons,List.not_mem_nil,or_false] at hq
    rcases hq with rfl|rfl
    ·exact .inl ⟨_,List.mem_cons_self,rfl⟩
    ·exact .inr (Oid.ay (Oid.az _))
  ·simp only [List.length_map] at hlen
   have hi1:¬ Oid.sub c 3 y.p=id:=fun e=>by have:=hfy 3;rw [e] at this;simp only [Mem.ae,if_neg hid] at this;simp at this
   have hi2:¬ id=Oid.sub c 3 y.p:=fun e=>hi1 e.symm
   (repeat (first|(refine ah rfl rfl ?_)|(refine aj rfl rfl ?_)|(refine af nmd [] hng (by kernel_rfl) fun hf C S K hC1 hC hS hK=>?_;simp (disch:=first|omega|assumption) only [go_sem];refine hK ?_;clear hK hS hC hC1 K S C hf)|((first|refine zv ?_|refine zw ?_|refine zu ?_);with_reducible (constructor;repeat constructor);try refine zl ?_)))
   refine jO ?_
   (repeat (first|(refine ah rfl rfl ?_)|(refine aj rfl rfl ?_)|(refine af nmd [] hng (by kernel_rfl) fun hf C S K hC1 hC hS hK=>?_;simp (disch:=first|omega|assumption) only [go_sem];refine hK ?_;clear hK hS hC hC1 K S C hf)|((first|refine zv ?_|refine zw ?_|refine zu ?_);with_reducible (constructor;repeat constructor);try refine zl ?_)))
   refine af nmd [] hng (by kernel_rfl) fun hf C S K hC1 hC hS hK=>?_;simp (disch:=first|omega|assumption) only [go_sem,aJ,hb2,hb3,hid,hi1,hi2]
   refine hK ?_;clear hK hS hC hC1 K S C hf
   (try ((first|refine zn ?_|refine ze ?_|refine zk ?_);with_reducible (constructor;repeat constructor));try refine zl ?_)
   refine br ⟨[(.sub 0 0 x.p,.cells [.sl (.sub c 3 y.p) 1 (l++[h]).length]),(.sub c 3 y.p,.arr 1 ((l++[h]).map .str))],⟨rfl,l++[h],_,_,by simp,.inr ⟨by simp,.sub c 3 y.p,rfl,rfl,fun e=>by simp at e⟩,rfl⟩,?_,?_⟩
   ·simp only [bU,cK,Mem.ae,Mem.bn,Mem.bt,Mem.bF,dF,c8,List.cons_append,List.nil_append,List.append_nil,↓reduceIte,eq_self,and_true,true_and,and_self,and_false,false_and,reduceCtorEq,Oid.sub.injEq,Nat.reduceEqDiff,hb2,hb3,List.length_append,List.map_append,List.length_cons,List.length_nil,List.map_cons,List.map_nil]
   ·intro q hq
    simp only [List.mem_cons,List.not_mem_nil,or_false] at hq
    rcases hq with rfl|rfl
    ·exact .inl ⟨_,List.mem_cons_self,rfl⟩
    ·exact .inr (Oid.ay (Oid.az _))
 ·rintro pre L' m' hS ⟨_,l,v,L2,rfl,hr,rfl⟩ hL' hd hold hnm
  have hmx:=hL' _ List.mem_cons_self
  have hne:∀ q ∈ need,m' q.1=some q.2:=fun q hq=>hold q.1 q.2 (by rw [aJ,if_neg (hnb q hq)];exact hcon q hq) (by simp only [List.mem_singleton];rintro q' rfl e;exact hnb q hq e.symm)
  refine bq ([(.sub 0 0 x.p,.cells [v]),(.sub (0+1+1) 0 x.p,.dfr)]++(L2++need)) (lB (B:=[(.sub 0 0 x.p,.cells [v]),(.sub (0+1+1) 0 x.p,.dfr)]) ?_ (lB (fun q hq=>hL' q (List.mem_cons_of_mem _ hq)) hne)) ?_
  ·intro q hq
   simp only [List.mem_cons,List.not_mem_nil,or_false] at hq
   rcases hq with rfl|rfl
   ·exact hmx
   ·exact hd
  have hnid:∀ id xs,L2=[(id,.arr 1 xs)]→(∀ q ∈ need,¬ q.1=id)∧¬ id = .sub 2 0 x.p:=fun id xs e=>by
   have h1:=hL' (id,.arr 1 xs) (by rw [e];exact List.mem_cons_of_mem _ List.mem_cons_self)
   simp only at h1
   refine ⟨fun q hq e1=>?_,fun e1=>?_⟩
   ·have h2:=hne q hq
    rw [e1,h1,Option.some.injEq] at h2
    exact hna q hq _ _ h2.symm
   ·rw [e1,hd] at h1;cases h1
  have hrow2:tk l v L2 (Oid.under x.p):=by
   rcases hr with hr|⟨hl,id,rfl,rfl,hid⟩
   ·exact .inl hr
   ·refine .inr ⟨hl,id,rfl,rfl,?_⟩
    rcases hnm _ (List.mem_cons_of_mem _ List.mem_cons_self) with ⟨q',h1,h2⟩|⟨q',h1,h2⟩|h
    ·exact absurd h2 ((hnid id _ rfl).1 q' h1)
    ·simp only [List.mem_singleton] at h1
     subst h1
     exact absurd h2.symm hid
    ·exact Oid.ay h
  have hin:∀ q ∈ L2++need,¬ q.1 = .sub 0 0 x.p∧¬ q.1 = .sub 2 0 x.p∧Mem.of (L2++need) q.1=some q.2:=by
   have hn2:∀ q ∈ need,¬ q.1 = .sub 2 0 x.p:=fun q hq e=>hnp q hq (e ▸ Oid.ay (Oid.az _))
   rcases hr with ⟨_,_,rfl⟩|⟨_,id,_,rfl,hid⟩
   ·exact fun q hq=>⟨hnb q hq,hn2 q hq,hcon q hq⟩
   ·intro q hq
    rcases List.mem_append.1 hq with hq|hq
    ·simp only [List.mem_singleton] at hq
     subst hq
     exact ⟨hid,(hnid id _ rfl).2,by rw [List.cons_append,Mem.ae,if_pos rfl]⟩
    ·exact ⟨hnb q hq,hn2 q hq,by rw [List.cons_append,Mem.ae,if_neg ((hnid id _ rfl).1 q hq)];exact hcon q hq⟩
  generalize hrest:L2++need=rest
  (repeat (first|(refine ah rfl rfl ?_)|(refine aj rfl rfl ?_)|(refine af nmd [] hng (by kernel_rfl) fun hf C S K hC1 hC hS hK=>?_;simp (disch:=first|omega|assumption) only [go_sem];refine hK ?_;clear hK hS hC hC1 K S C hf)|((first|refine zv ?_|refine zw ?_|refine zu ?_);with_reducible (constructor;repeat constructor);try refine zl ?_)))
  refine aC ?_
  subst hQ
  refine ⟨?_,_,jN L2,rfl,⟨l,L2,hS,?_,rfl⟩,?_⟩
  ·simp only [bU,cK,Mem.ae,Mem.bn,Mem.bt,Mem.bF,dF,c8,List.cons_append,List.nil_append,List.append_nil,↓reduceIte,eq_self,and_true,true_and,and_self,and_false,false_and,reduceCtorEq,Oid.sub.injEq,Nat.reduceEqDiff,aJ]
  ·exact hrow2
  ·intro i o h
   have:∃ q ∈ L2++need,q.1=i∧q.2=o:=by
    by_cases hk:∃ q ∈ jN L2,q.1=i
    ·obtain ⟨q',k1,k2,k3⟩:=ee (m:=Mem.of need) hk
     rw [k3] at h
     obtain ⟨q,h1,rfl⟩:=List.mem_map.1 k1
     exact ⟨q,List.mem_append_left _ h1,k2,Option.some.inj h⟩
    ·rw [aU fun q hq e=>hk ⟨q,hq,e⟩] at h
     obtain ⟨q,h1,h2,h3⟩:=Mem.dK h
     exact ⟨q,List.mem_append_right _ h1,h2,h3⟩
   obtain ⟨q,hq,rfl,rfl⟩:=this
   obtain ⟨a1,a2,a3⟩:=hin q hq
   show ((Mem.of ((Oid.sub 0 0 x.p,ar.cells [v])::(Oid.sub 2 0 x.p,ar.dfr)::rest)).set (.sub 2 0 x.p) none) q.1=some q.2
   subst hrest
   simp only [Mem.set,if_neg a2,Mem.ae,if_neg a1]
   exact a3
 ·rintro pre L' m' cd _ ⟨h,_⟩
  cases h
theorem tn (gf:FuncId) (cap:List AV) (need:List (Oid × ar)) (N:Nat) (Sq:Bool→List (List AV)→Prop) (hN:N≤2000000000000) (p:Oid) (hnp:∀ q ∈ need,¬ Oid.under p q.1) (hna:∀ q ∈ need,∀ sz xs,¬ q.2 = .arr sz xs)
  (hseq:∀ p',Oid.under p p'→qO Tryz.prog gf cap p' need 1 (fun pre xs=>pre.length < N∧∃ h:Str,xs=[.str h]) Sq) :
  aX Tryz.prog 23 [.fn (.func gf) [] cap] (Oid.under p) need (fun v u=>∃ l L',Sq true (l.map fun h=>[.str h])∧tk l v L' (Oid.under p)∧u=jN L') (fun _ _=>False):=by
 refine fm (by kernel_rfl) fun hcon=>?_
 refine ma (n:=5) (rs:=[.tmp 2]) Tryz.func23 rfl rfl (by decide) rfl rfl rfl ?_;rintro x rfl hrd hng
 refine qw0 ?_
 refine af nmd [] hng (by kernel_rfl) fun hf C S K hC1 hC hS hK=>?_;simp (disch:=first|omega|assumption) only [go_sem]
 refine hC _ _ _ (pL gf cap need N Sq hN _ (fun q hq h=>hnp q hq (Oid.ay h)) hna fun p' h=>hseq p' (Oid.ay h)) hcon ?_ (fun _ _ h=>h.elim)
 rintro val upd ⟨l,L',hSq,hr,rfl⟩
 simp (disch:=first|omega|assumption) only [go_sem]
 refine hK ?_;clear hK hS hC hC1 K S C hf
 (try ((first|refine zn ?_|refine ze ?_|refine zk ?_);with_reducible (constructor;repeat constructor));try refine zl ?_)
 refine aC (cT _ _ rfl ⟨l,L',hSq,hr.mono fun _ h=>Oid.ay h,rfl⟩ ?_)
 intro i o h
 rw [Mem.bt] at h;exact h
theorem str_inj {a b:List Str} (e:a.map (fun h=>[AV.str h])=b.map fun h=>[AV.str h]):a=b:=(List.map_inj_right (fun x y h=>by simpa using h)).1 e
theorem yS (gf:FuncId) (cap:List AV) (need:List (Oid × ar)) (N:Nat) (l0:List Str) (Sq:Bool→List (List AV)→Prop) (hN:N≤2000000000000) (hl0:l0.length≤N) (p:Oid) (hnp:∀ q ∈ need,¬ Oid.under p q.1) (hna:∀ q ∈ need,∀ sz xs,¬ q.2 = .arr sz xs)
  (hseq:∀ p',Oid.under p p'→qO Tryz.prog gf cap p' need 1 (fun pre xs=>pre.length < N∧∃ h:Str,xs=[.str h]) Sq)
  (hall:∀ l:List Str,Sq true (l.map fun h=>[.str h])→l.Perm l0) :
  aA Tryz.prog 171 [.fn (.func gf) [] cap] (Oid.under p) ⟨need,.list 1 ((cG l0).map .str),[]⟩:=by
 refine (fm (by kernel_rfl) fun hcon=>?_:aX Tryz.prog _ _ _ need (fun v u=>v=_∧u=[]) (fun _ _=>False)).ok
 refine ma (n:=9) (rs:=[.tmp 2]) Tryz.func171 rfl rfl (by decide) rfl rfl rfl ?_;rintro x rfl hrd hng
 refine qw0 ?_
 refine af nmd [] hng (by kernel_rfl) fun hf C S K hC1 hC hS hK=>?_;simp (disch:=first|omega|assumption) only [go_sem]
 refine hC _ _ _ (tn gf cap need N Sq hN _ (fun q hq h=>hnp q hq (Oid.ay h)) hna fun p' h=>hseq p' (Oid.ay h)) hcon ?_ (fun _ _ h=>h.elim)
 rintro val upd ⟨l,L',hSq,hr,rfl⟩
 have hp:=hall l hSq
 have hse:cG l=cG l0:=nA hp
 rcases hr with ⟨rfl,rfl,rfl⟩|⟨hl,id,rfl,rfl,hid⟩
 ·simp (disch:=first|omega|assumption) only [go_sem,jN,List.map_nil]
  refine hK ?_;clear hK hS hC hC1 K S C hf
  (repeat (first|(refine ah rfl rfl ?_)|(refine aj rfl rfl ?_)|(refine af nmd [] hng (by kernel_rfl) fun hf C S K hC1 hC hS hK=>?_;simp (disch:=first|omega|assumption) only [go_sem];refine hK ?_;clear hK hS hC hC1 K S C hf)|((first|refine zv ?_|refine zw ?_|refine zu ?_);with_reducible (constructor;repeat constructor);try refine zl ?_)))
  refine qr1 (rD _) ?_
  refine l6 ?_
  refine bX 3 1 rfl ?_
  refine qw0 ?_
  exact aC (cT (.list 1 ((cG l0).map .str)) [] (by rw [← hse,show cG []=[] by simp [cG]];rfl) ⟨rfl,rfl⟩ fun _ _ h=>h)
 ·have hid2:=Oid.ay hid
  have hnid:∀ q ∈ need,¬ q.1=id:=fun q hq e=>hnp q hq (e ▸ hid2)
  simp (disch:=first|omega|assumption) only [go_sem,jN,List.map_cons,List.map_nil]
  refine hK ?_;clear hK hS hC hC1 K S C hf
  (repeat (first|(refine ah rfl rfl ?_)|(refine aj rfl rfl ?_)|(refine af nmd [] hng (by kernel_rfl) fun hf C S K hC1 hC hS hK=>?_;simp (disch:=first|omega|assumption) only [go_sem];refine hK ?_;clear hK hS hC hC1 K S C hf)|((first|refine zv ?_|refine zw ?_|refine zu ?_);with_reducible (constructor;repeat constructor);try refine zl ?_)))
  have hlen:l.length≤2000000000000:=by rw [hp.length_eq];omega
  refine af nmd [] hng (by kernel_rfl) fun hf C S K hC1 hC hS hK=>?_;simp (disch:=first|omega|assumption) only [go_sem]
  refine hC1 _ (tj l hl (by omega) id _) (by simp (disch:=first|omega|assumption) only [go_sem,aJ]) ?_
  simp (disch:=first|omega|assumption) only [go_sem]
  refine hK ?_;clear hK hS hC hC1 K S C hf
  refine l6 ?_
  refine l9 id 1 ((cG l).map .str) (by simp (disch:=first|omega|assumption) only [go_sem,aJ]) ?_
  simp (disch:=first|omega|assumption) only [go_sem,jS]
  refine qw0 ?_
  refine aC (cT (.list 1 ((cG l0).map .str)) [] (by rw [← hse];rfl) ⟨rfl,rfl⟩ fun i o h=>?_)
  have h':Mem.of need i=some o:=h
  have hi:¬ i=id:=fun e=>by obtain ⟨q,h1,h2,h3⟩:=Mem.dK h';exact hnid q h1 (h2.trans e)
  rw [aJ,if_neg hi,aJ,if_neg hi,aJ,if_neg hi];exact h'
def kn (n:Str) (es:List ME):List Str:=es.filterMap fun e=>bW n (iL e)
theorem CM (o:Oid) (n:Str) (p:Oid) (ho:¬ Oid.under p o):aA Tryz.prog 172 [.map o,.str n] (Oid.under p) ⟨[],.fn (.func 207) [] [.ptr (.sub 0 0 p) 0,.ptr (.sub 0 1 p) 0],[(.sub 0 0 p,some (.cells [.map o])),(.sub 0 1 p,some (.cells [.str n]))]⟩:=by
 refine aN (n:=6) (rs:=[.tmp 4]) Tryz.func172 rfl rfl (by decide) rfl rfl rfl ?_;rintro x rfl hrd hng
 refine qw0 ?_
 refine aC (cT _ _ rfl ⟨rfl,rfl⟩ ?_)
 intro i o' h
 rw [Mem.bt] at h
 exact h
theorem mE (o:Oid) (n:Str) (hln:n.length≤140737488355000) (es:List ME) (clock:Nat) (hkl:∀ e ∈ es,(iL e).length≤140737488355328) (hel:es.length≤2000000000000) (p:Oid) (ho:¬ Oid.under p o) :
  aA Tryz.prog 132 [.map o,.str n] (Oid.under p) ⟨[(o,.map [.ss] false es clock)],.list 1 ((cG (kn n es)).map .str),[]⟩:=by
 refine aN (n:=9) (rs:=[.tmp 4]) Tryz.func132 rfl rfl (by decide) rfl rfl rfl ?_;rintro x rfl hrd hng
 have hu12:∀ j,Oid.under (.sub 1 2 x.p) (.sub 0 j (.sub 1 2 x.p)):=fun j=>Oid.ay (Oid.az _)
 have hapt:∀ j p',Oid.under (.sub 1 3 x.p) p'→¬ Oid.under p' (.sub 0 j (.sub 1 2 x.p)):=fun j p' h h2=>by
  have:=(Oid.apart (Oid.bY h h2) (hu12 j)).2
  omega
 refine qw0 ?_
 refine af nmd [] hng (by kernel_rfl) fun hf C S K hC1 hC hS hK=>?_;simp (disch:=first|omega|assumption) only [go_sem]
 refine hC1 _ (CM o n _ (fun h=>ho (Oid.ay h))) qs0 ?_
 simp (disch:=first|omega|assumption) only [go_sem]
 refine hC1 _ (yS 207 [.ptr (.sub 0 0 (.sub 1 2 x.p)) 0,.ptr (.sub 0 1 (.sub 1 2 x.p)) 0] [(.sub 0 0 (.sub 1 2 x.p),.cells [.map o]),(.sub 0 1 (.sub 1 2 x.p),.cells [.str n]),(o,.map [.ss] false es clock)] es.length (kn n es) _ hel (List.length_filterMap_le _ _) _ ?_ ?_
  (fun p' hp=>yQ (.sub 0 0 (.sub 1 2 x.p)) (.sub 0 1 (.sub 1 2 x.p)) o n hln es clock hkl p' ?_ ?_ ?_ ?_ ?_ ?_) ?_) ?_ ?_
 ·intro q hq
  simp only [List.mem_cons,List.not_mem_nil,or_false] at hq
  rcases hq with rfl|rfl|rfl
  ·exact hapt 0 _ (Oid.az _)
  ·exact hapt 1 _ (Oid.az _)
  ·exact fun h=>ho (Oid.ay h)
 ·intro q hq
  simp only [List.mem_cons,List.not_mem_nil,or_false] at hq
  rcases hq with rfl|rfl|rfl<;>(intro sz xs e;cases e)
 ·exact fun e=>ho (e ▸ Oid.ay (hu12 0))
 ·exact fun e=>ho (e ▸ Oid.ay (hu12 1))
 ·simp
 ·exact hapt 0 _ hp
 ·exact hapt 1 _ hp
 ·exact fun h=>ho (Oid.ay (Oid.bY hp h))
 ·intro l hl
  obtain ⟨U,h1,h2⟩:=hl rfl
  rw [str_inj h2]
  exact h1.filterMap _
 ·have h0:=fun j=>Oid.aa (fun h=>ho (Oid.ay h):¬ Oid.under (.sub 1 2 x.p) o) 0 j
  have h1:=fun j=>Oid.ab (fun h=>ho (Oid.ay h):¬ Oid.under (.sub 1 2 x.p) o) 0 j
  simp only [bU,cK,Mem.ae,Mem.bn,Mem.bt,Mem.bF,dF,c8,List.cons_append,List.nil_append,List.append_nil,↓reduceIte,eq_self,and_true,true_and,and_self,and_false,false_and,reduceCtorEq,Oid.sub.injEq,Nat.reduceEqDiff,aJ,h0,h1]
 ·simp (disch:=first|omega|assumption) only [go_sem]
  refine hK ?_;clear hK hS hC hC1 K S C hf
  refine qw0 ?_
  refine aC (cT _ _ rfl ⟨rfl,rfl⟩ fun i o' h=>?_)
  have h':Mem.of [(o,ar.map [.ss] false es clock)] i=some o':=h
  rw [Mem.ae] at h'
  split at h'
  ·rename_i e
   subst e
   have h0:=fun j=>Oid.aa (fun h=>ho (Oid.ay h):¬ Oid.under (.sub 1 2 x.p) i) 0 j
   have h1:=fun j=>Oid.ab (fun h=>ho (Oid.ay h):¬ Oid.under (.sub 1 2 x.p) i) 0 j
   simp only [bU,cK,Mem.ae,Mem.bn,Mem.bt,Mem.bF,dF,c8,List.cons_append,List.nil_append,List.append_nil,↓reduceIte,eq_self,and_true,true_and,and_self,and_false,false_and,reduceCtorEq,Oid.sub.injEq,Nat.reduceEqDiff,aJ,h0,h1]
   exact h'
  ·cases h'
end Go.Proofs.YtlfeacmbhldjcaaGreatDoor
namespace Go.Proofs.YtlfeacmbhldjcaaGreatDoor
open Go Go.Ab
theorem dX:∀ (k n:Nat),n < 10 ^ (k+1)→(Lib.decDigits n).length≤k+1
 | 0,n,h=>by rw [bG (by simpa using h)];simp
 | k+1,n,h=>by
  by_cases hs:n < 10
  ·rw [bG hs];simp
  ·rw [dV hs,List.length_append]
   have:=dX k (n / 10) (by rw [Nat.pow_succ] at h;omega)
   simp only [List.length_cons,List.length_nil];omega
theorem yT (n:Nat):∀ b,b ∈ Lib.decDigits n→¬ b=58:=by
 have one:∀ d,d < 10→¬ UInt8.ofNat (48+d)=58:=fun d hd e=>by
  have h1:=congrArg UInt8.toNat e
  rw [UInt8.toNat_ofNat'] at h1
  have:(58:UInt8).toNat=58:=rfl
  omega
 induction n using Nat.strongRecOn with
 | ind n ih =>
  intro b hb
  by_cases h:n < 10
  ·rw [bG h,List.mem_singleton] at hb;subst hb;exact one n h
  ·rw [dV h] at hb
   rcases List.mem_append.1 hb with hb|hb
   ·exact ih _ (by omega) b hb
   ·rw [List.mem_singleton] at hb;subst hb;exact one _ (by omega)
theorem CN (u:Str):∀ t:Str,(∀ b,b ∈ t→¬ b=58)→Lib.indexByte (t++58::u) 58=t.length
 | [],_=>by simp [Lib.indexByte]
 | b::t,h=>by
  have hb:(b == 58)=false:=by simpa using h b (by simp)
  have ih:=CN u t fun b hb=>h b (by simp [hb])
  simp only [List.cons_append,Lib.indexByte,hb,Bool.false_eq_true,if_false,ih,beq_iff_eq]
  rw [if_neg (by omega),List.length_cons];omega
theorem il {n:Nat} (h:n < 1000000000):gQ (Lib.decDigits n)=n:=by
 have hl:=dX 8 n h
 rw [gQ,if_neg,mw]
 rintro (h|h|⟨h,h'⟩)
 ·exact ki n h
 ·omega
 ·have:=kU n h
  subst this
  rw [bG (by decide)] at h'
  simp at h'
theorem tp (s t:Str) (hs:s.length < 1000000000):rz (chunk s++t)=(rz t).map (s::·):=by
 have he:chunk s++t=Lib.decDigits s.length++58::(s++44::t):=by
  rw [chunk,Lib.itoa_nonneg];simp only [List.append_assoc,List.singleton_append,List.cons_append,List.nil_append]
 have hi:=CN (s++44::t) _ (yT s.length)
 have hne:¬ chunk s++t=[]:=fun e=>by rw [he] at e;simp at e
 have hcol:colon (chunk s++t)=(Lib.decDigits s.length).length:=by rw [colon,he,hi];rfl
 have hhead:kW (chunk s++t)=Lib.decDigits s.length:=by rw [kW,hcol,he,List.take_left'];rfl
 have hrest:iU (chunk s++t)=s++44::t:=by
  rw [iU,hcol,he,← List.drop_drop,List.drop_left'];· rfl
  ·rfl
 obtain ⟨n1,n2⟩:=jP (kW (chunk s++t))
 rw [hhead,il hs] at n1 n2
 have hg:iK (kW (chunk s++t))=true:=by rw [hhead,n1];simp
 have ha:cM (kW (chunk s++t))=s.length:=by rw [hhead];exact n2 (by rw [← hhead];exact hg)
 have hsz:kX (chunk s++t)=s.length:=by rw [kX,ha];rfl
 have hok:okS (chunk s++t):=by
  refine ⟨by rw [he,hi];omega,hg,by rw [ha,hrest];simp;omega,?_⟩
  rw [hsz,hrest];simp
 rw [yI hne hok,hsz,hrest]
 have h1:(s++44::t).take s.length=s:=by rw [List.take_left'];rfl
 have h2:(s++44::t).drop (s.length+1)=t:=by
  rw [← List.drop_drop,List.drop_left'];· rfl
  ·rfl
 rw [h1,h2]
theorem rH:∀ l:List Str,(∀ s,s ∈ l→s.length < 1000000000)→rz (bV l)=some l
 | [],_=>rfl
 | s::l,h=>by
  rw [bV,tp s _ (h s (by simp)),rH l fun s hs=>h s (by simp [hs])];rfl
theorem pO (b:Bits) (h1:1≤b.k∧b.k≤3) (h2:0≤b.m∧b.m≤7) (h3:¬ (b.k=2∧¬ b.l=[])) (h4:b.l.length < 1000000000):km (cO b)=(b,0):=by
 obtain ⟨k,m,l⟩:=b
 simp only at h1 h2 h3 h4
 obtain ⟨k,rfl⟩:=Int.eq_ofNat_of_zero_le (by omega:0≤k)
 obtain ⟨m,rfl⟩:=Int.eq_ofNat_of_zero_le h2.1
 have hv:cO ⟨k,m,l⟩=bV [Lib.decDigits k,Lib.decDigits m,l]:=by
  rw [cO,if_neg (by simp only;omega),Lib.itoa_nonneg,Lib.itoa_nonneg]
 have hne:¬ cO ⟨k,m,l⟩=[]:=fun e=>by
  rw [hv] at e
  have:=congrArg List.length e
  have hc:=dW (Lib.decDigits k)
  simp only [bV,List.length_append,List.length_nil] at this
  omega
 have hd:rz (cO ⟨k,m,l⟩)=some [Lib.decDigits k,Lib.decDigits m,l]:=by
  rw [hv]
  refine rH _ fun s hs=>?_
  have d1:=dX 0 k (by omega)
  have d2:=dX 0 m (by omega)
  simp only [List.mem_cons,List.not_mem_nil,or_false] at hs
  rcases hs with rfl|rfl|rfl<;>omega
 have hk:=il (n:=k) (by omega)
 have hm:=il (n:=m) (by omega)
 have hC:tf (cO ⟨k,m,l⟩) (Lib.decDigits k) (Lib.decDigits m) l=true:=Cv.2 ⟨by rw [hk];omega,by rw [hk];omega,by rw [hm];omega,by rw [hm];omega,by rw [hk];exact h3,by rw [hk,hm]⟩
 rw [km,if_neg hne,hd]
 simp only
 rw [WZ,if_pos hC,hk,hm]
end Go.Proofs.YtlfeacmbhldjcaaGreatDoor
namespace Go.Proofs.YtlfeacmbhldjcaaGreatDoor
open Go Go.Ab
set_option maxRecDepth 20000
set_option maxHeartbeats 4000000
theorem nB (st t:Oid) (es:List ME) (clock:Nat) (hts:¬ t=st) (p:Oid) (hs:¬ Oid.under p st) (ht:¬ Oid.under p t) (n:Str) (hln:n.length≤140737488355000) (hkl:∀ e ∈ es,(iL e).length≤140737488355328) (hel:es.length≤2000000000000) :
  aA Tryz.prog 98 [.ptr st 0,.str n] (Oid.under p) ⟨[(st,.cells [.map t,.nilPtr]),(t,.map [.ss] false es clock)],.list 1 ((cG (kn n es)).map .str),[]⟩:=by
 have hs':∀ c i,¬ Oid.under (.sub c i p) st:=fun c i h=>hs (Oid.ay h)
 have ht':∀ c i,¬ Oid.under (.sub c i p) t:=fun c i h=>ht (Oid.ay h)
 refine aN (n:=15) (rs:=[.tmp 4]) Tryz.func98 rfl rfl (by decide) rfl rfl rfl ?_;rintro x rfl hrd hng
 refine qw (ai (uu ht) (ai (uu hs) hts)) ?_
 refine qr .o (ai (uu ht) (ai (uu hs) hts)) (cq (uF st t _ (hs' _ _) n true) trivial) ?_
 refine qr .o (ai (uu ht) (ai (uu hs) hts)) (cq (mE t n hln es clock hkl hel _ (ht' _ _)) trivial) ?_
 refine qw (ai (uu ht) (ai (uu hs) hts)) ?_
 refine aC (aP rfl ?_ ?_)
 all_goals simp only [List.mem_cons,List.not_mem_nil,or_false,forall_eq_or_imp,forall_eq,Option.some.injEq,forall_eq',Mem.ae,eq_self,if_true,↓reduceIte,reduceCtorEq,implies_true,not_true_eq_false,false_imp_iff,true_and,and_true,false_and,and_false,imp_self,Oid.aa ht,Oid.ab ht,Oid.aa hs,Oid.ab hs,hts]
end Go.Proofs.YtlfeacmbhldjcaaGreatDoor
namespace Go.Ab
section
variable {P:Program} [Laid P] {x:Ctx} {n:Nat} {Q:AX→AS→Prop} {fr:List (Nat × AV)} {m:Mem} {c:Nat} {ds:List AD} {ks:List Pc}
theorem aD.cells {x:Ctx} {g:Gh} {m:Mem} {w:World} (h:aD x g m w) {i:Oid} {vs ws:List AV} (hi:m i=some (.cells vs)) (hw:c7 vs ws):aD x g (m.set i (some (.cells ws))) w:=by
 obtain ⟨b,hb,_,_,cc,t,fz,h1,h2,h3,h4⟩:=h.obj i _ hi
 exact h.fS hi hb rfl rfl ⟨rfl,Nat.le_refl _⟩ (Nat.le_refl _) (fun _ _ _=>rfl) (fun r hr=>h.rows b r hr) (fun _ t' fz' h9=>⟨_,_,h9⟩)
  ⟨cc,t,fz,h1,h2.trans hw.length,h3,fun j hj=>hw.at j _ _ (h4 j (by rw [hw.length];exact hj))⟩
def Gho (x:Ctx) (n:Nat) (R:AS→Prop) (s:AS):Prop:=∀ g a w,Rel x n g s a w→∃ g' s',Rel x n g' s' a w∧R s'
theorem Gho.now {R:AS→Prop} {s:AS} (h:R s):Gho x n R s:=fun g _ _ hr=>⟨g,s,hr,h⟩
theorem Gho.step {R:AS→Prop} {s s':AS} (hg:∀ g a w,Rel x n g s a w→∃ g',Rel x n g' s' a w) (h:Gho x n R s'):Gho x n R s:=fun g a w hr=>let ⟨g',hr'⟩:=hg g a w hr;h g' a w hr'
theorem agQ {b:Code} {R:AS→Prop} {s:AS} (h:Gho x n R s) (h2:∀ s,R s→T P x n b s Q):T P x n b s Q:=fun g a w hr=>let ⟨g',_,hr',hR⟩:=h g a w hr;h2 _ hR g' a w hr'
theorem Rel.cells {g:Gh} {a:Act} {w:World} (hr:Rel x n g ⟨fr,m,c,ds⟩ a w) (i:Oid) (vs ws:List AV) (hi:m i=some (.cells vs)) (hw:c7 vs ws):∃ g',Rel x n g' ⟨fr,m.set i (some (.cells ws)),c,ds⟩ a w :=
 ⟨g,hr.mr.cells hi hw,hr.tm,hr.df,hr.fr,hr.young⟩
theorem dN {a:Code} (i:Oid) (vs ws:List AV) (hi:m i=some (.cells vs)) (hw:c7 vs ws) (h:T P x n a ⟨fr,m.set i (some (.cells ws)),c,ds⟩ Q):T P x n a ⟨fr,m,c,ds⟩ Q :=
 fg (s:=⟨fr,m,c,ds⟩) ⟨fr,m.set i (some (.cells ws)),c,ds⟩ (fun _ _ _ hr=>hr.cells i vs ws hi hw) h
theorem Xg {R:AS→Prop} (i:Oid) (vs ws:List AV) (hi:m i=some (.cells vs)) (hw:c7 vs ws) (h:Gho x n R ⟨fr,m.set i (some (.cells ws)),c,ds⟩):Gho x n R ⟨fr,m,c,ds⟩ :=
 Gho.step (s:=⟨fr,m,c,ds⟩) (s':=⟨fr,m.set i (some (.cells ws)),c,ds⟩) (fun _ _ _ hr=>hr.cells i vs ws hi hw) h
theorem Rel.freeze {g:Gh} {a:Act} {w:World} (hr:Rel x n g ⟨fr,m,c,ds⟩ a w) (i:Oid) (sz:Nat) (xs:List AV) (hi:m i=some (.arr sz xs)) :
  ∃ g',Rel x n g' ⟨frz i sz xs fr,m.set i none,c,ds⟩ a w∧g.le g'∧g'.loc=g.loc∧∀ v u,VR g v u→VR g' (nt i sz xs v) u:=by
 obtain ⟨g',h1,h2,h3,h4⟩:=hr.mr.freeze hi
 have key:∀ v u,VR g v u→VR g' (nt i sz xs v) u:=fun v u hv=>by
  unfold nt
  split
  ·split
   ·rename_i e
    obtain ⟨rfl,rfl,rfl⟩:=e
    have:=h4 _ _ hv (Nat.le_refl _)
    rwa [List.take_length] at this
   ·exact hv.mono h1
  ·exact hv.mono h1
 exact ⟨g',⟨h3,hr.tm,hr.df.mono h1,fun t ht=>by rw [uw];exact key _ _ (hr.fr t ht),fun k hk=>by rw [h2];exact hr.young k hk⟩,h1,by funext k;exact h2 k,key⟩
inductive Frz (i:Oid) (sz:Nat) (xs:List AV):List AV→List AV→Prop
 | nil:Frz i sz xs [] []
 | keep {v:AV} {vs ws:List AV} (h:Frz i sz xs vs ws):Frz i sz xs (v::vs) (v::ws)
 | fS {n:Nat} {vs ws:List AV} (hn:n=xs.length) (h:Frz i sz xs vs ws):Frz i sz xs (.sl i sz n::vs) (.list sz xs::ws)
theorem Frz.at {i:Oid} {sz:Nat} {xs vs ws:List AV} (h:Frz i sz xs vs ws):vs.length=ws.length∧∀ j,ws.getD j .undef=vs.getD j .undef∨ws.getD j .undef=nt i sz xs (vs.getD j .undef):=by
 induction h with
 | nil=>exact ⟨rfl,fun _=>.inl rfl⟩
 | keep _ ih =>
  refine ⟨by simp [ih.1],fun j=>?_⟩
  cases j with
  | zero=>exact .inl rfl
  | succ j=>simpa using ih.2 j
 | fS hn _ ih =>
  refine ⟨by simp [ih.1],fun j=>?_⟩
  cases j with
  | zero=>right;simp [nt,hn]
  | succ j=>simpa using ih.2 j
theorem Rel.uJ {g:Gh} {a:Act} {w:World} (hr:Rel x n g ⟨fr,m,c,ds⟩ a w) (i j:Oid) (sz:Nat) (xs vs ws:List AV) (hi:m i=some (.arr sz xs)) (hj:m j=some (.cells vs)) (hij:¬ j=i) (hw:Frz i sz xs vs ws) :
  ∃ g',Rel x n g' ⟨frz i sz xs fr,(m.set i none).set j (some (.cells ws)),c,ds⟩ a w:=by
 obtain ⟨g',hr',h1,h2,key⟩:=hr.freeze i sz xs hi
 refine ⟨g',?_,hr'.tm,hr'.df,hr'.fr,hr'.young⟩
 obtain ⟨b',hb,_,_,cc,t,fz,k1,k2,k3,k4⟩:=hr.mr.obj j _ hj
 have hj':(m.set i none) j=some (.cells vs):=by simp only [Mem.set,if_neg hij];exact hj
 have h3:=hr'.mr
 refine h3.fS hj' (by rw [h2];exact hb) rfl rfl ⟨rfl,Nat.le_refl _⟩ (Nat.le_refl _) (fun _ _ _=>rfl) (fun r hr'=>h3.rows b' r hr') (fun _ t' fz' h9=>⟨_,_,h9⟩)
  ⟨cc,t,fz,k1,k2.trans hw.at.1,k3,fun q hq=>?_⟩
 have k5:=k4 q (by rw [hw.at.1];exact hq)
 rcases hw.at.2 q with e|e<;>rw [e]
 ·exact k5.mono h1
 ·exact key _ _ k5
theorem yU {a:Code} (i j:Oid) (sz:Nat) (xs vs ws:List AV) (hi:m i=some (.arr sz xs)) (hj:m j=some (.cells vs)) (hij:¬ j=i) (hw:Frz i sz xs vs ws) (h:T P x n a ⟨frz i sz xs fr,(m.set i none).set j (some (.cells ws)),c,ds⟩ Q):T P x n a ⟨fr,m,c,ds⟩ Q :=
 fg (s:=⟨fr,m,c,ds⟩) ⟨frz i sz xs fr,(m.set i none).set j (some (.cells ws)),c,ds⟩ (fun _ _ _ hr=>hr.uJ i j sz xs vs ws hi hj hij hw) h
theorem iD {R:AS→Prop} (i j:Oid) (sz:Nat) (xs vs ws:List AV) (hi:m i=some (.arr sz xs)) (hj:m j=some (.cells vs)) (hij:¬ j=i) (hw:Frz i sz xs vs ws) (h:Gho x n R ⟨frz i sz xs fr,(m.set i none).set j (some (.cells ws)),c,ds⟩):Gho x n R ⟨fr,m,c,ds⟩ :=
 Gho.step (s:=⟨fr,m,c,ds⟩) (s':=⟨frz i sz xs fr,(m.set i none).set j (some (.cells ws)),c,ds⟩) (fun _ _ _ hr=>hr.uJ i j sz xs vs ws hi hj hij hw) h
def agR (P:Program) (x:Ctx) (n:Nat) (Q:AX→AS→Prop) (ks:List Pc) (ts:List Nat) (R:AS→Prop):AX→AS→Prop
 | .normal,s=>Gho x n (fun s=>∃ m',(∀ i o,m' i=some o→s.mem i=some o)∧R ⟨bT ts s.fr,m',s.c,s.ds⟩) s
 | e,s=>after P x n Q ks e s
theorem afx {a b:Code} {s:AS} (ts:List Nat) (R:AS→Prop) (h:T P x n a s (after P x n (agR P x n Q ks ts R) [])) (h2:∀ s,R s→T P x n b s (after P x n Q ks)):T P x n a s (after P x n Q (.code b::ks)) :=
 gT h fun e s h=>by
  cases e with
  | normal =>
   refine agQ h fun s ⟨m',h1,h3⟩=>?_
   obtain ⟨fr',m1,c',ds'⟩:=s
   refine gU (s:=⟨fr',m1,c',ds'⟩) (bT ts fr') (fun t _=>jM ts fr' t) ?_
   exact lG (s:=⟨bT ts fr',m1,c',ds'⟩) m' h1 (h2 _ h3)
  | _=>exact h
theorem uK {ts:List Nat} {R:AS→Prop} (h:Gho x n (fun s=>∃ m',(∀ i o,m' i=some o→s.mem i=some o)∧R ⟨bT ts s.fr,m',s.c,s.ds⟩) ⟨fr,m,c,ds⟩):after P x n (agR P x n Q ks ts R) [] .normal ⟨fr,m,c,ds⟩:=h
def ahp (x:Ctx) (n:Nat) (Q:AX→AS→Prop):AX→AS→Prop
 | .panic v,s=>Q (.panic v) s
 | e,s=>Gho x n (Q e) s
theorem tq {a:Code} {s:AS} (h:T P x n a s (after P x n (ahp x n Q) [])):T P x n a s (after P x n Q []):=fun g b w hr =>
 wpIn_mono (h g b w hr) fun e b' w' ⟨g',ex,s',h1,h2,h3⟩=>by
  cases ex with
  | panic v=>exact ⟨g',.panic v,s',h1,h2,h3⟩
  | normal=>obtain ⟨g2,s2,k1,k2⟩:=h3 g' b' w' h1;exact ⟨g2,.normal,s2,k1,(by cases e<;>exact h2),k2⟩
  | ret=>obtain ⟨g2,s2,k1,k2⟩:=h3 g' b' w' h1;exact ⟨g2,.ret,s2,k1,(by cases e<;>exact h2),k2⟩
  | exit i=>obtain ⟨g2,s2,k1,k2⟩:=h3 g' b' w' h1;exact ⟨g2,.exit i,s2,k1,(by cases e<;>exact h2),k2⟩
end
theorem fc.bO (sz:Nat):fc .nilSl (.list sz []):=fun _ _ h=>by rw [h.bu];exact .listNil _
theorem c7.refl:∀ l:List AV,c7 l l
 | []=>.nil
 | _::l=>.cons (.refl _) (c7.refl l)
end Go.Ab
namespace Go.Proofs.YtlfeacmbhldjcaaGreatDoor
open Go Go.Ab
abbrev PL:=List (Str × Bits)
theorem gb (a b:UInt8) (x y:Str):ltS (a::x) (b::y)=true↔a.toNat < b.toNat∨(a.toNat=b.toNat∧ltS x y=true):=by
 simp only [ltS,Op.bytesLess,Bool.or_eq_true,Bool.and_eq_true,decide_eq_true_eq,beq_iff_eq,UInt8.lt_iff_toNat_lt,← UInt8.toNat_inj]
theorem ot:∀ a b c:Str,ltS a b=true→ltS b c=true→ltS a c=true
 | [],_,[],_,h=>by cases ‹Str› <;> simp [ltS,Op.bytesLess] at h
 | [],_,_::_,_,_=>rfl
 | _::_,[],_,h,_=>by simp [ltS,Op.bytesLess] at h
 | _::_,_::_,[],_,h=>by simp [ltS,Op.bytesLess] at h
 | a::x,b::y,c::z,h1,h2=>by
  rw [gb] at h1 h2 ⊢
  rcases h1 with h1|⟨h1,h3⟩<;>rcases h2 with h2|⟨h2,h4⟩
  ·exact .inl (by omega)
  ·exact .inl (by omega)
  ·exact .inl (by omega)
  ·exact .inr ⟨by omega,ot x y z h3 h4⟩
theorem uL:∀ a:Str,ltS a a=false
 | []=>rfl
 | a::x=>by
  have:=uL x
  rw [Bool.eq_false_iff] at this ⊢
  intro h
  rw [gb] at h
  rcases h with h|⟨_,h⟩
  ·omega
  ·exact this h
theorem uM:∀ a b:Str,ltS a b=false→ltS b a=false→a=b
 | [],[],_,_=>rfl
 | [],_::_,h,_=>by simp [ltS,Op.bytesLess] at h
 | _::_,[],_,h=>by simp [ltS,Op.bytesLess] at h
 | a::x,b::y,h1,h2=>by
  rw [Bool.eq_false_iff] at h1 h2
  have h3:=fun h=>h1 ((gb a b x y).2 h)
  have h4:=fun h=>h2 ((gb b a y x).2 h)
  have hab:a.toNat=b.toNat:=by
   rcases Nat.lt_trichotomy a.toNat b.toNat with h|h|h
   ·exact absurd (.inl h) h3
   ·exact h
   ·exact absurd (.inl h) h4
  have:=uM x y (by rw [Bool.eq_false_iff];exact fun h=>h3 (.inr ⟨hab,h⟩)) (by rw [Bool.eq_false_iff];exact fun h=>h4 (.inr ⟨hab.symm,h⟩))
  rw [this,UInt8.toNat_inj.1 hab]
theorem uN:∀ (p a b:Str),ltS (p++a) (p++b)=ltS a b
 | [],_,_=>rfl
 | c::p,a,b=>by
  have ih:=uN p a b
  rw [Bool.eq_iff_iff,List.cons_append,List.cons_append,gb,ih]
  constructor
  ·rintro (h|⟨_,h⟩)
   ·omega
   ·exact h
  ·exact fun h=>.inr ⟨rfl,h⟩
theorem CO:∀ {a b:Str},ltS a b=true→a < b
 | [],[],h=>by simp [ltS,Op.bytesLess] at h
 | [],_::_,_=>by simp
 | _::_,[],h=>by simp [ltS,Op.bytesLess] at h
 | a::x,b::y,h=>by
  rw [gb] at h
  rw [List.cons_lt_cons_iff,UInt8.lt_iff_toNat_lt,← UInt8.toNat_inj]
  exact h.imp id fun ⟨h1,h2⟩=>⟨h1,CO h2⟩
def ltB (a b:Str):Prop:=ltS a b=true
instance:DecidableRel ltB:=fun a b=>inferInstanceAs (Decidable (ltS a b=true))
theorem fe:Ord ltB where
 irr a h:=by rw [ltB,uL] at h;cases h
 tr:=ot
 tot a b h hn:=by
  cases h2:ltS b a with
  | true=>exact h2
  | false=>exact absurd (uM a b (Bool.eq_false_iff.2 h) h2) hn
def bl (L:PL) (n:Str):Bits:=if n=[] then ⟨2,7,[]⟩ else (aM n L).getD Bits.no
def eh (n:Str) (b:Bits) (L:PL):PL:=if n=[] then L else cX ltB n (if b.k=0 then none else some b) L
def a7 (L:PL) (n:Str):List Str:=L.filterMap fun q=>bW n q.1
def gD (es:List ME) (L:PL):Prop:=jm AV.str Bits.av es L
theorem encS:iS AV.str:=yO
theorem CP:gD [] []:=Cz
theorem mF {es:List ME} {L:PL} (h:gD es L) (n:Str):fC (.str n) (.agg [.int .i64 0,.int .i64 0,.str []]) es=((aM n L).getD Bits.no).av:=by
 rw [rC encS h]
 cases aM n L<;>rfl
theorem rI {es:List ME} {L:PL} (h:gD es L) (hs:aZ ltB L) (n:Str) (b:Bits) (c:Nat):gD (pC n b es c) (eh n b L):=by
 unfold pC eh
 split
 ·exact h
 ·split
  ·exact CB encS h n ((b6 fe n none hs).trans (.refl _))
  ·exact my encS h n b c ((b6 fe n (some b) hs).trans (.refl _))
theorem iE {L:PL} (hs:aZ ltB L) (n:Str) (b:Bits):aZ ltB (eh n b L):=by
 unfold eh
 split
 ·exact hs
 ·exact eO fe _ _ hs
theorem tt {k p:Str} (h:gB k p=true):k=p++k.drop p.length:=by
 simp only [gB,Bool.and_eq_true,decide_eq_true_eq] at h
 have:=List.take_append_drop p.length k
 rw [h.2] at this
 exact this.symm
theorem fw {n k r:Str} (h:bW n k=some r):k=(n++[47])++r:=by
 unfold bW at h
 split at h
 ·rename_i hc
  simp only [Option.some.injEq] at h
  have:=tt hc.1
  rw [← h]
  simpa using this
 ·cases h
theorem yV {L:PL} (hs:aZ ltB L) (n:Str):(a7 L n).Pairwise (· ≤ ·):=by
 unfold a7
 rw [List.pairwise_filterMap]
 refine hs.imp fun {a b} h r hr r' hr'=>?_
 rw [ltB,fw hr,fw hr',uN] at h
 exact List.le_of_lt (CO h)
theorem ko {es:List ME} {L:PL} (h:gD es L) (hs:aZ ltB L) (n:Str):cG (kn n es)=a7 L n:=by
 refine CE ?_ (yV hs n)
 obtain ⟨E,rfl,h2,_⟩:=h
 have h3:kn n (E.map (jR AV.str Bits.av))=(E.map prj).filterMap fun q=>bW n q.1:=by
  unfold kn
  rw [List.filterMap_map,List.filterMap_map]
  rfl
 rw [h3]
 exact h2.filterMap _
structure POk (L:PL):Prop where
 len:L.length≤1000000
 key:∀ q ∈ L,q.1.length≤1000000
 val:∀ q ∈ L,q.2.ok
theorem mG {es:List ME} {L:PL} (h:gD es L):es.length=L.length:=by
 obtain ⟨E,rfl,h2,_⟩:=h
 rw [List.length_map,← h2.length_eq,List.length_map]
theorem mH {es:List ME} {L:PL} (h:gD es L) (ho:POk L):∀ e ∈ es,(iL e).length≤1000000:=by
 obtain ⟨E,rfl,h2,_⟩:=h
 intro e he
 obtain ⟨q,h3,rfl⟩:=List.mem_map.1 he
 exact ho.key (prj q) (h2.mem_iff.1 (List.mem_map_of_mem h3))
theorem tu {L:PL} (ho:POk L) {n r:Str} (h:r ∈ a7 L n):r.length≤1000000:=by
 obtain ⟨q,h1,h2⟩:=List.mem_filterMap.1 h
 have h3:=ho.key q h1
 rw [fw h2,List.length_append] at h3
 omega
theorem pP {l:List Str} {k:Nat} (hk:k≤4000000000) (h:∀ s ∈ l,s.length≤k):(bV l).length≤l.length * (k+100):=by
 induction l with
 | nil=>simp [bV]
 | cons a l ih =>
  have h1:=ih fun s hs=>h s (List.mem_cons_of_mem _ hs)
  have h2:=h a List.mem_cons_self
  have h3:=dW a
  have h4:=Lib.itoa_length_le a.length (by omega) (by omega)
  simp only [bV,List.length_append,List.length_cons,Nat.add_mul,Nat.one_mul]
  omega
theorem jq {L:PL} (ho:POk L) (n:Str):(bV (a7 L n)).length≤100000000000000∧(a7 L n).length≤1000000:=by
 have h1:=pP (k:=1000000) (by decide) fun s hs=>tu ho (n:=n) hs
 have h2:(a7 L n).length≤L.length:=List.length_filterMap_le _ _
 have h3:=ho.len
 refine ⟨Nat.le_trans h1 ?_,by omega⟩
 have:(a7 L n).length * (1000000+100)≤1000000 * (1000000+100):=Nat.mul_le_mul_right _ (by omega)
 omega
end Go.Proofs.YtlfeacmbhldjcaaGreatDoor
namespace Go.Proofs.YtlfeacmbhldjcaaGreatDoor
open Go Go.Ab
set_option maxRecDepth 20000
set_option maxHeartbeats 4000000
instance:Inhabited Bits:=⟨Bits.no⟩
def aL (q:Str × Bits):AV:=.agg [.str q.1,.int .i64 q.2.k,.int .i64 q.2.m,.str q.2.l]
theorem CQ (L:PL) (hL:L.length≤140737488355328) (n:Str) (p:Oid):aA Tryz.prog 141 [.list 4 (L.map aL),.str n] (Oid.under p) ⟨[],(bl L n).av,[]⟩:=by
 refine aN (n:=28) (rs:=[.cell 4 96]) Tryz.func141 rfl rfl (by decide) rfl rfl rfl ?_;rintro x rfl hrd hng
 refine qw0 ?_
 refine bD rfl rfl (fun hb=>?_) (fun hb=>?_)
 ·refine qw0 ?_
  exact aC (aE (by rw [bl,if_pos hb];simp (disch:=first|omega|assumption) only [go_sem,Bits.av]))
 ·refine qw0 ?_
  refine a6 [0,1,4,5] (fun k s'=>∃ i c:Nat,k=L.length - i∧i≤L.length∧0 < c∧aM n L=aM n (L.drop i)∧s' = ⟨[(0,.list 4 (L.map aL)),(1,.str n),(4,.ptr (.sub 0 0 x.p) 0),(5,.int .i64 i)],Mem.of [(.sub 0 0 x.p,.cells [.int .i64 0,.int .i64 0,.str []])],c,[]⟩) _ ⟨0,_,rfl,Nat.zero_le _,by omega,rfl,rfl⟩ ?_
  rintro k s' ⟨i,c,rfl,hi,hc,hlk,rfl⟩
  have hc0:¬ c=0:=by omega
  refine qw0 ?_
  refine bD rfl rfl (fun hb=>?_) (fun hb=>?_)
  ·have hlt:i < L.length:=by omega
   rw [drop_cons hlt,aM] at hlk
   generalize hq:L.getD i default=q at hlk
   obtain ⟨qn,qk,qm,ql⟩:=q
   simp only at hlk
   (repeat (first|(refine ah rfl rfl ?_)|(refine aj rfl rfl ?_)|(refine af nmd [] hng (by kernel_rfl) fun hf C S K hC1 hC hS hK=>?_;simp (disch:=first|omega|assumption) only [go_sem,hq,aL,AV.cells];refine hK ?_;clear hK hS hC hC1 K S C hf)|((first|refine zn ?_|refine ze ?_|refine zk ?_);with_reducible (constructor;repeat constructor);try refine zl ?_)))
   refine bD rfl rfl (fun hb=>?_) (fun hb=>?_)
   ·rw [if_pos hb.symm] at hlk
    (repeat (first|(refine ah rfl rfl ?_)|(refine aj rfl rfl ?_)|(refine af nmd [] hng (by kernel_rfl) fun hf C S K hC1 hC hS hK=>?_;simp (disch:=first|omega|assumption) only [go_sem,hq,aL,AV.cells];refine hK ?_;clear hK hS hC hC1 K S C hf)|((first|refine zn ?_|refine ze ?_|refine zk ?_);with_reducible (constructor;repeat constructor);try refine zl ?_)))
    exact aC (aE (by rw [bl,if_neg (by assumption),hlk];simp (disch:=first|omega|assumption) only [go_sem,Bits.av,Bits.no,Option.getD_some,Option.getD_none,aM]))
   ·rw [if_neg (fun e=>hb e.symm)] at hlk
    refine qw0 ?_
    exact ⟨_,_,by omega,fun _ _ h=>h,i+1,_,rfl,by omega,by omega,hlk,rfl⟩
  ·have:i=L.length:=by omega
   subst this
   rw [List.drop_length] at hlk
   refine qw0 ?_
   exact aC (aE (by rw [bl,if_neg (by assumption),hlk];simp (disch:=first|omega|assumption) only [go_sem,Bits.av,Bits.no,Option.getD_some,Option.getD_none,aM]))
theorem uO {k n:Str}:gB k (n++[47])=true↔n.length < k.length∧k.take n.length=n∧k.getD n.length 0=47:=by
 simp only [gB,Bool.and_eq_true,decide_eq_true_eq,List.length_append,List.length_cons,List.length_nil]
 constructor
 ·rintro ⟨h1,h2⟩
  have hlt:n.length < k.length:=by omega
  rw [Nat.zero_add,List.take_succ_eq_append_getElem hlt] at h2
  have h3:=List.append_inj h2 (by simp;omega)
  refine ⟨hlt,h3.1,?_⟩
  rw [cj hlt]
  simpa using h3.2
 ·rintro ⟨h1,h2,h3⟩
  refine ⟨by omega,?_⟩
  rw [cj h1] at h3
  rw [Nat.zero_add,List.take_succ_eq_append_getElem h1,h2,h3]
def noB (r:Str) (k:Nat):Bool:=(r.take k).all fun b=>decide (¬ b=47)
theorem CR {r:Str} {k:Nat} (h:k < r.length):noB r (k+1)=(noB r k && decide (¬ r.getD k 0=47)):=by
 unfold noB
 rw [List.take_succ_eq_append_getElem h,List.all_append,cj h]
 simp
theorem rJ (r:Str):noB r r.length=true↔¬ 0≤Lib.indexByte r 47:=by
 unfold noB
 rw [List.take_length,List.all_eq_true]
 rcases rB 47 r with ⟨h1,h2⟩|⟨i,h1,h2,h3,_⟩
 ·refine ⟨fun _=>by omega,fun _ b hb=>?_⟩
  obtain ⟨j,hj,rfl⟩:=List.mem_iff_getElem.1 hb
  have:=h2 j hj
  rw [cj hj] at this
  simpa using this
 ·refine ⟨fun h=>?_,fun h=>by omega⟩
  have:=h (r.getD i 0) (by rw [cj h2];exact List.getElem_mem h2)
  rw [h3] at this
  simp at this
theorem tw (n k:Str):bW n k=if n.length < k.length∧k.take n.length=n∧k.getD n.length 0=47 then (if noB (k.drop (n.length+1)) (k.drop (n.length+1)).length=true then some (k.drop (n.length+1)) else none) else none:=by
 unfold bW
 by_cases h1:gB k (n++[47])=true
 ·rw [if_pos (uO.1 h1)]
  by_cases h2:noB (k.drop (n.length+1)) (k.drop (n.length+1)).length=true
  ·rw [if_pos h2,if_pos ⟨h1,(rJ _).1 h2⟩]
  ·rw [if_neg h2,if_neg fun h=>h2 ((rJ _).2 h.2)]
 ·rw [if_neg fun h=>h1 h.1,if_neg fun h=>h1 (uO.2 h)]
end Go.Proofs.YtlfeacmbhldjcaaGreatDoor
namespace Go.Proofs.YtlfeacmbhldjcaaGreatDoor
open Go Go.Ab
set_option maxRecDepth 20000
set_option maxHeartbeats 4000000
theorem ou (L:PL) (hL:POk L) (n:Str) (hn:n.length≤140737488355000) (p:Oid):aA Tryz.prog 134 [.list 4 (L.map aL),.str n] (Oid.under p) ⟨[],.list 1 ((a7 L n).map AV.str),[]⟩:=by
 have hL1:=hL.len
 refine aN (n:=66) (rs:=[.tmp 4]) Tryz.func134 rfl rfl (by decide) rfl rfl rfl ?_;rintro x rfl hrd hng
 refine qw0 ?_
 refine pa 5 1 rfl ?_
 simp (disch:=first|omega|assumption) only [go_sem]
 refine a6 [0,1,5,6] (fun k s'=>∃ (i d j c:Nat) (done:List Str),k=L.length - i∧i≤L.length∧d < c∧done.length≤i∧a7 L n=done++a7 (L.drop i) n ∧
   s' = ⟨[(0,.list 4 (L.map aL)),(1,.str n),(5,.sl (.sub d j x.p) 1 done.length),(6,.int .i64 i)],Mem.of [(.sub d j x.p,.arr 1 (done.map AV.str))],c,[]⟩) _ ⟨0,3,0,4,[],rfl,Nat.zero_le _,by omega,Nat.le_refl _,rfl,rfl⟩ ?_
 rintro k s' ⟨i,d,j,c,done,rfl,hi,hdc,hdl,hnm,rfl⟩
 refine qw0 ?_
 refine bD rfl rfl (fun hb=>?_) (fun hb=>?_)
 ·have hlt:i < L.length:=by omega
  have hkl:=hL.key (L.getD i default) (by rw [cj hlt];exact List.getElem_mem hlt)
  have hstep:a7 (L.drop i) n=(bW n (L.getD i default).1).toList++a7 (L.drop (i+1)) n:=by
   rw [drop_cons hlt,a7,List.filterMap_cons]
   cases bW n (L.getD i default).1<;>rfl
  rw [hstep,tw] at hnm
  generalize hq:L.getD i default=q at hnm hkl
  obtain ⟨s,qk,qm,ql⟩:=q
  simp only at hnm hkl
  (repeat (first|(refine ah rfl rfl ?_)|(refine aj rfl rfl ?_)|(refine af nmd [] hng (by kernel_rfl) fun hf C S K hC1 hC hS hK=>?_;simp (disch:=first|omega|assumption) only [go_sem];refine hK ?_;clear hK hS hC hC1 K S C hf)|((first|refine zv ?_|refine zw ?_|refine zu ?_);with_reducible (constructor;repeat constructor);try refine zl ?_)))
  refine jO ?_
  (repeat (first|(refine ah rfl rfl ?_)|(refine aj rfl rfl ?_)|(refine af nmd [] hng (by kernel_rfl) fun hf C S K hC1 hC hS hK=>?_;simp (disch:=first|omega|assumption) only [go_sem,hq,aL,AV.cells];refine hK ?_;clear hK hS hC hC1 K S C hf)|((first|refine zn ?_|refine ze ?_|refine zk ?_);with_reducible (constructor;repeat constructor);try refine zl ?_)))
  refine dE [0,1,5,6,7,41] (fun s'=>∃ (b:Bool),s' = ⟨[(0,.list 4 (L.map aL)),(1,.str n),(5,.sl (.sub d j x.p) 1 done.length),(6,.int .i64 i),(7,.str s),(41,.bool b)],Mem.of [(.sub d j x.p,.arr 1 (done.map AV.str))],c+1+1+1,[]⟩∧(b=false↔(n.length < s.length∧s.take n.length=n∧s.getD n.length 0=47))) ?_ ?_
  ·refine af nmd [(5,27),(13,35)] hng (by kernel_rfl) fun hf C S K hC1 hC hS hK=>?_;simp (disch:=first|omega|assumption) only [go_sem]
   (repeat' (first|(refine bm (fun hv=>?_) (fun hv=>?_)<;>(try simp only [zb1,zb2,zb3,zb4,zb5] at hv)<;>simp (disch:=first|omega|assumption) only [go_sem,hv,Int.reduceEq,Int.reduceNe,ne_eq,not_true_eq_false,not_false_eq_true,decide_true,decide_false])|(refine hK ?_;clear hK hS hC hC1 K S C hf)))
   ·rename_i h1
    refine aR ⟨_,rfl,?_⟩
    simp only [decide_eq_false_iff_not,Classical.not_not] at hv ⊢
    exact ⟨fun h=>⟨by omega,hv,UInt8.toNat_inj.1 (by have:(47:UInt8).toNat=47:=rfl;omega)⟩,fun h=>by rw [h.2.2];rfl⟩
   ·exact aR ⟨_,rfl,⟨fun h=>(by cases h),fun h=>absurd h.2.1 hv⟩⟩
   ·exact aR ⟨_,rfl,⟨fun h=>(by cases h),fun h=>(by omega)⟩⟩
  rintro s' ⟨b,rfl,hiff⟩
  refine l8 rfl rfl (fun hb=>?_) (fun hb=>?_)
  ·have hC:¬ (n.length < s.length∧s.take n.length=n∧s.getD n.length 0=47):=fun h=>by rw [hiff.2 h] at hb;cases hb
   rw [if_neg hC] at hnm
   refine qw0 ?_
   exact ⟨_,_,by omega,fun _ _ h=>h,i+1,d,j,_,done,rfl,by omega,by omega,by omega,by simpa using hnm,rfl⟩
  ·have hC:=hiff.1 hb
   rw [if_pos hC] at hnm
   have hn1:((n.length:Int)+1).toNat=n.length+1:=by omega
   have hrl:(s.drop (n.length+1)).length≤1000000:=by rw [List.length_drop];omega
   generalize hr:s.drop (n.length+1)=r at hnm hrl
   have hsl:=hC.1
   refine qw (ai hn1 hr) ?_
   refine a6 [0,1,5,6,8,9,10] (fun k s'=>∃ q c':Nat,k=r.length - q∧q≤r.length∧d < c'∧s' = ⟨[(0,.list 4 (L.map aL)),(1,.str n),(5,.sl (.sub d j x.p) 1 done.length),(6,.int .i64 i),(8,.str r),(9,.bool (noB r q)),(10,.int .i64 q)],Mem.of [(.sub d j x.p,.arr 1 (done.map AV.str))],c',[]⟩) _ ⟨0,_,rfl,Nat.zero_le _,by omega,rfl⟩ ?_
   rintro k s' ⟨q,c',rfl,hq2,hdc',rfl⟩
   refine qw0 ?_
   refine bD rfl rfl (fun hb=>?_) (fun hb=>?_)
   ·have hst:=CR (r:=r) (k:=q) (by omega)
    cases hnb:noB r q with
    | true =>
     rw [hnb,Bool.true_and] at hst
     have h47:((r.getD q 0).toNat:Int)=47↔r.getD q 0=47:=YC (n:=47) (by decide)
     refine qw0 ?_
     refine af nmd [(1,54)] hng (by kernel_rfl) fun hf C S K hC1 hC hS hK=>?_;simp (disch:=first|omega|assumption) only [go_sem]
     refine hK ?_;clear hK hS hC hC1 K S C hf
     refine qw0 ?_
     exact ⟨_,_,by omega,fun _ _ h=>h,q+1,c' + 1+1+1,rfl,by omega,by omega,by rw [hst,← decide_eq_decide.2 (not_congr h47)];rfl⟩
    | false =>
     rw [hnb,Bool.false_and] at hst
     refine qw0 ?_
     refine af nmd [(1,54)] hng (by kernel_rfl) fun hf C S K hC1 hC hS hK=>?_;simp (disch:=first|omega|assumption) only [go_sem]
     refine hK ?_;clear hK hS hC hC1 K S C hf
     refine qw0 ?_
     exact ⟨_,_,by omega,fun _ _ h=>h,q+1,c' + 1+1+1,rfl,by omega,by omega,by rw [hst];rfl⟩
   ·obtain rfl:q=r.length:=by omega
    cases hnb:noB r r.length with
    | true =>
     rw [hnb,if_pos rfl] at hnm
     refine qw0 ?_
     exact ⟨_,_,by omega,fun _ _ h=>h,i+1,c' + 1+1,3,c' + 1+1+1+1,done++[r],rfl,by omega,by omega,by simp only [List.length_append,List.length_cons,List.length_nil];omega,by simpa using hnm,by rw [List.length_append,List.map_append];rfl⟩
    | false =>
     rw [hnb,if_neg (by decide)] at hnm
     refine qw0 ?_
     exact ⟨_,_,by omega,fun _ _ h=>h,i+1,d,j,_,done,rfl,by omega,by omega,by omega,by simpa using hnm,rfl⟩
 ·obtain rfl:i=L.length:=by omega
  rw [List.drop_length] at hnm
  have hnm':a7 L n=done:=by simpa [a7] using hnm
  refine qw0 ?_
  exact fF (xs:=done.map AV.str) rfl qs0 (by simp) (by rw [hnm'])
end Go.Proofs.YtlfeacmbhldjcaaGreatDoor
namespace Go.Proofs.YtlfeacmbhldjcaaGreatDoor
open Go Go.Ab
set_option maxRecDepth 20000
set_option maxHeartbeats 4000000
abbrev WL:=List (Str × Unit)
theorem rK (r:Oid) (LL OO RR bb:AV) (W:WL) (hW:W.length≤140737488355328) (n:Str) (p:Oid) (hr:¬ Oid.under p r) :
  aA Tryz.prog 109 [.ptr r 0,.str n] (Oid.under p) ⟨[(r,.cells [LL,OO,RR,.list 1 (W.map fun q=>.str q.1),bb])],.bool (aM n W).isSome,[]⟩:=by
 refine aN (n:=24) (rs:=[.tmp 4]) Tryz.func109 rfl rfl (by decide) rfl rfl rfl ?_;rintro x rfl hrd hng
 refine qw (uu hr) ?_
 refine a6 [0,1,5] (fun k s'=>∃ i c:Nat,k=W.length - i∧i≤W.length∧aM n W=aM n (W.drop i)∧s' = ⟨[(0,.ptr r 0),(1,.str n),(5,.int .i64 i)],Mem.of [(r,.cells [LL,OO,RR,.list 1 (W.map fun q=>.str q.1),bb])],c,[]⟩) _ ⟨0,_,rfl,Nat.zero_le _,rfl,rfl⟩ ?_
 rintro k s' ⟨i,c,rfl,hi,hlk,rfl⟩
 refine qw (uu hr) ?_
 refine bD rfl rfl (fun hb=>?_) (fun hb=>?_)
 ·have hlt:i < W.length:=by omega
  rw [drop_cons hlt,aM] at hlk
  generalize hq:W.getD i default=q at hlk
  obtain ⟨qn,qu⟩:=q
  simp only at hlk
  refine qw (ai (uu hr) hq) ?_
  refine bD rfl rfl (fun hb=>?_) (fun hb=>?_)
  ·rw [if_pos hb.symm] at hlk
   refine qw (uu hr) ?_
   refine aC (aP (qs hlk) ?_ ?_)
   all_goals simp only [List.mem_cons,List.not_mem_nil,or_false,forall_eq_or_imp,forall_eq,Option.some.injEq,forall_eq',Mem.ae,eq_self,if_true,↓reduceIte,reduceCtorEq,implies_true,not_true_eq_false,false_imp_iff,true_and,and_true,false_and,and_false,imp_self]
  ·rw [if_neg (fun e=>hb e.symm)] at hlk
   refine qw (uu hr) ?_
   exact ⟨_,_,by omega,fun _ _ h=>h,i+1,_,rfl,by omega,hlk,rfl⟩
 ·have:i=W.length:=by omega
  subst this
  rw [List.drop_length] at hlk
  refine qw (uu hr) ?_
  refine aC (aP (by simp (disch:=first|omega|assumption) only [go_sem,hlk,aM]) ?_ ?_)
  all_goals simp only [List.mem_cons,List.not_mem_nil,or_false,forall_eq_or_imp,forall_eq,Option.some.injEq,forall_eq',Mem.ae,eq_self,if_true,↓reduceIte,reduceCtorEq,implies_true,not_true_eq_false,false_imp_iff,true_and,and_true,false_and,and_false,imp_self]
theorem gE {κ ν:Type} [DecidableEq κ] {lt:κ→κ→Prop} [DecidableRel lt] (n:κ) (o:Option ν):∀ (L:List (κ × ν)) (i:Nat),i≤L.length→(∀ j q,j < i→L[j]? = some q→lt q.1 n)→(∀ q,L[i]? = some q→¬ lt q.1 n) →
  cX lt n o L=L.take i++dL n o++(match L[i]? with|some q=>if q.1=n then L.drop (i+1) else L.drop i|none=>[])
 | [],i,h,_,_=>by
  obtain rfl:i=0:=by simpa using h
  simp [cX]
 | q::L,0,_,_,h2=>by
  have h3:=h2 q (by simp)
  simp only [cX,if_neg h3,List.take_zero,List.nil_append,List.getElem?_cons_zero,List.drop_succ_cons,List.drop_zero]
 | q::L,i+1,h,h1,h2=>by
  have h3:=h1 0 q (by omega) (by simp)
  have ih:=gE (lt:=lt) n o L i (by simpa using h) (fun j q' hj hq=>h1 (j+1) q' (by omega) (by simpa using hq)) (fun q' hq=>h2 q' (by simpa using hq))
  simp only [cX,if_pos h3,ih,List.take_succ_cons,List.cons_append,List.getElem?_cons_succ,List.drop_succ_cons]
theorem yW {κ ν:Type} [DecidableEq κ] {lt:κ→κ→Prop} [DecidableRel lt] (ho:Ord lt) {n:κ} {b:ν} {L:List (κ × ν)} (hs:aZ lt L) (h:aM n L=some b):cX lt n (some b) L=L:=by
 have h1:=eO ho n (some b) hs
 refine oh ho ((b6 ho n (some b) hs).trans ?_) h1 hs
 have hm:=(bw (hs.nodup ho)).1 h
 have hd:=hs.nodup ho
 clear h1 h hs
 induction L with
 | nil=>cases hm
 | cons q L ih =>
  simp only [List.map_cons,List.nodup_cons] at hd
  rcases List.mem_cons.1 hm with rfl|hm'
  ·rw [List.filter_cons_of_neg (by simp),ga hd.1]
   exact .refl _
  ·have hne:¬ q.1=n:=fun e=>hd.1 (e ▸ List.mem_map_of_mem (f:=(·.1)) hm')
   rw [List.filter_cons_of_pos (by simpa using hne)]
   exact (List.Perm.swap _ _ _).trans ((ih hm' hd.2).cons q)
end Go.Proofs.YtlfeacmbhldjcaaGreatDoor
namespace Go.Proofs.YtlfeacmbhldjcaaGreatDoor
open Go Go.Ab
set_option maxRecDepth 20000
set_option maxHeartbeats 4000000
def eo (tr:Bool) (n:Str) (W:WL):WL:=if n=[] then W else if tr then cX ltB n (some ()) W else W
theorem gg {P:Program} {rs:List ResultVar} {need:List (Oid × ar)} {fr:List (Nat × AV)} {m:Mem} {c:Nat} {val:AV} {upd:List (Oid × Option ar)} (h1:ib P m fr rs=some val)
  (h2:∀ q,q ∈ upd→∀ o,q.2=some o→m q.1=some o) (h3:∀ q,q ∈ need→(∀ r,r ∈ upd→¬ r.1=q.1)→m q.1=some q.2):eZ P rs need (fun v u=>v=val∧u=upd) (fun _ _=>False) .ret ⟨fr,m,c,[]⟩ :=
 cT val upd h1 ⟨rfl,rfl⟩ (ck h2 h3)
theorem uP (r:Oid) (OO RR:AV) (L:PL) (hL:L.length≤1000000) (W:WL) (hW:W.length≤1000000) (hWs:aZ ltB W) (tr:Bool) (n:Str) (b:Bits) (p:Oid) (hr:¬ Oid.under p r) :
  aA Tryz.prog 63 [.ptr r 0,.str n,b.av] (Oid.under p) ⟨[(r,.cells [.list 4 (L.map aL),OO,RR,.list 1 (W.map fun q=>.str q.1),.bool tr])],.tuple [],[(r,some (.cells [.list 4 ((eh n b L).map aL),OO,RR,.list 1 ((eo tr n W).map fun q=>.str q.1),.bool tr]))]⟩:=by
 have hr':∀ c i,¬ Oid.under (.sub c i p) r:=fun c i h=>hr (Oid.ay h)
 simp only [Bits.av]
 refine aN (n:=141) (rs:=[]) Tryz.func63 rfl rfl (by decide) rfl rfl rfl ?_;rintro x rfl hrd hng
 refine tq ?_
 refine qw (uu hr) ?_
 refine bD rfl rfl (fun hb=>?_) (fun hb=>?_)
 ·have h1:eh n b L=L:=if_pos hb
  have h2:eo tr n W=W:=if_pos hb
  rw [h1,h2]
  refine qw (uu hr) ?_
  refine aC (.now (gg rfl ?_ ?_))
  all_goals simp only [List.mem_cons,List.not_mem_nil,or_false,forall_eq_or_imp,forall_eq,Option.some.injEq,forall_eq',Mem.ae,eq_self,if_true,↓reduceIte,reduceCtorEq,implies_true,not_true_eq_false,false_imp_iff,true_and,and_true,false_and,and_false,imp_self]
 ·have hn:¬ n=[]:=hb
  refine qr .o (uu hr) trivial ?_
  refine l6 ?_
  refine dE [0,1,5] (fun s'=>∃ (B:Bits) (c:Nat),0 < c∧s' = ⟨[(0,.ptr r 0),(1,.str n),(5,.ptr (.sub 0 0 x.p) 0)],Mem.of [(r,.cells [.list 4 (L.map aL),OO,RR,.list 1 (W.map fun q=>.str q.1),.bool tr]),(.sub 0 0 x.p,.cells [.int .i64 B.k,.int .i64 B.m,.str B.l])],c,[]⟩∧(B.k=0↔b.k=0)∧(¬ b.k=0→B=b)) ?_ ?_
  ·refine bD rfl rfl (fun hb=>?_) (fun hb=>?_)
   ·refine qw (uu hr) ?_
    exact aR ⟨Bits.no,4,by decide,rfl,⟨fun _=>hb,fun _=>rfl⟩,fun h=>absurd hb h⟩
   ·refine qw (uu hr) ?_
    exact aR ⟨b,3,by decide,rfl,Iff.rfl,fun _=>rfl⟩
  rintro s' ⟨B,c,hc,rfl,hB0,hB1⟩
  refine l7 ?_
  refine afx [0,1,5] (fun s'=>∃ c2:Nat,0 < c2∧s' = ⟨[(0,.ptr r 0),(1,.str n),(5,.ptr (.sub 0 0 x.p) 0)],Mem.of [(r,.cells [.list 4 (L.map aL),OO,RR,.list 1 ((eo tr n W).map fun q=>.str q.1),.bool tr]),(.sub 0 0 x.p,.cells [.int .i64 B.k,.int .i64 B.m,.str B.l])],c2,[]⟩) ?_ ?_
  ·refine l7 ?_
   refine dE [0,1,5,25] (fun s'=>∃ q:Bool,s' = ⟨[(0,.ptr r 0),(1,.str n),(5,.ptr (.sub 0 0 x.p) 0),(25,.bool q)],Mem.of [(r,.cells [.list 4 (L.map aL),OO,RR,.list 1 (W.map fun q=>.str q.1),.bool tr]),(.sub 0 0 x.p,.cells [.int .i64 B.k,.int .i64 B.m,.str B.l])],c+1,[]⟩∧q=(tr && !(aM n W).isSome)) ?_ ?_
   ·cases tr with
    | false =>
     refine af nmd [(4,20)] hng (by kernel_rfl) fun hf C S K hC1 hC hS hK=>?_;simp (disch:=first|omega|assumption) only [go_sem,Oid.aa hr,Oid.ab hr]
     refine hK ?_;clear hK hS hC hC1 K S C hf
     exact aR ⟨false,rfl,rfl⟩
    | true =>
     refine af nmd [(4,20)] hng (by kernel_rfl) fun hf C S K hC1 hC hS hK=>?_;simp (disch:=first|omega|assumption) only [go_sem,Oid.aa hr,Oid.ab hr]
     refine hC1 _ (rK r (.list 4 (L.map aL)) OO RR (.bool true) W (by omega) n _ (hr' _ _)) (qs (uu hr)) ?_
     simp (disch:=first|omega|assumption) only [go_sem,Oid.aa hr,Oid.ab hr]
     refine hK ?_;clear hK hS hC hC1 K S C hf
     exact aR ⟨_,rfl,by rw [Bool.true_and]⟩
   rintro s' ⟨q,rfl,hq⟩
   refine l8 rfl rfl (fun hb=>?_) (fun hb=>?_)
   ·rw [hb] at hq
    have hq1:tr=true∧(aM n W).isSome=false:=by simpa using hq.symm
    obtain ⟨rfl,hls⟩:=hq1
    have hput:eo true n W=cX ltB n (some ()) W:=by unfold eo;rw [if_neg hn,if_pos rfl]
    refine qw0 ?_
    refine a6 [0,1,5,6] (fun k s'=>∃ i c':Nat,k=W.length - i∧i≤W.length∧0 < c'∧(∀ j q,j < i→W[j]? = some q→ltB q.1 n)∧s' = ⟨[(0,.ptr r 0),(1,.str n),(5,.ptr (.sub 0 0 x.p) 0),(6,.int .i64 i)],Mem.of [(r,.cells [.list 4 (L.map aL),OO,RR,.list 1 (W.map fun q=>.str q.1),.bool true]),(.sub 0 0 x.p,.cells [.int .i64 B.k,.int .i64 B.m,.str B.l])],c',[]⟩) _ ⟨0,_,rfl,Nat.zero_le _,by omega,fun j q h=>by omega,rfl⟩ ?_
    rintro k s' ⟨i,c',rfl,hi,hc',hlt,rfl⟩
    have hc0:¬ c' = 0:=by omega
    (try ((first|refine zn ?_|refine ze ?_|refine zk ?_);with_reducible (constructor;repeat constructor));try refine zl ?_)
    refine dE [0,1,5,6,43] (fun s'=>∃ q:Bool,s' = ⟨[(0,.ptr r 0),(1,.str n),(5,.ptr (.sub 0 0 x.p) 0),(6,.int .i64 i),(43,.bool q)],Mem.of [(r,.cells [.list 4 (L.map aL),OO,RR,.list 1 (W.map fun q=>.str q.1),.bool true]),(.sub 0 0 x.p,.cells [.int .i64 B.k,.int .i64 B.m,.str B.l])],c' + 1,[]⟩∧(q=true↔∃ e,W[i]? = some e∧ltB e.1 n)) ?_ ?_
    ·refine af nmd [(7,33)] hng (by kernel_rfl) fun hf C S K hC1 hC hS hK=>?_;simp (disch:=first|omega|assumption) only [go_sem,Oid.aa hr,Oid.ab hr]
     (repeat' (first|(refine bm (fun hv=>?_) (fun hv=>?_)<;>(try simp only [zb1,zb2,zb3,zb4,zb5] at hv)<;>simp (disch:=first|omega|assumption) only [go_sem,hv,Oid.aa hr,Oid.ab hr])|(refine hK ?_;clear hK hS hC hC1 K S C hf)))
     ·have hl:i < W.length:=by omega
      exact aR ⟨_,rfl,⟨fun h=>⟨W.getD i default,by rw [cj hl,List.getElem?_eq_getElem hl],h⟩,fun ⟨e,he,h⟩=>by
       rw [List.getElem?_eq_getElem hl] at he
       simp only [Option.some.injEq] at he
       rw [cj hl,he];exact h⟩⟩
     ·exact aR ⟨_,rfl,⟨fun h=>(by cases h),fun ⟨e,he,h⟩=>by rw [List.getElem?_eq_none (by omega)] at he;cases he⟩⟩
    rintro s' ⟨q,rfl,hq⟩
    refine l8 rfl rfl (fun hb=>?_) (fun hb=>?_)
    ·obtain ⟨e,he,hle⟩:=hq.1 hb
     have hl:i < W.length:=(List.getElem?_eq_some_iff.1 he).1
     refine qw0 ?_
     refine ⟨_,_,by omega,fun _ _ h=>h,i+1,_,rfl,by omega,by omega,fun j q' hj hq'=>?_,rfl⟩
     rcases Nat.lt_or_ge j i with h|h
     ·exact hlt j q' h hq'
     ·obtain rfl:j=i:=by omega
      rw [he] at hq';simp only [Option.some.injEq] at hq';rw [← hq'];exact hle
    ·have hnl:∀ q,W[i]? = some q→¬ ltB q.1 n:=fun q' h1 h2=>by rw [hq.2 ⟨q',h1,h2⟩] at hb;cases hb
     have hsp:=gE (lt:=ltB) n (some ()) W i hi hlt hnl
     have hno:∀ q,W[i]? = some q→¬ q.1=n:=fun q' h1 h2=>by
      have:=(bw (hWs.nodup fe) (n:=n) (b:=q'.2)).2 (by rw [← h2];exact List.mem_of_getElem? h1)
      rw [this] at hls;cases hls
     have hsp2:cX ltB n (some ()) W=W.take i++[(n,())]++W.drop i:=by
      rw [hsp]
      cases hwi:W[i]? with
      | none =>
       have hd:W.drop i=[]:=List.drop_eq_nil_of_le (List.getElem?_eq_none_iff.1 hwi)
       simp only [hd,dL,List.append_nil]
      | some q'=>simp only [if_neg (hno q' hwi)];rfl
     refine qw (uu hr) ?_
     refine uK ?_
     refine iD (.sub (c' + 1+1+1+1) 8 x.p) r 1 ((cX ltB n (some ()) W).map fun q=>.str q.1) [.list 4 (L.map aL),OO,RR,.sl (.sub (c' + 1+1+1+1) 8 x.p) 1 (min i W.length+1+(W.length - i)),.bool true] [.list 4 (L.map aL),OO,RR,.list 1 ((cX ltB n (some ()) W).map fun q=>.str q.1),.bool true] ?_ ?_ ?_ ?_ ?_
     ·simp (disch:=first|omega|assumption) only [go_sem,Oid.aa hr,Oid.ab hr]
      rw [hsp2];simp
     ·simp (disch:=first|omega|assumption) only [go_sem,Oid.aa hr,Oid.ab hr]
     ·exact fun e=>hr (e ▸ Oid.ay (Oid.az _))
     ·exact .keep (.keep (.keep (.fS (by rw [hsp2];simp only [List.length_map,List.length_append,List.length_take,List.length_drop,List.length_cons,List.length_nil]) (.keep .nil))))
     ·simp (disch:=first|omega|assumption) only [go_sem,Oid.aa hr,Oid.ab hr]
      rw [hput]
      exact .now ⟨_,fun _ _ h=>h,c' + 1+1+1+1+1,by omega,rfl⟩
   ·rw [hb] at hq
    have hpw:eo tr n W=W:=by
     unfold eo
     rw [if_neg hn]
     cases tr with
     | false=>rfl
     | true =>
      have hs:(aM n W).isSome=true:=by simpa using hq.symm
      obtain ⟨u,hu⟩:=Option.isSome_iff_exists.1 hs
      rw [if_pos rfl]
      exact yW fe hWs hu
    rw [hpw]
    refine qw0 ?_
    exact uK (.now ⟨_,fun _ _ h=>h,c+1,by omega,rfl⟩)
  rintro s' ⟨c2,hc2,rfl⟩
  generalize eo tr n W=V
  have hput:eh n b L=cX ltB n (if b.k=0 then none else some b) L:=if_neg hn
  rw [hput]
  generalize ho:(if b.k=0 then none else some b)=o
  refine qw0 ?_
  refine pa 8 4 rfl ?_
  simp (disch:=first|omega|assumption) only [go_sem]
  refine a6 [0,1,5,8,9] (fun k s'=>∃ (i d j c:Nat),k=L.length - i∧i≤L.length∧0 < d∧d < c∧(∀ j q,j < i→L[j]? = some q→ltB q.1 n)∧s' = ⟨[(0,.ptr r 0),(1,.str n),(5,.ptr (.sub 0 0 x.p) 0),(8,.sl (.sub d j x.p) 4 i),(9,.int .i64 i)],Mem.of [(r,.cells [.list 4 (L.map aL),OO,RR,.list 1 (V.map fun q=>.str q.1),.bool tr]),(.sub 0 0 x.p,.cells [.int .i64 B.k,.int .i64 B.m,.str B.l]),(.sub d j x.p,.arr 4 ((L.take i).map aL))],c,[]⟩) _ ⟨0,c2+1+1,0,_,rfl,Nat.zero_le _,by omega,Nat.lt_succ_self _,fun j q h=>by omega,?_⟩ ?_
  ·rfl
  rintro k s' ⟨i,d,j,c,rfl,hi,hd,hdc,hlt,rfl⟩
  have hd0:¬ d=0:=by omega
  have hc0:¬ c=0:=by omega
  (try ((first|refine zn ?_|refine ze ?_|refine zk ?_);with_reducible (constructor;repeat constructor));try refine zl ?_)
  refine dE [0,1,5,8,9,87] (fun s'=>∃ q:Bool,s' = ⟨[(0,.ptr r 0),(1,.str n),(5,.ptr (.sub 0 0 x.p) 0),(8,.sl (.sub d j x.p) 4 i),(9,.int .i64 i),(87,.bool q)],Mem.of [(r,.cells [.list 4 (L.map aL),OO,RR,.list 1 (V.map fun q=>.str q.1),.bool tr]),(.sub 0 0 x.p,.cells [.int .i64 B.k,.int .i64 B.m,.str B.l]),(.sub d j x.p,.arr 4 ((L.take i).map aL))],c+1,[]⟩∧(q=true↔∃ e,L[i]? = some e∧ltB e.1 n)) ?_ ?_
  ·generalize hg:L.getD i default=q
   obtain ⟨qn,qk,qm,ql⟩:=q
   refine af nmd [(7,76)] hng (by kernel_rfl) fun hf C S K hC1 hC hS hK=>?_;simp (disch:=first|omega|assumption) only [go_sem,Oid.aa hr,Oid.ab hr,hg,aL,AV.cells]
   (repeat' (first|(refine bm (fun hv=>?_) (fun hv=>?_)<;>(try simp only [zb1,zb2,zb3,zb4,zb5] at hv)<;>simp (disch:=first|omega|assumption) only [go_sem,hv,Oid.aa hr,Oid.ab hr,hg,aL,AV.cells])|(refine hK ?_;clear hK hS hC hC1 K S C hf)))
   ·have hl:i < L.length:=by omega
    rw [cj hl] at hg
    exact aR ⟨_,rfl,⟨fun h=>⟨(qn,⟨qk,qm,ql⟩),by rw [List.getElem?_eq_getElem hl,hg],h⟩,fun ⟨e,he,h⟩=>by
     rw [List.getElem?_eq_getElem hl,hg] at he
     simp only [Option.some.injEq] at he
     rw [← he] at h;exact h⟩⟩
   ·exact aR ⟨_,rfl,⟨fun h=>(by cases h),fun ⟨e,he,h⟩=>by rw [List.getElem?_eq_none (by omega)] at he;cases he⟩⟩
  rintro s' ⟨q,rfl,hq⟩
  refine l8 rfl rfl (fun hb=>?_) (fun hb=>?_)
  ·obtain ⟨e,he,hle⟩:=hq.1 hb
   have hl:i < L.length:=(List.getElem?_eq_some_iff.1 he).1
   have hts:=nw aL hl
   generalize hg:L.getD i default=g at hts
   obtain ⟨qn,qk,qm,ql⟩:=g
   simp only [aL] at hts
   (repeat (first|(refine ah rfl rfl ?_)|(refine aj rfl rfl ?_)|(refine af nmd [] hng (by kernel_rfl) fun hf C S K hC1 hC hS hK=>?_;simp (disch:=first|omega|assumption) only [go_sem,Oid.aa hr,Oid.ab hr,hg,aL,AV.cells];refine hK ?_;clear hK hS hC hC1 K S C hf)|((first|refine zn ?_|refine ze ?_|refine zk ?_);with_reducible (constructor;repeat constructor);try refine zl ?_)))
   refine ⟨_,_,by omega,fun _ _ h=>h,i+1,c+1,9,c+1+1+1,rfl,by omega,by omega,by omega,fun j q' hj hq'=>?_,?_⟩
   ·rcases Nat.lt_or_ge j i with h|h
    ·exact hlt j q' h hq'
    ·obtain rfl:j=i:=by omega
     rw [he] at hq';simp only [Option.some.injEq] at hq';rw [← hq'];exact hle
   ·rw [hts];rfl
  ·have hnl:∀ q,L[i]? = some q→¬ ltB q.1 n:=fun q' h1 h2=>by rw [hq.2 ⟨q',h1,h2⟩] at hb;cases hb
   have hsp:=gE (lt:=ltB) n o L i hi hlt hnl
   refine qr .o (uu hr) trivial ?_
   refine l6 ?_
   refine dE [0,1,5,8,9] (fun s'=>∃ (d j c:Nat),0 < d∧d < c∧s' = ⟨[(0,.ptr r 0),(1,.str n),(5,.ptr (.sub 0 0 x.p) 0),(8,.sl (.sub d j x.p) 4 (i+(dL n o).length)),(9,.int .i64 i)],Mem.of [(r,.cells [.list 4 (L.map aL),OO,RR,.list 1 (V.map fun q=>.str q.1),.bool tr]),(.sub 0 0 x.p,.cells [.int .i64 B.k,.int .i64 B.m,.str B.l]),(.sub d j x.p,.arr 4 ((L.take i++dL n o).map aL))],c,[]⟩) ?_ ?_
   ·refine bD rfl rfl (fun hb=>?_) (fun hb=>?_)
    ·have hk:¬ b.k=0:=fun h=>hb (hB0.2 h)
     obtain rfl:=hB1 hk
     rw [if_neg hk] at ho
     subst ho
     refine qw (uu hr) ?_
     exact aR ⟨c+1+1,5,c+1+1+1,by omega,by omega,by rw [List.map_append];rfl⟩
    ·have hk:b.k=0:=hB0.1 (by simpa using hb)
     rw [if_pos hk] at ho
     subst ho
     refine qw (uu hr) ?_
     exact aR ⟨d,j,c+1+1,hd,by omega,by simp only [dL,List.append_nil];rfl⟩
   rintro s' ⟨d,j,c,hd,hdc,rfl⟩
   have hd0:¬ d=0:=by omega
   have hc0:¬ c=0:=by omega
   refine l7 ?_
   refine dE [0,1,5,8,9] (fun s'=>∃ (i' c2:Nat),i'≤L.length∧d < c2∧s' = ⟨[(0,.ptr r 0),(1,.str n),(5,.ptr (.sub 0 0 x.p) 0),(8,.sl (.sub d j x.p) 4 (i+(dL n o).length)),(9,.int .i64 i')],Mem.of [(r,.cells [.list 4 (L.map aL),OO,RR,.list 1 (V.map fun q=>.str q.1),.bool tr]),(.sub 0 0 x.p,.cells [.int .i64 B.k,.int .i64 B.m,.str B.l]),(.sub d j x.p,.arr 4 ((L.take i++dL n o).map aL))],c2,[]⟩∧cX ltB n o L=L.take i++dL n o++L.drop i') ?_ ?_
   ·generalize hg:L.getD i default=g
    obtain ⟨qn,qk,qm,ql⟩:=g
    generalize htl:(dL n o).length=tl
    generalize hrow:(L.take i++dL n o).map aL=row
    refine l7 ?_
    refine af nmd [(7,116)] hng (by kernel_rfl) fun hf C S K hC1 hC hS hK=>?_;simp (disch:=first|omega|assumption) only [go_sem,Oid.aa hr,Oid.ab hr,hg,aL,AV.cells]
    (repeat' (first|(refine bm (fun hv=>?_) (fun hv=>?_)<;>(try simp only [zb1,zb2,zb3,zb4,zb5] at hv)<;>simp (disch:=first|omega|assumption) only [go_sem,hv,Oid.aa hr,Oid.ab hr,hg,aL,AV.cells])|(refine hK ?_;clear hK hS hC hC1 K S C hf)))
    ·have hl:i < L.length:=by omega
     rw [cj hl] at hg
     rw [List.getElem?_eq_getElem hl,hg] at hsp
     refine l6 ?_
     refine bD rfl rfl (fun hb=>?_) (fun hb=>?_)
     ·refine qw0 ?_
      exact aR ⟨i+1,c+1+1,by omega,by omega,rfl,by rw [hsp];simp only [if_pos hb]⟩
     ·refine qw0 ?_
      exact aR ⟨i,c+1,by omega,by omega,rfl,by rw [hsp];simp only [if_neg hb]⟩
    ·rw [List.getElem?_eq_none (by omega)] at hsp
     refine qw0 ?_
     exact aR ⟨i,c+1,by omega,by omega,rfl,by rw [hsp];simp [List.drop_eq_nil_of_le (show L.length≤i by omega)]⟩
   rintro s' ⟨i',c2,hi',hdc2,rfl,hins⟩
   have hc20:¬ c2=0:=by omega
   have htl:(dL n o).length≤1:=by cases o<;>simp [dL]
   refine qr .o (uu hr) trivial ?_
   refine br (iD (.sub c2 8 x.p) r 4 ((cX ltB n o L).map aL) [.sl (.sub c2 8 x.p) 4 (i+(dL n o).length+(L.length - i')),OO,RR,.list 1 (V.map fun q=>.str q.1),.bool tr] [.list 4 ((cX ltB n o L).map aL),OO,RR,.list 1 (V.map fun q=>.str q.1),.bool tr] ?_ ?_ ?_ (.fS ?_ (.keep (.keep (.keep (.keep .nil))))) (.now (cm rfl ?_ ?_)))
   ·simp (disch:=first|omega|assumption) only [go_sem,Oid.aa hr,Oid.ab hr]
    rw [hins];simp
   ·simp (disch:=first|omega|assumption) only [go_sem,Oid.aa hr,Oid.ab hr]
   ·exact fun e=>hr (e ▸ Oid.ay (Oid.az _))
   ·rw [hins];simp only [List.length_map,List.length_append,List.length_take,List.length_drop];omega
   ·simp (disch:=first|omega|assumption) only [go_sem,Oid.aa hr,Oid.ab hr]
    all_goals simp only [List.mem_cons,List.not_mem_nil,or_false,forall_eq_or_imp,forall_eq,Option.some.injEq,forall_eq',Mem.ae,eq_self,if_true,↓reduceIte,reduceCtorEq,implies_true,not_true_eq_false,false_imp_iff,true_and,and_true,false_and,and_false,imp_self]
   ·simp (disch:=first|omega|assumption) only [go_sem,Oid.aa hr,Oid.ab hr]
    all_goals simp only [List.mem_cons,List.not_mem_nil,or_false,forall_eq_or_imp,forall_eq,Option.some.injEq,forall_eq',Mem.ae,eq_self,if_true,↓reduceIte,reduceCtorEq,implies_true,not_true_eq_false,false_imp_iff,true_and,and_true,false_and,and_false,imp_self]
end Go.Proofs.YtlfeacmbhldjcaaGreatDoor
namespace Go.Proofs.YtlfeacmbhldjcaaGreatDoor
open Go Go.Ab
set_option maxRecDepth 20000
set_option maxHeartbeats 4000000
theorem Xh (p:Oid):aA Tryz.prog 28 [] (Oid.under p) ⟨[],.ptr (.sub 1 1 p) 0,[(.sub 1 1 p,some (.cells [.list 4 [],.list 4 [],.list 3 [],.list 1 [],.bool false]))]⟩:=by
 refine aN (n:=3) (rs:=[.tmp 0]) Tryz.func28 rfl rfl (by decide) rfl rfl rfl ?_;rintro x rfl hrd hng
 refine tq ?_
 refine qw0 ?_
 refine aC (Xg (.sub 1 1 x.p) [.nilSl,.nilSl,.nilSl,.nilSl,.bool false] [.list 4 [],.list 4 [],.list 3 [],.list 1 [],.bool false] ?_ (.cons (.bO 4) (.cons (.bO 4) (.cons (.bO 3) (.cons (.bO 1) (.cons (.refl _) .nil))))) (.now (gg rfl ?_ ?_)))
 ·simp (disch:=first|omega|assumption) only [go_sem]
 ·simp (disch:=first|omega|assumption) only [go_sem]
  all_goals simp only [List.mem_cons,List.not_mem_nil,or_false,forall_eq_or_imp,forall_eq,Option.some.injEq,forall_eq',Mem.ae,eq_self,if_true,↓reduceIte,reduceCtorEq,implies_true,not_true_eq_false,false_imp_iff,true_and,and_true,false_and,and_false,imp_self]
 ·simp (disch:=first|omega|assumption) only [go_sem]
  all_goals simp only [List.mem_cons,List.not_mem_nil,or_false,forall_eq_or_imp,forall_eq,Option.some.injEq,forall_eq',Mem.ae,eq_self,if_true,↓reduceIte,reduceCtorEq,implies_true,not_true_eq_false,false_imp_iff,true_and,and_true,false_and,and_false,imp_self]
theorem yX (r:Oid) (L:PL) (OO RR WW:AV) (n:Str) (f:Bool) (p:Oid) (hr:¬ Oid.under p r) :
  aA Tryz.prog 133 [.ptr r 0,.str n,.bool f] (Oid.under p) ⟨[(r,.cells [.list 4 (L.map aL),OO,RR,WW,.bool false])],.tuple [],[]⟩:=by
 refine aN (n:=144) (rs:=[]) Tryz.func133 rfl rfl (by decide) rfl rfl rfl ?_;rintro x rfl hrd hng
 (try ((first|refine zn ?_|refine ze ?_|refine zk ?_);with_reducible (constructor;repeat constructor));try refine zl ?_)
 refine af nmd [(5,14),(8,17)] hng (by kernel_rfl) fun hf C S K hC1 hC hS hK=>?_;simp (disch:=first|omega|assumption) only [go_sem,Oid.aa hr,Oid.ab hr]
 refine hK ?_;clear hK hS hC hC1 K S C hf
 refine qw0 ?_
 refine aC (aP rfl ?_ ?_)
 all_goals simp only [List.mem_cons,List.not_mem_nil,or_false,forall_eq_or_imp,forall_eq,Option.some.injEq,forall_eq',Mem.ae,eq_self,if_true,↓reduceIte,reduceCtorEq,implies_true,not_true_eq_false,false_imp_iff,true_and,and_true,false_and,and_false,imp_self]
end Go.Proofs.YtlfeacmbhldjcaaGreatDoor
namespace Go.Proofs.YtlfeacmbhldjcaaGreatDoor
open Go Go.Ab
set_option maxRecDepth 20000
set_option maxHeartbeats 4000000
end Go.Proofs.YtlfeacmbhldjcaaGreatDoor
namespace Go.Proofs.YtlfeacmbhldjcaaGreatDoor
open Go Go.Ab
set_option maxRecDepth 20000
set_option maxHeartbeats 4000000
end Go.Proofs.YtlfeacmbhldjcaaGreatDoor
namespace Go.Proofs.YtlfeacmbhldjcaaGreatDoor
open Go Go.Ab
set_option maxRecDepth 20000
set_option maxHeartbeats 4000000
theorem im (n:Str) (b:Bits) (L:PL):(eh n b L).length≤L.length+1:=by
 unfold eh
 split
 ·omega
 ·generalize (if b.k=0 then none else some b)=o
  induction L with
  | nil=>cases o<;>simp [cX,dL]
  | cons q L ih =>
   simp only [cX]
   split
   ·simp only [List.length_cons];omega
   ·have:(dL n o).length≤1:=by cases o<;>simp [dL]
    simp only [List.length_append,List.length_cons]
    split
    ·omega
    ·rw [List.length_cons];omega
theorem mI {n:Str} {b:Bits} {L:PL} {q:Str × Bits} (h:q ∈ eh n b L):q=(n,b)∨q ∈ L:=by
 unfold eh at h
 split at h
 ·exact .inr h
 ·refine (eg h).imp (fun h=>?_) id
  obtain ⟨h1,h2⟩:=mz h
  split at h2
  ·cases h2
  ·simp only [Option.some.injEq] at h2
   rw [Prod.ext_iff];exact ⟨h1,h2.symm⟩
end Go.Proofs.YtlfeacmbhldjcaaGreatDoor
