/- A part of the proof: the texts Z15, Z16, Z17, Z18, ShelfB, Z19a, Z19, Z20, Z21, Z22, FwX, Z24, Z23, Z27, Z28, Z29, Z30, Z31, Z32, one behind the other. -/
import Derived.Test.YtaecbmbecofijaaGreatDoorPCd
import Derived.Shelf.Strings.Builder1
import Derived.Shelf.Small.Bits
import Derived.Shelf.Strconv.Atoi
import Derived.Shelf.Strconv.Itoa0
import Derived.Shelf.Strconv.Itoa1
import Derived.Shelf.LaysM
import Derived.Shelf.Strconv.Itoa2
import Derived.Shelf.Strconv.Itoa3
import Derived.Shelf.Strconv.AtoiErrFast
import Derived.Shelf.Strconv.ParseIntEmpty
import Derived.Shelf.Strconv.AtoiFail
import Derived.Shelf.Strconv.Clone
import Derived.Shelf.Strconv.SyntaxError
import Derived.Shelf.LaysC
import Derived.Shelf.Strconv.ToError
import Derived.Shelf.Strconv.Lower
import Derived.Shelf.Strconv.ParseUint10
import Derived.Shelf.Strconv.ParseUint10Empty
import Derived.Shelf.Strconv.ParseUint10Any
import Derived.Shelf.Strconv.ParseInt10
import Derived.Shelf.Strconv.AtoiLong
import Derived.Shelf.Strconv.AtoiInnerAll
import Derived.Shelf.Strconv.RangeError
import Derived.Shelf.Strconv.ToErrorRange
import Derived.Shelf.Strconv.AtoiAll
import Derived.Shelf.Strings.Search1
import Derived.Shelf.Strings.Search2
import Derived.Shelf.Strings.Search3
import Derived.Shelf.Strings.Cut
import Derived.Shelf.Strings.Count
import Derived.Shelf.Strings.Shaped
import Derived.Shelf.Sort.Plain
import Derived.Shelf.Strings.LastIndex
import Derived.Shelf.Strings.Prefix
import Derived.Shelf.Strings.Split
import Derived.Shelf.Strings.SplitShaped
import Derived.Shelf.Unicode.Decode
import Derived.Shelf.Strings.RuneCount
import Derived.Shelf.Unicode.DecodeSlow
import Derived.Shelf.Slices.In.SortNone
import Derived.Ground.SlgfProg
import Derived.Shelf.SlicesE.IndexFunc
import Derived.Shelf.SlicesE.DeleteFunc
import Derived.Test.YtaecbmbecofijaaGreatDoorProg
import Derived.Laws.MakeOwn
set_option linter.unusedVariables false
set_option linter.unusedSimpArgs false
set_option linter.unusedSectionVars false
namespace Go.Proofs.YtaecbmbecofijaaGreatDoor
open Go Go.Ab
/-- What is noted: what was there at Begin, the reads since, the places written. -/
structure Tr where
  old : PL
  R : RL
  W : WL
/-- A store's state. -/
structure St where
  L : PL
  t : Option Tr
def Tr.read (q : Tr) (f : Str × Bool) : Tr := { q with R := readR q.old q.W f q.R }
def Tr.put (q : Tr) (n : Str) : Tr := { q with W := putW true n q.W }
def St.read (s : St) (f : Str × Bool) : St := ⟨s.L, s.t.map fun q => q.read f⟩
def St.put (s : St) (n : Str) (b : Bits) : St := ⟨putP n b s.L, s.t.map fun q => q.put n⟩
def St.begin (s : St) : St := ⟨s.L, some ⟨s.L, [], []⟩⟩
/-- What is noted is in order, and small. -/
structure TOK (q : Tr) : Prop where
  so : SortG ltB q.old
  sr : SortG ltF q.R
  sw : SortG ltB q.W
  po : POk q.old
  no : PNat q.old
structure SOK (s : St) : Prop where
  sl : SortG ltB s.L
  po : POk s.L
  no : PNat s.L
  tr : ∀ q, s.t = some q → TOK q
theorem readR_sort {old : PL} {W : WL} {f : Str × Bool} {R : RL} (h : SortG ltF R) : SortG ltF (readR old W f R) := by
  unfold readR
  split
  · exact h
  · split
    · exact h
    · exact insG_sort ordF _ _ h
theorem readR_len {old : PL} {W : WL} {f : Str × Bool} {R : RL} (h : SortG ltF R) : (readR old W f R).length ≤ R.length + 1 := by
  unfold readR
  split
  · omega
  · split
    · omega
    · have := (insG_filter ordF f (some (valP old f)) h).length_eq
      rw [this, List.length_append]
      have := List.length_filter_le (fun q => decide (¬ q.1 = f)) R
      simp only [tipG, List.length_singleton]; omega
theorem putW_sort {tr : Bool} {n : Str} {W : WL} (h : SortG ltB W) : SortG ltB (putW tr n W) := by
  unfold putW
  split
  · exact h
  · split
    · exact insG_sort ordB _ _ h
    · exact h
theorem SOK.read {s : St} (h : SOK s) (f : Str × Bool) : SOK (s.read f) :=
  ⟨h.sl, h.po, h.no, fun q hq => by
    simp only [St.read, Option.map_eq_some_iff] at hq
    obtain ⟨a, h1, rfl⟩ := hq
    have k := h.tr a h1
    exact ⟨k.so, readR_sort k.sr, k.sw, k.po, k.no⟩⟩
/-! ### the store of the program -/
def StoP (st : Oid) (s : St) (N : List Oid) (F : Oid → AObj) : Prop := N.Nodup ∧ match s.t with
  | none => ∃ (t : Oid) (es : List ME) (clock : Nat), N = [st, t] ∧ F st = .cells [.map t, .nilPtr] ∧ F t = .map [.ss] false es clock ∧ MapP es s.L
  | some q => ∃ (t tr o rd wr : Oid) (es eso esr esw : List ME) (clock co cr cw : Nat), N = [st, t, tr, o, rd, wr] ∧ F st = .cells [.map t, .ptr tr 0] ∧ F t = .map [.ss] false es clock ∧ F tr = .cells [.map o, .map rd, .map wr] ∧
      F o = .map [.ss] false eso co ∧ F rd = .map [.ss, .sb] true esr cr ∧ F wr = .map [.ss] false esw cw ∧ MapP es s.L ∧ MapP eso q.old ∧ MapG keyF AV.str esr q.R ∧ MapG AV.str (fun _ : Unit => .bool true) esw q.W
theorem lookW_val {esw : List ME} {W : WL} (h : MapG AV.str (fun _ : Unit => .bool true) esw W) (n : Str) : valE (.str n) (.bool false) esw = .bool (lookG n W).isSome := by
  rw [mapG_val encS h]
  cases lookG n W <;> rfl
/-- What is noted of a read, in the map. -/
theorem readE_map {old : PL} {W : WL} {esr : List ME} {R : RL} (h : MapG keyF AV.str esr R) (hs : SortG ltF R) (n : Str) (f : Bool) (cr : Nat) :
    MapG keyF AV.str (readE f (lookG n W).isSome (lookG (n, f) R).isSome (keyF (n, f)) (.str (valP old (n, f))) esr cr).1 (readR old W (n, f) R) := by
  unfold readE readR
  by_cases h1 : f = false ∧ (lookG n W).isSome = true
  · rw [if_pos h1, if_pos (by rw [h1.1, h1.2]; rfl)]; exact h
  · rw [if_neg h1]
    by_cases h2 : (lookG (n, f) R).isSome = true
    · rw [if_pos h2, if_pos (by rw [h2, Bool.or_true])]; exact h
    · rw [if_neg h2, if_neg]
      · exact mapG_set encF h (n, f) (valP old (n, f)) cr ((insG_filter ordF (n, f) (some (valP old (n, f))) hs).trans (.refl _))
      · intro h3
        rw [Bool.or_eq_true, Bool.and_eq_true, Bool.not_eq_true'] at h3
        rcases h3 with h3 | h3
        · exact h1 h3
        · exact h2 h3
/-- What an operation that reads a facet makes of the block: nothing, or the map of what was read. -/
theorem read_blk {st : Oid} {s : St} {N : List Oid} {F : Oid → AObj} (h : StoP st s N F) (hs : SOK s) (g : Str × Bool) (f : FuncId) (xs : List AV) (v : AV)
    (h0 : ∀ (t : Oid) (es : List ME) (clock : Nat), s.t = none → ¬ t = st → MapP es s.L → ∀ p, p.mono = false → ¬ Oid.under p st → ¬ Oid.under p t → CallOK Tryz.prog f xs (Oid.under p) ⟨[(st, .cells [.map t, .nilPtr]), (t, .map [.ss] false es clock)], v, []⟩)
    (h1 : ∀ (q : Tr) (t tr o rd wr : Oid) (es eso esr esw : List ME) (clock co cr cw : Nat), s.t = some q → [wr, rd, o, tr, t, st].Nodup → MapP es s.L → MapP eso q.old → valE (.str g.1) (.bool false) esw = .bool (lookG g.1 q.W).isSome → hasE (keyF (g.1, g.2)) esr = (lookG (g.1, g.2) q.R).isSome →
      ∀ p, p.mono = false → (∀ i ∈ [st, t, tr, o, rd, wr], ¬ Oid.under p i) → CallOK Tryz.prog f xs (Oid.under p) ⟨[(st, .cells [.map t, .ptr tr 0]), (t, .map [.ss] false es clock), (tr, .cells [.map o, .map rd, .map wr]), (o, .map [.ss] false eso co), (rd, .map [.ss, .sb] true esr cr), (wr, .map [.ss] false esw cw)], v,
        [(rd, some (.map [.ss, .sb] true (readE g.2 (lookG g.1 q.W).isSome (lookG (g.1, g.2) q.R).isSome (keyF (g.1, g.2)) (.str (valP q.old (g.1, g.2))) esr cr).1 (readE g.2 (lookG g.1 q.W).isSome (lookG (g.1, g.2) q.R).isSome (keyF (g.1, g.2)) (.str (valP q.old (g.1, g.2))) esr cr).2))]⟩) :
    ∃ F', StoP st (s.read g) N F' ∧ ∀ p, p.mono = false → Old0 p N → CallOK Tryz.prog f xs (Oid.under p) ⟨bk (N, F), v, sb N F'⟩ := by
  obtain ⟨L, t0⟩ := s
  obtain ⟨hnd, h⟩ := h
  cases t0 with
  | none =>
    obtain ⟨t, es, clock, rfl, k1, k2, k3⟩ := h
    have hts : ¬ t = st := fun e => by simp [e] at hnd
    refine ⟨F, ⟨hnd, t, es, clock, rfl, k1, k2, k3⟩, fun p hp ho => ?_⟩
    refine (h0 t es clock rfl hts k3 p hp (ho _ (by simp)) (ho _ (by simp))).toBk ?_ (fun _ hq => by cases hq) fun i hi => of_bk0 hi
    rw [bk2, k1, k2]; exact fun q hq => hq
  | some q =>
    obtain ⟨t, tr, o, rd, wr, es, eso, esr, esw, clock, co, cr, cw, rfl, k1, k2, k3, k4, k5, k6, m1, m2, m3, m4⟩ := h
    have hT := hs.tr q rfl
    have hnd' : [wr, rd, o, tr, t, st].Nodup := (List.reverse_perm [st, t, tr, o, rd, wr]).nodup_iff.2 hnd
    have hc := h1 q t tr o rd wr es eso esr esw clock co cr cw rfl hnd' m1 m2 (lookW_val m4 g.1) (mapG_has encF m3 (g.1, g.2))
    have hme := readE_map (old := q.old) (W := q.W) m3 hT.sr g.1 g.2 cr
    generalize (readE g.2 (lookG g.1 q.W).isSome (lookG (g.1, g.2) q.R).isSome (keyF (g.1, g.2)) (.str (valP q.old (g.1, g.2))) esr cr).1 = E1 at hc hme
    generalize (readE g.2 (lookG g.1 q.W).isSome (lookG (g.1, g.2) q.R).isSome (keyF (g.1, g.2)) (.str (valP q.old (g.1, g.2))) esr cr).2 = C1 at hc
    have hn0 := hnd
    simp only [List.nodup_cons, List.mem_cons, List.not_mem_nil, or_false, not_or] at hn0
    obtain ⟨⟨n1, n2, n3, n4, n5⟩, ⟨n6, n7, n8, n9⟩, ⟨n10, n11, n12⟩, ⟨n13, n14⟩, n15, _⟩ := hn0
    refine ⟨setF F rd (.map [.ss, .sb] true E1 C1), ⟨hnd, t, tr, o, rd, wr, es, eso, E1, esw, clock, co, C1, cw, rfl, ?_, ?_, ?_, ?_, ?_, ?_, m1, m2, hme, m4⟩, fun p hp ho => ?_⟩
    · rw [setF_at, if_neg n4]; exact k1
    · rw [setF_at, if_neg n8]; exact k2
    · rw [setF_at, if_neg n11]; exact k3
    · rw [setF_at, if_neg n13]; exact k4
    · rw [setF_at, if_pos rfl]
    · rw [setF_at, if_neg fun e => n15 e.symm]; exact k6
    · refine (hc p hp ho).toBk ?_ (fun q hq => by rw [List.mem_singleton.1 hq]; simp) fun i hi => ?_
      · rw [bk6, k1, k2, k3, k4, k5, k6]; exact fun q hq => hq
      · show ((Mem.of _).set rd (some (.map [.ss, .sb] true E1 C1))) i = _
        simp only [Mem.set, setF_at]
        split
        · rfl
        · exact of_bk0 hi
theorem atP_ok {st : Oid} {s : St} {N : List Oid} {F : Oid → AObj} (h : StoP st s N F) (hs : SOK s) (n : Str) (hn : n.length ≤ 140737488355000) :
    ∃ F', StoP st (s.read (n, false)) N F' ∧ ∀ p, p.mono = false → Old0 p N → CallOK Tryz.prog 24 [.ptr st 0, .str n] (Oid.under p) ⟨bk (N, F), (getP s.L n).av, sb N F'⟩ :=
  read_blk h hs (n, false) _ _ _
    (fun t es clock _ hts hm p _ h1 h2 => storeAt_ok st t es clock hts p h1 h2 n ((lookG n s.L).getD Bits.no) (mapP_val hm n))
    (fun q t tr o rd wr es eso esr esw clock co cr cw hq hn' hm hmo hw hh p hp hu => atT_ok st t tr o rd wr hn' es eso esr esw clock co cr cw q.old s.L hmo (hs.tr q hq).so (hs.tr q hq).po hm n hn _ _ hw hh p hp hu)
theorem namesP_ok {st : Oid} {s : St} {N : List Oid} {F : Oid → AObj} (h : StoP st s N F) (hs : SOK s) (n : Str) (hn : n.length ≤ 140737488355000) :
    ∃ F', StoP st (s.read (n, true)) N F' ∧ ∀ p, p.mono = false → Old0 p N → CallOK Tryz.prog 25 [.ptr st 0, .str n] (Oid.under p) ⟨bk (N, F), .list 1 ((namesP s.L n).map AV.str), sb N F'⟩ :=
  read_blk h hs (n, true) _ _ _
    (fun t es clock _ hts hm p _ h1 h2 => by
      have := storeNames_ok st t es clock hts p h1 h2 n hn (fun e he => Nat.le_trans (mapP_key hm hs.po e he) (by decide)) (by have := hs.po.len; rw [mapP_len hm]; omega)
      rwa [namesE_eq hm hs.sl] at this)
    (fun q t tr o rd wr es eso esr esw clock co cr cw hq hn' hm hmo hw hh p hp hu => namesT_ok st t tr o rd wr hn' es eso esr esw clock co cr cw q.old s.L hmo (hs.tr q hq).so (hs.tr q hq).po hm hs.sl hs.po n hn _ _ hw hh p hp hu)
end Go.Proofs.YtaecbmbecofijaaGreatDoor
namespace Go.Proofs.YtaecbmbecofijaaGreatDoor
open Go Go.Ab
set_option maxRecDepth 20000
set_option maxHeartbeats 4000000
/-! the store of the reference, a block -/
end Go.Proofs.YtaecbmbecofijaaGreatDoor
namespace Go.Proofs.YtaecbmbecofijaaGreatDoor
open Go Go.Ab
theorem putW_len {n : Str} {W : WL} (h : SortG ltB W) : (putW true n W).length ≤ W.length + 1 := by
  unfold putW
  split
  · omega
  · rw [if_pos rfl]
    have := (insG_filter ordB n (some ()) h).length_eq
    rw [this, List.length_append]
    have := List.length_filter_le (fun q => decide (¬ q.1 = n)) W
    simp only [tipG, List.length_singleton]; omega
theorem SOK.put {s : St} (h : SOK s) (n : Str) (b : Bits) (hl : s.L.length < 1000000) (hn : n.length ≤ 1000000) (hb : b.ok) (hb2 : 0 ≤ b.k ∧ 0 ≤ b.m) : SOK (s.put n b) :=
  ⟨putP_sort h.sl n b, ⟨Nat.le_trans (putP_len n b s.L) hl, fun q hq => by
      rcases putP_mem hq with rfl | hq
      · exact hn
      · exact h.po.key q hq, fun q hq => by
      rcases putP_mem hq with rfl | hq
      · exact hb
      · exact h.po.val q hq⟩, fun q hq => by
      rcases putP_mem hq with rfl | hq
      · exact hb2
      · exact h.no q hq, fun q hq => by
    simp only [St.put, Option.map_eq_some_iff] at hq
    obtain ⟨a, h1, rfl⟩ := hq
    have k := h.tr a h1
    exact ⟨k.so, k.sr, putW_sort k.sw, k.po, k.no⟩⟩
theorem putWE_map {esw : List ME} {W : WL} (h : MapG AV.str (fun _ : Unit => .bool true) esw W) (hs : SortG ltB W) (n : Str) (cw : Nat) : MapG AV.str (fun _ : Unit => .bool true) (putWE n esw cw).1 (putW true n W) := by
  unfold putWE putW
  split
  · exact h
  · rw [if_pos rfl]
    exact mapG_set encS h n () cw ((insG_filter ordB n (some ()) hs).trans (.refl _))
theorem putP_ok {st : Oid} {s : St} {N : List Oid} {F : Oid → AObj} (h : StoP st s N F) (hs : SOK s) (n : Str) (b : Bits) :
    ∃ F', StoP st (s.put n b) N F' ∧ ∀ p, p.mono = false → Old0 p N → CallOK Tryz.prog 19 [.ptr st 0, .str n, b.av] (Oid.under p) ⟨bk (N, F), .tuple [], sb N F'⟩ := by
  obtain ⟨L, t0⟩ := s
  obtain ⟨hnd, h⟩ := h
  cases t0 with
  | none =>
    obtain ⟨t, es, clock, rfl, k1, k2, k3⟩ := h
    have hts : ¬ t = st := fun e => by simp [e] at hnd
    refine ⟨setF F t (.map [.ss] false (putE n b es clock) (putC n b es clock)), ⟨hnd, t, _, putC n b es clock, rfl, ?_, ?_, mapP_put k3 hs.sl n b clock⟩, fun p hp ho => ?_⟩
    · rw [setF_at, if_neg fun e => hts e.symm]; exact k1
    · rw [setF_at, if_pos rfl]
    · refine (put_ok st t es clock hts p (ho _ (by simp)) (ho _ (by simp)) n b).toBk ?_ (fun q hq => by rw [List.mem_singleton.1 hq]; simp) fun i hi => ?_
      · rw [bk2, k1, k2]; exact fun q hq => hq
      · show ((Mem.of _).set t (some _)) i = _
        simp only [Mem.set, setF_at]
        split
        · rfl
        · exact of_bk0 hi
  | some q =>
    obtain ⟨t, tr, o, rd, wr, es, eso, esr, esw, clock, co, cr, cw, rfl, k1, k2, k3, k4, k5, k6, m1, m2, m3, m4⟩ := h
    have hT := hs.tr q rfl
    have hnd' : [wr, rd, o, tr, t, st].Nodup := (List.reverse_perm [st, t, tr, o, rd, wr]).nodup_iff.2 hnd
    have hn0 := hnd
    simp only [List.nodup_cons, List.mem_cons, List.not_mem_nil, or_false, not_or] at hn0
    obtain ⟨⟨n1, n2, n3, n4, n5⟩, ⟨n6, n7, n8, n9⟩, ⟨n10, n11, n12⟩, ⟨n13, n14⟩, n15, _⟩ := hn0
    refine ⟨setF (setF F t (.map [.ss] false (putE n b es clock) (putC n b es clock))) wr (.map [.ss] false (putWE n esw cw).1 (putWE n esw cw).2), ⟨hnd, t, tr, o, rd, wr, _, eso, esr, _, putC n b es clock, co, cr, (putWE n esw cw).2, rfl, ?_, ?_, ?_, ?_, ?_, ?_, mapP_put m1 hs.sl n b clock, m2, m3, putWE_map m4 hT.sw n cw⟩, fun p hp ho => ?_⟩
    · rw [setF_at, if_neg n5, setF_at, if_neg n1]; exact k1
    · rw [setF_at, if_neg n9, setF_at, if_pos rfl]
    · rw [setF_at, if_neg n12, setF_at, if_neg fun e => n6 e.symm]; exact k3
    · rw [setF_at, if_neg n14, setF_at, if_neg fun e => n7 e.symm]; exact k4
    · rw [setF_at, if_neg n15, setF_at, if_neg fun e => n8 e.symm]; exact k5
    · rw [setF_at, if_pos rfl]
    · refine (putT_ok st t tr o rd wr hnd' es eso esr esw clock co cr cw n b p hp ho).toBk ?_ (fun q hq => by
        simp only [List.mem_cons, List.not_mem_nil, or_false] at hq
        rcases hq with rfl | rfl <;> simp) fun i hi => ?_
      · rw [bk6, k1, k2, k3, k4, k5, k6]; exact fun q hq => hq
      · show (((Mem.of _).set t (some _)).set wr (some _)) i = _
        simp only [Mem.set, setF_at]
        split
        · rfl
        · split
          · rfl
          · exact of_bk0 hi
end Go.Proofs.YtaecbmbecofijaaGreatDoor
namespace Go.Proofs.YtaecbmbecofijaaGreatDoor
open Go Go.Ab
set_option maxRecDepth 20000
set_option maxHeartbeats 4000000
theorem keysW_seq (b1 o : Oid) (es : List ME) (clock : Nat) (p : Oid) (hne1 : ¬ o = b1) (hb1 : ¬ Oid.under p b1) (ho : ¬ Oid.under p o) :
    SeqND Tryz.prog 119 [.ptr b1 0] p [(b1, .cells [.map o]), (o, .map [.ss] false es clock)] 1 (fun pre xs => pre.length < es.length ∧ ∃ s : Str, xs = [.str s]) (fun b pre => b = true → ∃ U : List ME, U.Perm es ∧ pre = U.map fun e => [.str (keyS e)]) := by
  intro l J L0 hJ hdis hnp hY
  refine callND_cons (by kernel_rfl) fun hcon => ?_
  refine fnND (n := 14) (rs := []) Tryz.func119 rfl rfl (by decide) rfl rfl rfl ?_; rintro x rfl hrd hng
  have hcL : ∀ q ∈ L0, Mem.of L0 q.1 = some q.2 := fun q hq => by
    have := hcon q (List.mem_append_right _ hq)
    rwa [of_app fun q' hq' => hdis q hq q' hq'] at this
  generalize hQ : DoneN Tryz.prog [] ([(b1, .cells [.map o]), (o, .map [.ss] false es clock)] ++ L0) _ _ = Q
  refine T_wf fun hwf => ?_
  obtain ⟨hw1, hw2⟩ := hwf o [.ss] false es clock (by simp only [fa_cons, fa_nil, Mem.of_cons_at, Mem.of_nil_at, Mem.of_upds, Mem.of_putL, putLs, putL, List.cons_append, List.nil_append, List.append_nil, ↓reduceIte, eq_self, and_true, true_and, and_self, and_false, false_and, reduceCtorEq, Oid.sub.injEq, Nat.reduceEqDiff, hne1, Oid.sub_not_under hb1, Oid.sub_not_under ho, Oid.not_under_sub hb1, Oid.not_under_sub ho])
  have hstr : ∀ e ∈ es, e.key = .str (keyS e) := fun e he => by
    obtain ⟨s, hs⟩ := str_of_fits (hw1 e he).1
    simp only [keyS, hs]
  (try ((first | refine zn ?_ | refine ze ?_ | refine zk ?_); with_reducible (constructor; repeat constructor)); try refine zl ?_)
  refine K_ev nmd [] hng (by kernel_rfl) fun hf C S K hC1 hC hS hK => ?_; simp (disch := first | omega | assumption) only [go_sem, hne1, Oid.sub_not_under hb1, Oid.sub_not_under ho, Oid.not_under_sub hb1, Oid.not_under_sub ho, of_put_at]
  refine hK ?_; clear hK hS hC hC1 K S C hf
  (try ((first | refine zn ?_ | refine ze ?_ | refine zk ?_); with_reducible (constructor; repeat constructor)); try refine zl ?_)
  have hn0 : ∀ q ∈ L0, ¬ q.1 = b1 ∧ ¬ q.1 = o ∧ ¬ q.1 = .sub 0 1 x.p := fun q hq => ⟨hdis q hq _ List.mem_cons_self, hdis q hq _ (List.mem_cons_of_mem _ List.mem_cons_self), fun e => hnp q hq (e ▸ Oid.under_sub (Oid.under_refl _))⟩
  refine K_mem ([(b1, .cells [.map o]), (o, .map [.ss] false es clock), (.sub 0 1 x.p, .iter (some o) clock [] clock)] ++ L0) (app_mem ?_ ?_) ?_
  · simp only [fa_cons, fa_nil, Mem.of_cons_at, Mem.of_nil_at, Mem.of_upds, Mem.of_putL, putLs, putL, List.cons_append, List.nil_append, List.append_nil, ↓reduceIte, eq_self, and_true, true_and, and_self, and_false, false_and, reduceCtorEq, Oid.sub.injEq, Nat.reduceEqDiff, hne1, Oid.sub_not_under hb1, Oid.sub_not_under ho, Oid.not_under_sub hb1, Oid.not_under_sub ho, of_put_at]
  · intro q hq
    obtain ⟨a1, a2, a3⟩ := hn0 q hq
    simp only [fa_cons, fa_nil, Mem.of_cons_at, Mem.of_nil_at, Mem.of_upds, Mem.of_putL, putLs, putL, List.cons_append, List.nil_append, List.append_nil, ↓reduceIte, eq_self, and_true, true_and, and_self, and_false, false_and, reduceCtorEq, Oid.sub.injEq, Nat.reduceEqDiff, of_put_at, a1, a2, a3]
    exact hcL q hq
  refine K_loop [0, 1, 5] (fun q s' => ∃ (c : Nat) (U : List ME) (L : List (Oid × AObj)), s' = ⟨[(0, .fn (.yield l) [] []), (1, .ptr b1 0), (5, .iter (.sub 0 1 x.p))], Mem.of ([(b1, .cells [.map o]), (o, .map [.ss] false es clock), (.sub 0 1 x.p, .iter (some o) clock (U.map ME.born) clock)] ++ L), c, []⟩ ∧ 0 < c ∧ q = es.length - U.length ∧ (U.map ME.born).Nodup ∧ (∀ e ∈ U, e ∈ es) ∧ J true (U.map fun e => [.str (keyS e)]) L ∧
    (∀ q ∈ L, Mem.of L q.1 = some q.2) ∧ ∀ q ∈ L, ((∃ q' ∈ L0, q'.1 = q.1) ∨ Oid.under x.p q.1) ∧ ¬ q.1 = b1 ∧ ¬ q.1 = o ∧ ¬ q.1 = .sub 0 1 x.p ∧ ∀ d j, c ≤ d → ¬ Oid.under (.sub d j x.p) q.1) es.length ⟨_, [], L0, rfl, by omega, rfl, List.nodup_nil, fun i h => (by cases h), hJ, hcL, fun q hq => ⟨.inl ⟨q, hq, rfl⟩, (hn0 q hq).1, (hn0 q hq).2.1, (hn0 q hq).2.2, fun d j _ h => hnp q hq (Oid.under_sub h)⟩⟩ ?_
  rintro q s' ⟨c, U, L, rfl, hc, rfl, hnd, hlt, hj, hcc, hnm⟩
  have hst : U.map ME.born = [] ∨ es = [] ∨ ∃ e ∈ es, e.born < clock := by
    cases U with
    | nil => exact .inl rfl
    | cons e _ => exact .inr (.inr ⟨e, hlt e List.mem_cons_self, (hw1 e (hlt e List.mem_cons_self)).2⟩)
  (try ((first | refine zn ?_ | refine ze ?_ | refine zk ?_); with_reducible (constructor; repeat constructor)); try refine zl ?_)
  refine K_ev nmd [] hng (by kernel_rfl) fun hf C S K hC1 hC hS hK => ?_; simp (disch := first | omega | assumption) only [go_sem]
  refine hS _ _ _ (fun o' hd ho' => nd_next (it := .sub 0 1 x.p) (id := o) (since := clock) (ks := [.ss]) (ag := false) (clock := clock) ho' rfl hst) ?_ ?_ (fun _ _ h => h.elim)
  · simp only [fa_cons, fa_nil, Mem.of_cons_at, Mem.of_nil_at, Mem.of_upds, Mem.of_putL, putLs, putL, List.cons_append, List.nil_append, List.append_nil, ↓reduceIte, eq_self, and_true, true_and, and_self, and_false, false_and, reduceCtorEq, Oid.sub.injEq, Nat.reduceEqDiff, hne1, Oid.sub_not_under hb1, Oid.sub_not_under ho, Oid.not_under_sub hb1, Oid.not_under_sub ho]
  rintro val upd (⟨e, he, hns, rfl, rfl⟩ | ⟨hall, rfl, rfl⟩)
  · have hfi := find_born hw2 he
    have hk := hstr e he
    have hnd' : ((U ++ [e]).map ME.born).Nodup := by
      rw [List.map_append]
      exact List.nodup_append.2 ⟨hnd, by simp, fun a ha b hb' e' => by simp at hb'; subst hb'; subst e'; exact hns ha⟩
    have hlt' : ∀ j ∈ U ++ [e], j ∈ es := fun j hj => by
      rcases List.mem_append.1 hj with hj | hj
      · exact hlt j hj
      · simp at hj; subst hj; exact he
    have hle := sub_len hw2 hlt' hnd'
    generalize hks : keyS e = s at *
    simp (disch := first | omega | assumption) only [go_sem, hne1, Oid.sub_not_under hb1, Oid.sub_not_under ho, Oid.not_under_sub hb1, Oid.not_under_sub ho, of_put_at, hk]
    refine hK ?_; clear hK hS hC hC1 K S C hf
    (repeat (first | (refine K_ifT rfl rfl ?_) | (refine K_ifF rfl rfl ?_) | (refine K_ev nmd [] hng (by kernel_rfl) fun hf C S K hC1 hC hS hK => ?_; simp (disch := first | omega | assumption) only [go_sem]; refine hK ?_; clear hK hS hC hC1 K S C hf) | ((first | refine zv ?_ | refine zw ?_ | refine zu ?_); with_reducible (constructor; repeat constructor); try refine zl ?_)))
    refine K_block ?_
    (repeat (first | (refine K_ifT rfl rfl ?_) | (refine K_ifF rfl rfl ?_) | (refine K_ev nmd [] hng (by kernel_rfl) fun hf C S K hC1 hC hS hK => ?_; simp (disch := first | omega | assumption) only [go_sem]; refine hK ?_; clear hK hS hC hC1 K S C hf) | ((first | refine zv ?_ | refine zw ?_ | refine zu ?_); with_reducible (constructor; repeat constructor); try refine zl ?_)))
    refine K_ev nmd [] hng (by kernel_rfl) fun hf C S K hC1 hC hS hK => ?_; simp (disch := first | omega | assumption) only [go_sem, hne1, Oid.sub_not_under hb1, Oid.sub_not_under ho, Oid.not_under_sub hb1, Oid.not_under_sub ho, of_put_at, hfi, hk, List.getLast?_concat]
    refine hK ?_; clear hK hS hC hC1 K S C hf
    (repeat (first | (refine K_ifT rfl rfl ?_) | (refine K_ifF rfl rfl ?_) | (refine K_ev nmd [] hng (by kernel_rfl) fun hf C S K hC1 hC hS hK => ?_; simp (disch := first | omega | assumption) only [go_sem]; refine hK ?_; clear hK hS hC hC1 K S C hf) | ((first | refine zv ?_ | refine zw ?_ | refine zu ?_); with_reducible (constructor; repeat constructor); try refine zl ?_)))
    have hnL : ∀ q ∈ L, ∀ q' ∈ ([(b1, .cells [.map o]), (o, .map [.ss] false es clock), (.sub 0 1 x.p, .iter (some o) clock (U.map ME.born ++ [e.born]) clock)] : List (Oid × AObj)), ¬ q.1 = q'.1 := fun q hq => by
      obtain ⟨_, a1, a2, a3, a4⟩ := hnm q hq
      simp only [fa_cons, fa_nil, Mem.of_cons_at, Mem.of_nil_at, Mem.of_upds, Mem.of_putL, putLs, putL, List.cons_append, List.nil_append, List.append_nil, ↓reduceIte, eq_self, and_true, true_and, and_self, and_false, false_and, reduceCtorEq, Oid.sub.injEq, Nat.reduceEqDiff, a1, a2, a3, not_false_eq_true]
    have hBm : ∀ q ∈ ([(b1, .cells [.map o]), (o, .map [.ss] false es clock), (.sub 0 1 x.p, .iter (some o) clock (U.map ME.born ++ [e.born]) clock)] : List (Oid × AObj)), Mem.of ([(b1, .cells [.map o]), (o, .map [.ss] false es clock), (.sub 0 1 x.p, .iter (some o) clock (U.map ME.born ++ [e.born]) clock)] ++ L) q.1 = some q.2 := by
      simp only [fa_cons, fa_nil, Mem.of_cons_at, Mem.of_nil_at, Mem.of_upds, Mem.of_putL, putLs, putL, List.cons_append, List.nil_append, List.append_nil, ↓reduceIte, eq_self, and_true, true_and, and_self, and_false, false_and, reduceCtorEq, Oid.sub.injEq, Nat.reduceEqDiff, hne1, Oid.sub_not_under hb1, Oid.sub_not_under ho, Oid.not_under_sub hb1, Oid.not_under_sub ho]
    have hall := cons_app hBm hnL hcc
    have hmm : (U ++ [e]).map ME.born = U.map ME.born ++ [e.born] := by simp
    have hlen2 : (U ++ [e]).length = U.length + 1 := by simp
    refine K_ev nmd [] hng (by kernel_rfl) fun hf C S K hC1 hC hS hK => ?_; simp (disch := first | omega | assumption) only [go_sem, hne1, Oid.sub_not_under hb1, Oid.sub_not_under ho, Oid.not_under_sub hb1, Oid.not_under_sub ho, of_put_at]
    refine hS _ _ _ (fun o' hd ho' => eff_yield ho' rfl (hY _ [.str s] L (.sub (c + 1 + 1) 2 x.p) hj rfl ⟨by rw [List.length_map]; rw [hlen2] at hle; omega, s, rfl⟩)) (fun q hq => hall q (List.mem_append_right _ hq)) ?_ (fun _ _ h => h.elim)
    rintro val upd ⟨b, L', rfl, hj', hU⟩
    have hym := yield_mem hU (fun q hq => hall q (List.mem_append_right _ hq)) hBm ?_
    rotate_left
    · intro q hq
      refine ⟨fun q' hq' => hnL q' hq' q hq, fun hu => ?_⟩
      simp only [List.mem_cons, List.not_mem_nil, or_false] at hq
      rcases hq with rfl | rfl | rfl
      · exact hb1 (Oid.under_sub hu)
      · exact ho (Oid.under_sub hu)
      · have := (Oid.apart hu (Oid.under_refl _)).1; omega
    have hcl : ∀ q ∈ L', Mem.of L' q.1 = some q.2 := fun q hq => by
      obtain ⟨o', ho'⟩ := Mem.of_some hq
      obtain ⟨q', h1, h2, h3⟩ := Mem.of_mem ho'
      have h4 := hym q (List.mem_append_right _ hq)
      have h5 := hym q' (List.mem_append_right _ h1)
      rw [h2, h4, h3] at h5
      rw [ho']; exact h5.symm
    simp (disch := first | omega | assumption) only [go_sem]
    refine hK ?_; clear hK hS hC hC1 K S C hf
    (repeat (first | (refine K_ifT rfl rfl ?_) | (refine K_ifF rfl rfl ?_) | (refine K_ev nmd [] hng (by kernel_rfl) fun hf C S K hC1 hC hS hK => ?_; simp (disch := first | omega | assumption) only [go_sem]; refine hK ?_; clear hK hS hC hC1 K S C hf) | ((first | refine zv ?_ | refine zw ?_ | refine zu ?_); with_reducible (constructor; repeat constructor); try refine zl ?_)))
    refine K_mem ([(b1, .cells [.map o]), (o, .map [.ss] false es clock), (.sub 0 1 x.p, .iter (some o) clock (U.map ME.born ++ [e.born]) clock)] ++ L') (by rw [← Mem.of_upds]; exact hym) ?_
    have hnm' : ∀ q ∈ L', ((∃ q' ∈ L0, q'.1 = q.1) ∨ Oid.under x.p q.1) ∧ ¬ q.1 = b1 ∧ ¬ q.1 = o ∧ ¬ q.1 = .sub 0 1 x.p ∧ ∀ d j, c + 1 + 1 + 1 ≤ d → ¬ Oid.under (.sub d j x.p) q.1 := fun q hq => by
      rcases hU.nam q hq with ⟨q', h1, h2⟩ | h1
      · obtain ⟨a0, a1, a2, a3, a4⟩ := hnm q' h1
        rw [h2] at a0 a1 a2 a3 a4
        exact ⟨a0, a1, a2, a3, fun d j hd => a4 d j (by omega)⟩
      · have hu := Oid.under_sub h1
        refine ⟨.inr hu, fun e => hb1 (e ▸ hu), fun e => ho (e ▸ hu), fun e => ?_, fun d j hd h2 => ?_⟩
        · rw [e] at h1; have := (Oid.apart h1 (Oid.under_refl _)).1; omega
        · have := (Oid.apart h1 h2).1; omega
    have hmap : ((U ++ [e]).map fun e => [AV.str (keyS e)]) = (U.map fun e => [AV.str (keyS e)]) ++ [[.str s]] := by simp [hks]
    have hnL' : ∀ q ∈ L', ∀ q' ∈ ([(b1, .cells [.map o]), (o, .map [.ss] false es clock), (.sub 0 1 x.p, .iter (some o) clock (U.map ME.born ++ [e.born]) clock)] : List (Oid × AObj)), ¬ q.1 = q'.1 := fun q hq => by
      obtain ⟨_, a1, a2, a3, a4⟩ := hnm' q hq
      simp only [fa_cons, fa_nil, Mem.of_cons_at, Mem.of_nil_at, Mem.of_upds, Mem.of_putL, putLs, putL, List.cons_append, List.nil_append, List.append_nil, ↓reduceIte, eq_self, and_true, true_and, and_self, and_false, false_and, reduceCtorEq, Oid.sub.injEq, Nat.reduceEqDiff, a1, a2, a3, not_false_eq_true]
    have hall' := cons_app (L := L') (B := [(b1, .cells [.map o]), (o, .map [.ss] false es clock), (.sub 0 1 x.p, .iter (some o) clock (U.map ME.born ++ [e.born]) clock)]) (fun q hq => by
      have := hym q (List.mem_append_left _ hq)
      revert q
      simp only [fa_cons, fa_nil, Mem.of_cons_at, Mem.of_nil_at, Mem.of_upds, Mem.of_putL, putLs, putL, List.cons_append, List.nil_append, List.append_nil, ↓reduceIte, eq_self, and_true, true_and, and_self, and_false, false_and, reduceCtorEq, Oid.sub.injEq, Nat.reduceEqDiff, hne1, Oid.sub_not_under hb1, Oid.sub_not_under ho, Oid.not_under_sub hb1, Oid.not_under_sub ho, implies_true]) hnL' hcl
    cases b with
    | true =>
      (repeat (first | (refine K_ifT rfl rfl ?_) | (refine K_ifF rfl rfl ?_) | (refine K_ev nmd [] hng (by kernel_rfl) fun hf C S K hC1 hC hS hK => ?_; simp (disch := first | omega | assumption) only [go_sem]; refine hK ?_; clear hK hS hC hC1 K S C hf) | ((first | refine zn ?_ | refine ze ?_ | refine zk ?_); with_reducible (constructor; repeat constructor); try refine zl ?_)))
      rw [← hmap] at hj'
      refine ⟨_, Mem.of ([(b1, .cells [.map o]), (o, .map [.ss] false es clock), (.sub 0 1 x.p, .iter (some o) clock (U.map ME.born ++ [e.born]) clock)] ++ L'), ?_, mem_sub hall', c + 1 + 1 + 1, U ++ [e], L', by rw [hmm]; rfl, by omega, rfl, hnd', hlt', hj', hcl, hnm'⟩
      rw [hlen2] at hle ⊢; omega
    | false =>
      refine K_ifT rfl rfl (K_ret ?_)
      subst hQ
      have hsw := swap_of (L := [(b1, .cells [.map o]), (o, .map [.ss] false es clock)] ++ L0) (L' := [(b1, .cells [.map o]), (o, .map [.ss] false es clock)] ++ L') (m := Mem.of ([(b1, .cells [.map o]), (o, .map [.ss] false es clock), (.sub 0 1 x.p, .iter (some o) clock (U.map ME.born ++ [e.born]) clock)] ++ L')) (sp := Oid.under x.p) (fun q hq => hall' q (by
          rcases List.mem_append.1 hq with hq | hq
          · exact List.mem_append_left _ (by simp only [List.mem_cons, List.not_mem_nil, or_false] at hq ⊢; rcases hq with h | h <;> simp [h])
          · exact List.mem_append_right _ hq)) (fun q hq => by
          rcases List.mem_append.1 hq with hq | hq
          · exact .inl ⟨q, List.mem_append_left _ hq, rfl⟩
          · rcases (hnm' q hq).1 with ⟨q', h1, h2⟩ | h
            · exact .inl ⟨q', List.mem_append_right _ h1, h2⟩
            · exact .inr h)
      exact done_ret _ _ rfl ⟨false, _, L', fun h => (by cases h), hj', hsw.1⟩ hsw.2
  · simp (disch := first | omega | assumption) only [go_sem]
    refine hK ?_; clear hK hS hC hC1 K S C hf
    (try ((first | refine zn ?_ | refine ze ?_ | refine zk ?_); with_reducible (constructor; repeat constructor)); try refine zl ?_)
    subst hQ
    have hfull := seen_perm hw2 hlt hnd fun e he => hall e he (hw1 e he).2
    have hnL : ∀ q ∈ L, ∀ q' ∈ ([(b1, .cells [.map o]), (o, .map [.ss] false es clock), (.sub 0 1 x.p, .iter (some o) clock (U.map ME.born) clock)] : List (Oid × AObj)), ¬ q.1 = q'.1 := fun q hq => by
      obtain ⟨_, a1, a2, a3, a4⟩ := hnm q hq
      simp only [fa_cons, fa_nil, Mem.of_cons_at, Mem.of_nil_at, Mem.of_upds, Mem.of_putL, putLs, putL, List.cons_append, List.nil_append, List.append_nil, ↓reduceIte, eq_self, and_true, true_and, and_self, and_false, false_and, reduceCtorEq, Oid.sub.injEq, Nat.reduceEqDiff, a1, a2, a3, not_false_eq_true]
    have hall' := cons_app (L := L) (B := [(b1, .cells [.map o]), (o, .map [.ss] false es clock), (.sub 0 1 x.p, .iter (some o) clock (U.map ME.born) clock)]) (by
      simp only [fa_cons, fa_nil, Mem.of_cons_at, Mem.of_nil_at, Mem.of_upds, Mem.of_putL, putLs, putL, List.cons_append, List.nil_append, List.append_nil, ↓reduceIte, eq_self, and_true, true_and, and_self, and_false, false_and, reduceCtorEq, Oid.sub.injEq, Nat.reduceEqDiff, hne1, Oid.sub_not_under hb1, Oid.sub_not_under ho, Oid.not_under_sub hb1, Oid.not_under_sub ho]) hnL hcc
    have hsw := swap_of (L := [(b1, .cells [.map o]), (o, .map [.ss] false es clock)] ++ L0) (L' := [(b1, .cells [.map o]), (o, .map [.ss] false es clock)] ++ L) (m := Mem.of ([(b1, .cells [.map o]), (o, .map [.ss] false es clock), (.sub 0 1 x.p, .iter (some o) clock (U.map ME.born) clock)] ++ L)) (sp := Oid.under x.p) (fun q hq => hall' q (by
          rcases List.mem_append.1 hq with hq | hq
          · exact List.mem_append_left _ (by simp only [List.mem_cons, List.not_mem_nil, or_false] at hq ⊢; rcases hq with h | h <;> simp [h])
          · exact List.mem_append_right _ hq)) (fun q hq => by
          rcases List.mem_append.1 hq with hq | hq
          · exact .inl ⟨q, List.mem_append_left _ hq, rfl⟩
          · rcases (hnm q hq).1 with ⟨q', h1, h2⟩ | h
            · exact .inl ⟨q', List.mem_append_right _ h1, h2⟩
            · exact .inr h)
    refine K_ifF rfl rfl ?_
    (try ((first | refine zn ?_ | refine ze ?_ | refine zk ?_); with_reducible (constructor; repeat constructor)); try refine zl ?_)
    refine K_nil ?_
    exact done_normal _ _ rfl ⟨true, _, L, fun _ => ⟨U, hfull, rfl⟩, hj, hsw.1⟩ hsw.2
theorem keysW_ok (o : Oid) (p : Oid) (ho : ¬ Oid.under p o) : CallOK Tryz.prog 70 [.map o] (Oid.under p) ⟨[], .fn (.func 119) [] [.ptr (.sub 0 0 p) 0], [(.sub 0 0 p, some (.cells [.map o]))]⟩ := by
  refine fnOK (n := 4) (rs := [.tmp 2]) Tryz.func70 rfl rfl (by decide) rfl rfl rfl ?_; rintro x rfl hrd hng
  (repeat (first | (refine K_ifT rfl rfl ?_) | (refine K_ifF rfl rfl ?_) | (refine K_ev nmd [] hng (by kernel_rfl) fun hf C S K hC1 hC hS hK => ?_; simp (disch := first | omega | assumption) only [go_sem]; refine hK ?_; clear hK hS hC hC1 K S C hf) | ((first | refine zn ?_ | refine ze ?_ | refine zk ?_); with_reducible (constructor; repeat constructor); try refine zl ?_)))
  refine K_ret (done_ret _ _ rfl ⟨rfl, rfl⟩ ?_)
  intro i o' h
  rw [Mem.of_upds] at h
  exact h
end Go.Proofs.YtaecbmbecofijaaGreatDoor
namespace Go.Proofs
open Go.Shelf
def Tryz.lays125_ren : Go.Shelf.Ren := ⟨fun | 125 => 112 | 128 => 152 | 129 => 153 | n => n, fun | 46 => 153 | 3 => 3 | 51 => 184 | 53 => 186 | 4 => 4 | 5 => 5 | 9 => 9 | n => n, fun | n => n⟩
theorem Tryz.lays125 : Go.Proofs.Lays.n125 Tryz.prog Tryz.lays125_ren := {
  mixed := by kernel_rfl
  f125 := Tryz.func112.trans (congrArg some (by kernel_rfl))
  f128 := Tryz.func152.trans (congrArg some (by kernel_rfl))
  f129 := Tryz.func153.trans (congrArg some (by kernel_rfl))
  t3 := Tryz.underlying3
  a3 := Tryz.isAgg3
  z3 := Tryz.sizeOf3
  v3 := Tryz.zeroValue3
  t4 := Tryz.underlying4
  a4 := Tryz.isAgg4
  z4 := Tryz.sizeOf4
  v4 := Tryz.zeroValue4
  t5 := Tryz.underlying5
  a5 := Tryz.isAgg5
  z5 := Tryz.sizeOf5
  v5 := Tryz.zeroValue5
  t9 := Tryz.underlying9
  a9 := Tryz.isAgg9
  z9 := Tryz.sizeOf9
  v9 := Tryz.zeroValue9
  t46 := Tryz.underlying153
  a46 := Tryz.isAgg153
  z46 := Tryz.sizeOf153
  v46 := Tryz.zeroValue153
  t51 := Tryz.underlying184
  a51 := Tryz.isAgg184
  z51 := Tryz.sizeOf184
  v51 := Tryz.zeroValue184
  t53 := Tryz.underlying186
  a53 := Tryz.isAgg186
  z53 := Tryz.sizeOf186
  v53 := Tryz.zeroValue186 }
theorem Tryz.bits_Len (x : Int) (w : World) (h0 : 0 ≤ x) (h1 : x ≤ 18446744073709551615) :
    Calls Tryz.prog 112 #[.int .u64 x] w fun e w' => e = .returned (.int .i64 (Lib.bitLen x.toNat)) ∧ w' = w := Any.bits_Len Tryz.lays125 x w h0 h1
end Go.Proofs
namespace Go.Proofs.YtaecbmbecofijaaGreatDoor
open Go Go.Ab
set_option maxRecDepth 20000
set_option maxHeartbeats 4000000
theorem bitsLen0_ok (sp : Oid → Prop) : CallOK Tryz.prog 112 [.int .u64 0] sp ⟨[], .int .i64 0, []⟩ :=
  callOK_same (by kernel_rfl) fun g args w ha _ => by
    obtain ⟨v, rfl, hv⟩ := ha.one
    obtain rfl := hv.int_inv
    refine (Tryz.bits_Len 0 w (by decide) (by decide)).mono ?_
    rintro e w' ⟨rfl, rfl⟩
    exact ⟨_, rfl, .int _ _, rfl⟩
theorem insertion0_ok (id : Oid) (f : AV) (p : Oid) : CallOK Tryz.prog 144 [.sl id 3 0, .int .i64 0, .int .i64 0, f] (Oid.under p) ⟨[], .tuple [], []⟩ := by
  refine fnOK (n := 53) (rs := []) Tryz.func144 rfl rfl (by decide) rfl rfl rfl ?_; rintro x rfl hrd hng
  (repeat (first | (refine K_ifT rfl rfl ?_) | (refine K_ifF rfl rfl ?_) | (refine K_ev nmd [] hng (by kernel_rfl) fun hf C S K hC1 hC hS hK => ?_; simp (disch := first | omega | assumption) only [go_sem]; refine hK ?_; clear hK hS hC hC1 K S C hf) | ((first | refine zn ?_ | refine ze ?_ | refine zk ?_); with_reducible (constructor; repeat constructor); try refine zl ?_)))
  refine K_loop [2, 8] (fun k s' => ∃ c : Nat, k = 0 ∧ s' = ⟨[(2, .int .i64 0), (8, .int .i64 1)], Mem.of [], c, []⟩) _ ⟨_, rfl, rfl⟩ ?_
  rintro k s' ⟨c, rfl, rfl⟩
  (repeat (first | (refine K_ifT rfl rfl ?_) | (refine K_ifF rfl rfl ?_) | (refine K_ev nmd [] hng (by kernel_rfl) fun hf C S K hC1 hC hS hK => ?_; simp (disch := first | omega | assumption) only [go_sem]; refine hK ?_; clear hK hS hC hC1 K S C hf) | ((first | refine zn ?_ | refine ze ?_ | refine zk ?_); with_reducible (constructor; repeat constructor); try refine zl ?_)))
  exact K_nil (done_updN rfl (fun _ h => by cases h) (fun _ h => by cases h))
theorem pdq0_ok (id : Oid) (f : AV) (p : Oid) : CallOK Tryz.prog 111 [.sl id 3 0, .int .i64 0, .int .i64 0, .int .i64 0, f] (Oid.under p) ⟨[], .tuple [], []⟩ := by
  refine fnOK (n := 148) (rs := []) Tryz.func111 rfl rfl (by decide) rfl rfl rfl ?_; rintro x rfl hrd hng
  (repeat (first | (refine K_ifT rfl rfl ?_) | (refine K_ifF rfl rfl ?_) | (refine K_ev nmd [] hng (by kernel_rfl) fun hf C S K hC1 hC hS hK => ?_; simp (disch := first | omega | assumption) only [go_sem]; refine hK ?_; clear hK hS hC hC1 K S C hf) | ((first | refine zn ?_ | refine ze ?_ | refine zk ?_); with_reducible (constructor; repeat constructor); try refine zl ?_)))
  refine K_loop [0, 1, 2, 3, 4, 10, 11] (fun k s' => ∃ c : Nat, k = 0 ∧ s' = ⟨[(0, .sl id 3 0), (1, .int .i64 0), (2, .int .i64 0), (3, .int .i64 0), (4, f), (10, .bool true), (11, .bool true)], Mem.of [], c, []⟩) _ ⟨_, rfl, rfl⟩ ?_
  rintro k s' ⟨c, rfl, rfl⟩
  (repeat (first | (refine K_ifT rfl rfl ?_) | (refine K_ifF rfl rfl ?_) | (refine K_ev nmd [] hng (by kernel_rfl) fun hf C S K hC1 hC hS hK => ?_; simp (disch := first | omega | assumption) only [go_sem]; (repeat ((first | refine hC1 _ (insertion0_ok id f _) (by simp (disch := first | omega | assumption) only [go_sem]) ?_); simp (disch := first | omega | assumption) only [go_sem])); refine hK ?_; clear hK hS hC hC1 K S C hf) | ((first | refine zn ?_ | refine ze ?_ | refine zk ?_); with_reducible (constructor; repeat constructor); try refine zl ?_)))
  exact K_ret (done_plain rfl)
theorem sort0_ok (id : Oid) (f : AV) (p : Oid) : CallOK Tryz.prog 67 [.sl id 3 0, f] (Oid.under p) ⟨[], .tuple [], []⟩ := by
  refine fnOK (n := 14) (rs := []) Tryz.func67 rfl rfl (by decide) rfl rfl rfl ?_; rintro x rfl hrd hng
  (repeat (first | (refine K_ifT rfl rfl ?_) | (refine K_ifF rfl rfl ?_) | (refine K_ev nmd [] hng (by kernel_rfl) fun hf C S K hC1 hC hS hK => ?_; simp (disch := first | omega | assumption) only [go_sem]; (repeat ((first | refine hC1 _ (bitsLen0_ok _) (by simp (disch := first | omega | assumption) only [go_sem]) ?_ | refine hC1 _ (pdq0_ok id f _) (by simp (disch := first | omega | assumption) only [go_sem]) ?_); simp (disch := first | omega | assumption) only [go_sem])); refine hK ?_; clear hK hS hC hC1 K S C hf) | ((first | refine zn ?_ | refine ze ?_ | refine zk ?_); with_reducible (constructor; repeat constructor); try refine zl ?_)))
  exact K_nil (done_updN rfl (fun _ h => by cases h) (fun _ h => by cases h))
end Go.Proofs.YtaecbmbecofijaaGreatDoor
namespace Go.Proofs.YtaecbmbecofijaaGreatDoor
open Go Go.Ab
set_option maxRecDepth 20000
set_option maxHeartbeats 40000000
def decT3 (e : ME) : Tch := match e.key, e.val with
  | .agg [.str a, .bool b], .str v => ((a, b), v)
  | _, _ => (([], false), [])
theorem decT3_map (T : List ((Str × Bool) × Str × Nat)) : (T.map (entG keyF AV.str)).map decT3 = T.map prj := by
  rw [List.map_map]; rfl
theorem keysW_eq {es : List ME} {W : WL} (h : MapG AV.str (fun _ : Unit => .bool true) es W) (hs : SortG ltB W) : sortS (es.map keyS) = W.map (·.1) := by
  refine sortS_eq ?_ (List.pairwise_map.2 (hs.imp fun {a b} h => List.le_of_lt (ltS_lt h)))
  obtain ⟨E, rfl, h2, _⟩ := h
  have h3 : (E.map (entG AV.str (fun _ : Unit => AV.bool true))).map keyS = (E.map prj).map (·.1) := by
    rw [List.map_map, List.map_map]; rfl
  rw [h3]
  exact h2.map _
section
variable (st t tr o rd wr : Oid) (hn : [wr, rd, o, tr, t, st].Nodup) (es eso esr esw : List ME) (clock co cr cw : Nat)
include hn
theorem endT_ok (L : PL) (R : RL) (W : WL) (hm3 : MapG keyF AV.str esr R) (hR : SortG ltF R) (hRl : R.length ≤ 1000000) (hm4 : MapG AV.str (fun _ : Unit => .bool true) esw W) (hW : SortG ltB W) (hWl : W.length ≤ 1000000) (hm1 : MapP es L) (ho1 : POk L) (hno : PNat L) (p : Oid) (hp : p.mono = false) (hu : ∀ i ∈ [st, t, tr, o, rd, wr], ¬ Oid.under p i) :
    CallOK Tryz.prog 26 [.ptr st 0] (Oid.under p) ⟨[(st, .cells [.map t, .ptr tr 0]), (t, .map [.ss] false es clock), (tr, .cells [.map o, .map rd, .map wr]), (o, .map [.ss] false eso co), (rd, .map [.ss, .sb] true esr cr), (wr, .map [.ss] false esw cw)], .tuple [.list 3 (R.map tchAV), .list 3 (W.map fun w => tchAV ((w.1, false), valT (getP L w.1)))], [(st, some (.cells [.map t, .nilPtr]))]⟩ := by
  simp only [List.nodup_cons, List.mem_cons, List.not_mem_nil, or_false, not_or, not_false_eq_true, List.nodup_nil, and_true] at hn; simp only [List.mem_cons, List.not_mem_nil, or_false, forall_eq_or_imp, forall_eq] at hu; have hd := hn; obtain ⟨u1, u2, u3, u4, u5, u6⟩ := hu
  refine fnOK (n := 69) (rs := [.tmp 2, .tmp 3]) Tryz.func26 rfl rfl (by decide) rfl rfl rfl ?_; rintro x rfl hrd hng
  refine T_wf fun hwf => ?_
  obtain ⟨hw1, hw2⟩ := hwf rd [.ss, .sb] true esr cr (by simp only [fa_cons, fa_nil, Mem.of_cons_at, Mem.of_nil_at, Mem.of_upds, Mem.of_putL, putLs, putL, List.cons_append, List.nil_append, List.append_nil, ↓reduceIte, eq_self, and_true, true_and, and_self, and_false, false_and, reduceCtorEq, Oid.sub.injEq, Nat.reduceEqDiff, hd, Oid.not_under_sub u1, Oid.sub_not_under u1, Oid.not_under_sub u2, Oid.sub_not_under u2, Oid.not_under_sub u3, Oid.sub_not_under u3, Oid.not_under_sub u4, Oid.sub_not_under u4, Oid.not_under_sub u5, Oid.sub_not_under u5, Oid.not_under_sub u6, Oid.sub_not_under u6])
  (repeat (first | (refine K_ifT rfl rfl ?_) | (refine K_ifF rfl rfl ?_) | (refine K_ev nmd [] hng (by kernel_rfl) fun hf C S K hC1 hC hS hK => ?_; simp (disch := first | omega | assumption) only [go_sem, hd, Oid.not_under_sub u1, Oid.sub_not_under u1, Oid.not_under_sub u2, Oid.sub_not_under u2, Oid.not_under_sub u3, Oid.sub_not_under u3, Oid.not_under_sub u4, Oid.sub_not_under u4, Oid.not_under_sub u5, Oid.sub_not_under u5, Oid.not_under_sub u6, Oid.sub_not_under u6]; refine hK ?_; clear hK hS hC hC1 K S C hf) | ((first | refine zn ?_ | refine ze ?_ | refine zk ?_); with_reducible (constructor; repeat constructor); try refine zl ?_)))
  obtain ⟨E, hE0, hE, hEn⟩ := hm3
  have hmE : ∀ q ∈ E, entG keyF AV.str q ∈ esr := fun q hq => by rw [hE0]; exact List.mem_map_of_mem hq
  have hEl : E.length = R.length := by rw [← hE.length_eq, List.length_map]
  refine K_void 2 3 rfl ?_
  simp (disch := first | omega | assumption) only [go_sem, hd, Oid.not_under_sub u1, Oid.sub_not_under u1, Oid.not_under_sub u2, Oid.sub_not_under u2, Oid.not_under_sub u3, Oid.sub_not_under u3, Oid.not_under_sub u4, Oid.sub_not_under u4, Oid.not_under_sub u5, Oid.sub_not_under u5, Oid.not_under_sub u6, Oid.sub_not_under u6]
  refine K_loop [0, 2, 3, 20] (fun k s' => ∃ (c d j : Nat) (T : List ((Str × Bool) × Str × Nat)), s' = ⟨[(0, .ptr st 0), (2, .sl (.sub d j x.p) 3 T.length), (3, .nilSl), (20, .iter (.sub 2 7 x.p))], Mem.of [(st, .cells [.map t, .ptr tr 0]), (t, .map [.ss] false es clock), (tr, .cells [.map o, .map rd, .map wr]), (o, .map [.ss] false eso co), (rd, .map [.ss, .sb] true esr cr), (wr, .map [.ss] false esw cw), (.sub 2 7 x.p, .iter (some rd) cr ((T.map (entG keyF AV.str)).map ME.born) cr), (.sub d j x.p, .arr 3 ((T.map prj).map tchAV))], c, []⟩ ∧ k = E.length - T.length ∧ 2 < d ∧ d < c ∧ ((T.map (entG keyF AV.str)).map ME.born).Nodup ∧ (∀ e ∈ T, e ∈ E)) _ ⟨4, 3, 0, [], rfl, rfl, by omega, by omega, by simp, fun e h => by cases h⟩ ?_
  rintro k s' ⟨c, d, j, T, rfl, rfl, hd2, hdc, hnd, hlt⟩
  have hst : (T.map (entG keyF AV.str)).map ME.born = [] ∨ esr = [] ∨ ∃ e ∈ esr, e.born < cr := by
    cases T with
    | nil => exact .inl rfl
    | cons e _ => exact .inr (.inr ⟨entG keyF AV.str e, hmE e (hlt e List.mem_cons_self), (hw1 _ (hmE e (hlt e List.mem_cons_self))).2⟩)
  have hd7 : ¬ d = 2 := by omega
  (try ((first | refine zn ?_ | refine ze ?_ | refine zk ?_); with_reducible (constructor; repeat constructor)); try refine zl ?_)
  refine K_ev nmd [] hng (by kernel_rfl) fun hf C S K hC1 hC hS hK => ?_; simp (disch := first | omega | assumption) only [go_sem]
  refine hS _ _ _ (fun o' hd' ho' => nd_next (it := .sub 2 7 x.p) (id := rd) (since := cr) (ks := [.ss, .sb]) (ag := true) (clock := cr) ho' rfl hst) ?_ ?_ (fun _ _ h => h.elim)
  · simp only [fa_cons, fa_nil, Mem.of_cons_at, Mem.of_nil_at, Mem.of_upds, Mem.of_putL, putLs, putL, List.cons_append, List.nil_append, List.append_nil, ↓reduceIte, eq_self, and_true, true_and, and_self, and_false, false_and, reduceCtorEq, Oid.sub.injEq, Nat.reduceEqDiff, hd, Oid.not_under_sub u1, Oid.sub_not_under u1, Oid.not_under_sub u2, Oid.sub_not_under u2, Oid.not_under_sub u3, Oid.sub_not_under u3, Oid.not_under_sub u4, Oid.sub_not_under u4, Oid.not_under_sub u5, Oid.sub_not_under u5, Oid.not_under_sub u6, Oid.sub_not_under u6]
  rintro val upd (⟨e, he, hns, rfl, rfl⟩ | ⟨hall, rfl, rfl⟩)
  · have hfi := find_born hw2 he
    rw [hE0] at he
    obtain ⟨q, hq, rfl⟩ := List.mem_map.1 he
    obtain ⟨⟨qn, qf⟩, qv, qb⟩ := q
    simp only [entG, keyF] at hfi hns ⊢
    simp (disch := first | omega | assumption) only [go_sem, hd, Oid.not_under_sub u1, Oid.sub_not_under u1, Oid.not_under_sub u2, Oid.sub_not_under u2, Oid.not_under_sub u3, Oid.sub_not_under u3, Oid.not_under_sub u4, Oid.sub_not_under u4, Oid.not_under_sub u5, Oid.sub_not_under u5, Oid.not_under_sub u6, Oid.sub_not_under u6, of_put_at]
    refine hK ?_; clear hK hS hC hC1 K S C hf
    (repeat (first | (refine K_ifT rfl rfl ?_) | (refine K_ifF rfl rfl ?_) | (refine K_ev nmd [] hng (by kernel_rfl) fun hf C S K hC1 hC hS hK => ?_; simp (disch := first | omega | assumption) only [go_sem]; refine hK ?_; clear hK hS hC hC1 K S C hf) | ((first | refine zv ?_ | refine zw ?_ | refine zu ?_); with_reducible (constructor; repeat constructor); try refine zl ?_)))
    refine K_block ?_
    (repeat (first | (refine K_ifT rfl rfl ?_) | (refine K_ifF rfl rfl ?_) | (refine K_ev nmd [] hng (by kernel_rfl) fun hf C S K hC1 hC hS hK => ?_; simp (disch := first | omega | assumption) only [go_sem]; refine hK ?_; clear hK hS hC hC1 K S C hf) | ((first | refine zv ?_ | refine zw ?_ | refine zu ?_); with_reducible (constructor; repeat constructor); try refine zl ?_)))
    refine K_ev nmd [] hng (by kernel_rfl) fun hf C S K hC1 hC hS hK => ?_; simp (disch := first | omega | assumption) only [go_sem, hd, Oid.not_under_sub u1, Oid.sub_not_under u1, Oid.not_under_sub u2, Oid.sub_not_under u2, Oid.not_under_sub u3, Oid.sub_not_under u3, Oid.not_under_sub u4, Oid.sub_not_under u4, Oid.not_under_sub u5, Oid.sub_not_under u5, Oid.not_under_sub u6, Oid.sub_not_under u6, of_put_at, hfi, List.getLast?_concat]
    refine hK ?_; clear hK hS hC hC1 K S C hf
    have hlen : (((T.map prj).map tchAV).length) = T.length := by simp
    have hnd' : (((T ++ [((qn, qf), qv, qb)]).map (entG keyF AV.str)).map ME.born).Nodup := by
      rw [List.map_append, List.map_append]
      exact List.nodup_append.2 ⟨hnd, by simp, fun a ha b hb' e' => by simp [entG] at hb'; subst hb'; subst e'; exact hns ha⟩
    have hlt' : ∀ e ∈ T ++ [((qn, qf), qv, qb)], e ∈ E := fun e he => by
      rcases List.mem_append.1 he with he | he
      · exact hlt e he
      · rw [List.mem_singleton.1 he]; exact hq
    have hle : (T ++ [((qn, qf), qv, qb)]).length ≤ E.length := by
      have h1 := sub_len (U := (T ++ [((qn, qf), qv, qb)]).map (entG keyF AV.str)) hw2 (fun e he => by
        obtain ⟨q', h1, rfl⟩ := List.mem_map.1 he
        exact hmE q' (hlt' q' h1)) hnd'
      rw [hE0, List.length_map, List.length_map] at h1
      exact h1
    rw [List.length_append, List.length_singleton] at hle
    (repeat (first | (refine K_ifT rfl rfl ?_) | (refine K_ifF rfl rfl ?_) | (refine K_ev nmd [] hng (by kernel_rfl) fun hf C S K hC1 hC hS hK => ?_; simp (disch := first | omega | assumption) only [go_sem, hd, Oid.not_under_sub u1, Oid.sub_not_under u1, Oid.not_under_sub u2, Oid.sub_not_under u2, Oid.not_under_sub u3, Oid.sub_not_under u3, Oid.not_under_sub u4, Oid.sub_not_under u4, Oid.not_under_sub u5, Oid.sub_not_under u5, Oid.not_under_sub u6, Oid.sub_not_under u6, of_put_at, AV.cells, hd7]; refine hK ?_; clear hK hS hC hC1 K S C hf) | ((first | refine zn ?_ | refine ze ?_ | refine zk ?_); with_reducible (constructor; repeat constructor); try refine zl ?_)))
    obtain ⟨T2, hT2⟩ : ∃ T2, T2 = T ++ [((qn, qf), qv, qb)] := ⟨_, rfl⟩
    rw [← hT2] at hnd' hlt'
    have h1 : (T2.map (entG keyF AV.str)).map ME.born = (T.map (entG keyF AV.str)).map ME.born ++ [qb] := by rw [hT2]; simp [entG]
    have h2 : (T2.map prj).map tchAV = (T.map prj).map tchAV ++ [.agg [.str qn, .bool qf, .str qv]] := by rw [hT2]; simp [prj, tchAV]
    have h3 : T2.length = T.length + 1 := by rw [hT2]; simp
    refine ⟨_, Mem.of [(st, .cells [.map t, .ptr tr 0]), (t, .map [.ss] false es clock), (tr, .cells [.map o, .map rd, .map wr]), (o, .map [.ss] false eso co), (rd, .map [.ss, .sb] true esr cr), (wr, .map [.ss] false esw cw), (.sub 2 7 x.p, .iter (some rd) cr ((T2.map (entG keyF AV.str)).map ME.born) cr), (.sub (c + 1 + 1) 8 x.p, .arr 3 ((T2.map prj).map tchAV))], ?_, mem_sub ?_, c + 1 + 1 + 1, c + 1 + 1, 8, T2, ?_, rfl, by omega, by omega, hnd', hlt'⟩
    · omega
    · rw [h1, h2]
      simp only [fa_cons, fa_nil, Mem.of_cons_at, Mem.of_nil_at, Mem.of_upds, Mem.of_putL, putLs, putL, List.cons_append, List.nil_append, List.append_nil, ↓reduceIte, eq_self, and_true, true_and, and_self, and_false, false_and, reduceCtorEq, Oid.sub.injEq, Nat.reduceEqDiff, hd, Oid.not_under_sub u1, Oid.sub_not_under u1, Oid.not_under_sub u2, Oid.sub_not_under u2, Oid.not_under_sub u3, Oid.sub_not_under u3, Oid.not_under_sub u4, Oid.sub_not_under u4, Oid.not_under_sub u5, Oid.sub_not_under u5, Oid.not_under_sub u6, Oid.sub_not_under u6]
    · rw [h3]; rfl
  · have hfull := seen_perm hw2 (S := T.map (entG keyF AV.str)) (fun e he => by
      obtain ⟨q', h1, rfl⟩ := List.mem_map.1 he
      exact hmE q' (hlt q' h1)) hnd fun e he => hall e he (hw1 e he).2
    have hTp : (T.map prj).Perm R := by
      have h1 := hfull.map decT3
      rw [decT3_map, hE0, decT3_map] at h1
      exact h1.trans hE
    have hlm : T.length = (T.map prj).length := by simp
    simp (disch := first | omega | assumption) only [go_sem, hd, Oid.not_under_sub u1, Oid.sub_not_under u1, Oid.not_under_sub u2, Oid.sub_not_under u2, Oid.not_under_sub u3, Oid.sub_not_under u3, Oid.not_under_sub u4, Oid.sub_not_under u4, Oid.not_under_sub u5, Oid.sub_not_under u5, Oid.not_under_sub u6, Oid.sub_not_under u6, of_put_at]
    refine hK ?_; clear hK hS hC hC1 K S C hf
    (repeat (first | (refine K_ifT rfl rfl ?_) | (refine K_ifF rfl rfl ?_) | (refine K_ev nmd [] hng (by kernel_rfl) fun hf C S K hC1 hC hS hK => ?_; simp (disch := first | omega | assumption) only [go_sem]; refine hK ?_; clear hK hS hC hC1 K S C hf) | ((first | refine zn ?_ | refine ze ?_ | refine zk ?_); with_reducible (constructor; repeat constructor); try refine zl ?_)))
    refine K_mem [(st, .cells [.map t, .ptr tr 0]), (t, .map [.ss] false es clock), (tr, .cells [.map o, .map rd, .map wr]), (o, .map [.ss] false eso co), (rd, .map [.ss, .sb] true esr cr), (wr, .map [.ss] false esw cw), (.sub d j x.p, .arr 3 ((T.map prj).map tchAV))] (by simp only [fa_cons, fa_nil, Mem.of_cons_at, Mem.of_nil_at, Mem.of_upds, Mem.of_putL, putLs, putL, List.cons_append, List.nil_append, List.append_nil, ↓reduceIte, eq_self, and_true, true_and, and_self, and_false, false_and, reduceCtorEq, Oid.sub.injEq, Nat.reduceEqDiff, hd, Oid.not_under_sub u1, Oid.sub_not_under u1, Oid.not_under_sub u2, Oid.sub_not_under u2, Oid.not_under_sub u3, Oid.sub_not_under u3, Oid.not_under_sub u4, Oid.sub_not_under u4, Oid.not_under_sub u5, Oid.sub_not_under u5, Oid.not_under_sub u6, Oid.sub_not_under u6, hd7]) ?_
    rw [hlm]
    generalize T.map prj = l at hTp
    refine K_cut [0, 2, 3] (fun s' => ∃ c2 : Nat, s' = ⟨[(0, .ptr st 0), (2, .sl (.sub d j x.p) 3 R.length), (3, .nilSl)], Mem.of [(st, .cells [.map t, .ptr tr 0]), (t, .map [.ss] false es clock), (tr, .cells [.map o, .map rd, .map wr]), (o, .map [.ss] false eso co), (rd, .map [.ss, .sb] true esr cr), (wr, .map [.ss] false esw cw), (.sub d j x.p, .arr 3 (R.map tchAV))], c2, []⟩ ∧ d < c2) ?_ ?_
    · by_cases hl0 : l = []
      · subst hl0
        obtain rfl : R = [] := List.nil_perm.1 hTp
        refine K_ev nmd [] hng (by kernel_rfl) fun hf C S K hC1 hC hS hK => ?_; simp (disch := first | omega | assumption) only [go_sem, List.length_nil, List.map_nil]
        refine hC1 _ (sort0_ok (.sub d j x.p) _ _) (by simp (disch := first | omega | assumption) only [go_sem]) ?_
        simp (disch := first | omega | assumption) only [go_sem, hd, Oid.not_under_sub u1, Oid.sub_not_under u1, Oid.not_under_sub u2, Oid.sub_not_under u2, Oid.not_under_sub u3, Oid.sub_not_under u3, Oid.not_under_sub u4, Oid.sub_not_under u4, Oid.not_under_sub u5, Oid.sub_not_under u5, Oid.not_under_sub u6, Oid.sub_not_under u6, of_put_at]
        refine hK ?_; clear hK hS hC hC1 K S C hf
        exact K_cutN ⟨_, rfl, by omega⟩
      · refine K_ev nmd [] hng (by kernel_rfl) fun hf C S K hC1 hC hS hK => ?_; simp (disch := first | omega | assumption) only [go_sem]
        refine hC _ _ _ (sort_tch l hl0 (by have := hTp.length_eq; omega) (.sub d j x.p) _) ?_ ?_ (fun _ _ h => h.elim)
        · simp only [fa_cons, fa_nil, Mem.of_cons_at, Mem.of_nil_at, Mem.of_upds, Mem.of_putL, putLs, putL, List.cons_append, List.nil_append, List.append_nil, ↓reduceIte, eq_self, and_true, true_and, and_self, and_false, false_and, reduceCtorEq, Oid.sub.injEq, Nat.reduceEqDiff, hd, Oid.not_under_sub u1, Oid.sub_not_under u1, Oid.not_under_sub u2, Oid.sub_not_under u2, Oid.not_under_sub u3, Oid.sub_not_under u3, Oid.not_under_sub u4, Oid.sub_not_under u4, Oid.not_under_sub u5, Oid.sub_not_under u5, Oid.not_under_sub u6, Oid.sub_not_under u6]
        rintro val upd ⟨rfl, l', hp', hs', rfl⟩
        obtain rfl : l' = R := rank_sorted (hp'.trans hTp) hR hs'
        rw [hTp.length_eq]
        simp (disch := first | omega | assumption) only [go_sem, hd, Oid.not_under_sub u1, Oid.sub_not_under u1, Oid.not_under_sub u2, Oid.sub_not_under u2, Oid.not_under_sub u3, Oid.sub_not_under u3, Oid.not_under_sub u4, Oid.sub_not_under u4, Oid.not_under_sub u5, Oid.sub_not_under u5, Oid.not_under_sub u6, Oid.sub_not_under u6, of_put_at]
        refine hK ?_; clear hK hS hC hC1 K S C hf
        exact K_cutN ⟨_, rfl, by omega⟩
    rintro s' ⟨c2, rfl, hdc2⟩
    refine K_freeze (.sub d j x.p) 3 (R.map tchAV) (by simp (disch := first | omega | assumption) only [go_sem, hd, Oid.not_under_sub u1, Oid.sub_not_under u1, Oid.not_under_sub u2, Oid.sub_not_under u2, Oid.not_under_sub u3, Oid.sub_not_under u3, Oid.not_under_sub u4, Oid.sub_not_under u4, Oid.not_under_sub u5, Oid.sub_not_under u5, Oid.not_under_sub u6, Oid.sub_not_under u6]) ?_
    refine K_void 3 3 (by simp (disch := first | omega | assumption) only [go_sem]) ?_
    simp (disch := first | omega | assumption) only [go_sem, hd, Oid.not_under_sub u1, Oid.sub_not_under u1, Oid.not_under_sub u2, Oid.sub_not_under u2, Oid.not_under_sub u3, Oid.sub_not_under u3, Oid.not_under_sub u4, Oid.sub_not_under u4, Oid.not_under_sub u5, Oid.sub_not_under u5, Oid.not_under_sub u6, Oid.sub_not_under u6, List.length_map]
    have u6' : ∀ c i, ¬ Oid.under (.sub c i x.p) wr := fun c i h => u6 (Oid.under_sub h)
    have u2' : ∀ c i, ¬ Oid.under (.sub c i x.p) t := fun c i h => u2 (Oid.under_sub h)
    have v1 : ¬ Oid.under (.sub (c2 + 1) 7 x.p) st := fun h => u1 (Oid.under_sub h)
    have v2 : ¬ Oid.under (.sub (c2 + 1) 7 x.p) t := fun h => u2 (Oid.under_sub h)
    have v3 : ¬ Oid.under (.sub (c2 + 1) 7 x.p) tr := fun h => u3 (Oid.under_sub h)
    have v4 : ¬ Oid.under (.sub (c2 + 1) 7 x.p) o := fun h => u4 (Oid.under_sub h)
    have v5 : ¬ Oid.under (.sub (c2 + 1) 7 x.p) rd := fun h => u5 (Oid.under_sub h)
    have v6 : ¬ Oid.under (.sub (c2 + 1) 7 x.p) wr := fun h => u6 (Oid.under_sub h)
    have hcc1 : (Oid.sub 0 0 (.sub (c2 + 1) 7 x.p) = .sub c2 0 x.p) = False := eq_false fun h => by
      have := congrArg Oid.depth h; simp only [Oid.depth] at this; omega
    have hu12 : Oid.under (.sub (c2 + 1) 7 x.p) (.sub 0 0 (.sub (c2 + 1) 7 x.p)) := Oid.under_sub (Oid.under_refl _)
    have hapt : ∀ p', Oid.under (.sub (c2 + 1) 8 x.p) p' → ¬ Oid.under p' (.sub 0 0 (.sub (c2 + 1) 7 x.p)) := fun p' h h2 => by
      have := (Oid.apart (Oid.under_trans h h2) hu12).2
      omega
    have hwl : esw.length = W.length := by obtain ⟨E2, rfl, hE2, _⟩ := hm4; rw [List.length_map, ← hE2.length_eq, List.length_map]
    have hks := keysW_eq hm4 hW
    (try ((first | refine zn ?_ | refine ze ?_ | refine zk ?_); with_reducible (constructor; repeat constructor)); try refine zl ?_)
    refine K_ev nmd [] hng (by kernel_rfl) fun hf C S K hC1 hC hS hK => ?_; simp (disch := first | omega | assumption) only [go_sem, hd, Oid.not_under_sub u1, Oid.sub_not_under u1, Oid.not_under_sub u2, Oid.sub_not_under u2, Oid.not_under_sub u3, Oid.sub_not_under u3, Oid.not_under_sub u4, Oid.sub_not_under u4, Oid.not_under_sub u5, Oid.sub_not_under u5, Oid.not_under_sub u6, Oid.sub_not_under u6]
    refine hC1 _ (keysW_ok wr _ (u6' _ _)) (by simp (disch := first | omega | assumption) only [go_sem]) ?_
    simp (disch := first | omega | assumption) only [go_sem, hd, Oid.not_under_sub u1, Oid.sub_not_under u1, Oid.not_under_sub u2, Oid.sub_not_under u2, Oid.not_under_sub u3, Oid.sub_not_under u3, Oid.not_under_sub u4, Oid.sub_not_under u4, Oid.not_under_sub u5, Oid.sub_not_under u5, Oid.not_under_sub u6, Oid.sub_not_under u6, Oid.not_under_sub v1, Oid.sub_not_under v1, Oid.not_under_sub v2, Oid.sub_not_under v2, Oid.not_under_sub v3, Oid.sub_not_under v3, Oid.not_under_sub v4, Oid.sub_not_under v4, Oid.not_under_sub v5, Oid.sub_not_under v5, Oid.not_under_sub v6, Oid.sub_not_under v6, Oid.sub.injEq, hcc1]
    refine hC1 _ (sorted_ok 119 [.ptr (.sub 0 0 (.sub (c2 + 1) 7 x.p)) 0] [(.sub 0 0 (.sub (c2 + 1) 7 x.p), .cells [.map wr]), (wr, .map [.ss] false esw cw)] esw.length (esw.map keyS) _ (by omega) (by simp) _ ?_ ?_
      (fun p' hp => keysW_seq (.sub 0 0 (.sub (c2 + 1) 7 x.p)) wr esw cw p' ?_ ?_ ?_) ?_) ?_ ?_
    · intro q hq
      simp only [List.mem_cons, List.not_mem_nil, or_false] at hq
      rcases hq with rfl | rfl
      · exact hapt _ (Oid.under_refl _)
      · exact u6' _ _
    · intro q hq
      simp only [List.mem_cons, List.not_mem_nil, or_false] at hq
      rcases hq with rfl | rfl <;> (intro sz xs e; cases e)
    · exact fun e => u6 (e ▸ Oid.under_sub hu12)
    · exact hapt _ hp
    · exact fun h => u6 (Oid.under_sub (Oid.under_trans hp h))
    · intro l hl
      obtain ⟨U, h1, h2⟩ := hl rfl
      have h3 : l = U.map keyS := str_inj (by rw [h2, List.map_map]; rfl)
      rw [h3]
      exact h1.map _
    · simp only [fa_cons, fa_nil, Mem.of_cons_at, Mem.of_nil_at, Mem.of_upds, Mem.of_putL, putLs, putL, List.cons_append, List.nil_append, List.append_nil, ↓reduceIte, eq_self, and_true, true_and, and_self, and_false, false_and, reduceCtorEq, Oid.sub.injEq, Nat.reduceEqDiff, hd, Oid.not_under_sub u1, Oid.sub_not_under u1, Oid.not_under_sub u2, Oid.sub_not_under u2, Oid.not_under_sub u3, Oid.sub_not_under u3, Oid.not_under_sub u4, Oid.sub_not_under u4, Oid.not_under_sub u5, Oid.sub_not_under u5, Oid.not_under_sub u6, Oid.sub_not_under u6, Oid.not_under_sub v1, Oid.sub_not_under v1, Oid.not_under_sub v2, Oid.sub_not_under v2, Oid.not_under_sub v3, Oid.sub_not_under v3, Oid.not_under_sub v4, Oid.sub_not_under v4, Oid.not_under_sub v5, Oid.sub_not_under v5, Oid.not_under_sub v6, Oid.sub_not_under v6, Oid.sub.injEq, hcc1]
    rw [hks, show (W.map (·.1)).map AV.str = W.map fun w => AV.str w.1 by rw [List.map_map]; rfl]
    simp (disch := first | omega | assumption) only [go_sem, hd, Oid.not_under_sub u1, Oid.sub_not_under u1, Oid.not_under_sub u2, Oid.sub_not_under u2, Oid.not_under_sub u3, Oid.sub_not_under u3, Oid.not_under_sub u4, Oid.sub_not_under u4, Oid.not_under_sub u5, Oid.sub_not_under u5, Oid.not_under_sub u6, Oid.sub_not_under u6, List.length_map]
    refine hK ?_; clear hK hS hC hC1 K S C hf
    (try ((first | refine zn ?_ | refine ze ?_ | refine zk ?_); with_reducible (constructor; repeat constructor)); try refine zl ?_)
    refine K_mem [(st, .cells [.map t, .ptr tr 0]), (t, .map [.ss] false es clock), (tr, .cells [.map o, .map rd, .map wr]), (o, .map [.ss] false eso co), (rd, .map [.ss, .sb] true esr cr), (wr, .map [.ss] false esw cw), (.sub c2 0 x.p, .arr 3 [])] (by simp only [fa_cons, fa_nil, Mem.of_cons_at, Mem.of_nil_at, Mem.of_upds, Mem.of_putL, putLs, putL, List.cons_append, List.nil_append, List.append_nil, ↓reduceIte, eq_self, and_true, true_and, and_self, and_false, false_and, reduceCtorEq, Oid.sub.injEq, Nat.reduceEqDiff, hd, Oid.not_under_sub u1, Oid.sub_not_under u1, Oid.not_under_sub u2, Oid.sub_not_under u2, Oid.not_under_sub u3, Oid.sub_not_under u3, Oid.not_under_sub u4, Oid.sub_not_under u4, Oid.not_under_sub u5, Oid.sub_not_under u5, Oid.not_under_sub u6, Oid.sub_not_under u6, Oid.not_under_sub v1, Oid.sub_not_under v1, Oid.not_under_sub v2, Oid.sub_not_under v2, Oid.not_under_sub v3, Oid.sub_not_under v3, Oid.not_under_sub v4, Oid.sub_not_under v4, Oid.not_under_sub v5, Oid.sub_not_under v5, Oid.not_under_sub v6, Oid.sub_not_under v6, Oid.sub.injEq, hcc1]) ?_
    obtain ⟨g, hg⟩ : ∃ g : Str × Unit → AV, g = fun w => tchAV ((w.1, false), valT (getP L w.1)) := ⟨_, rfl⟩
    rw [← hg]
    refine K_loop [0, 2, 3, 45, 46, 47] (fun k s' => ∃ (i d j c : Nat), s' = ⟨[(0, .ptr st 0), (2, .list 3 (R.map tchAV)), (3, .sl (.sub d j x.p) 3 i), (45, .list 1 (W.map fun w => .str w.1)), (46, .int .i64 (W.length : Nat)), (47, .int .i64 i)], Mem.of [(st, .cells [.map t, .ptr tr 0]), (t, .map [.ss] false es clock), (tr, .cells [.map o, .map rd, .map wr]), (o, .map [.ss] false eso co), (rd, .map [.ss, .sb] true esr cr), (wr, .map [.ss] false esw cw), (.sub d j x.p, .arr 3 ((W.take i).map g))], c, []⟩ ∧ k = W.length - i ∧ i ≤ W.length ∧ d < c) _ ⟨0, c2, 0, c2 + 1 + 1, rfl, rfl, by omega, by omega⟩ ?_
    rintro k s' ⟨i, d', j', c', rfl, rfl, hi, hdc'⟩
    (repeat (first | (refine K_ifT rfl rfl ?_) | (refine K_ifF rfl rfl ?_) | (refine K_ev nmd [] hng (by kernel_rfl) fun hf C S K hC1 hC hS hK => ?_; simp (disch := first | omega | assumption) only [go_sem]; refine hK ?_; clear hK hS hC hC1 K S C hf) | ((first | refine zn ?_ | refine ze ?_ | refine zk ?_); with_reducible (constructor; repeat constructor); try refine zl ?_)))
    refine K_ifd rfl rfl (fun hb => ?_) (fun hb => ?_)
    · have hl : i < W.length := by omega
      have hts := take_map_snoc g hl
      have hti : ((W.take i).map g).length = i := by rw [List.length_map, List.length_take]; omega
      generalize hq : W.getD i default = q at hts
      obtain ⟨qn, qu⟩ := q
      have hat := fun p h => at_ok t t es clock p h h qn ((lookG qn L).getD Bits.no) (mapP_val hm1 qn)
      have hgp : (if qn = [] then (⟨2, 7, []⟩ : Bits) else (lookG qn L).getD Bits.no) = getP L qn := rfl
      rw [hgp] at hat
      have hval := fun p hp => value_ok (getP L qn) (getP_ok ho1 qn) p hp
      have hgq : g (qn, qu) = .agg [.str qn, .bool false, .str (valT (getP L qn))] := by rw [hg]; rfl
      rw [hgq] at hts
      generalize getP L qn = B at hat hval hts
      simp only [Bits.av] at hat hval
      (try ((first | refine zn ?_ | refine ze ?_ | refine zk ?_); with_reducible (constructor; repeat constructor)); try refine zl ?_)
      refine K_ev nmd [] hng (by kernel_rfl) fun hf C S K hC1 hC hS hK => ?_; simp (disch := first | omega | assumption) only [go_sem, hd, Oid.not_under_sub u1, Oid.sub_not_under u1, Oid.not_under_sub u2, Oid.sub_not_under u2, Oid.not_under_sub u3, Oid.sub_not_under u3, Oid.not_under_sub u4, Oid.sub_not_under u4, Oid.not_under_sub u5, Oid.sub_not_under u5, Oid.not_under_sub u6, Oid.sub_not_under u6, hq, AV.cells]
      refine hK ?_; clear hK hS hC hC1 K S C hf
      (try ((first | refine zn ?_ | refine ze ?_ | refine zk ?_); with_reducible (constructor; repeat constructor)); try refine zl ?_)
      refine K_ev nmd [] hng (by kernel_rfl) fun hf C S K hC1 hC hS hK => ?_; simp (disch := first | omega | assumption) only [go_sem, hd, Oid.not_under_sub u1, Oid.sub_not_under u1, Oid.not_under_sub u2, Oid.sub_not_under u2, Oid.not_under_sub u3, Oid.sub_not_under u3, Oid.not_under_sub u4, Oid.sub_not_under u4, Oid.not_under_sub u5, Oid.sub_not_under u5, Oid.not_under_sub u6, Oid.sub_not_under u6, AV.cells]
      refine hC1 _ (hat _ (u2' _ _)) (by simp (disch := first | omega | assumption) only [go_sem, hd, Oid.not_under_sub u1, Oid.sub_not_under u1, Oid.not_under_sub u2, Oid.sub_not_under u2, Oid.not_under_sub u3, Oid.sub_not_under u3, Oid.not_under_sub u4, Oid.sub_not_under u4, Oid.not_under_sub u5, Oid.sub_not_under u5, Oid.not_under_sub u6, Oid.sub_not_under u6]) ?_
      simp (disch := first | omega | assumption) only [go_sem, hd, Oid.not_under_sub u1, Oid.sub_not_under u1, Oid.not_under_sub u2, Oid.sub_not_under u2, Oid.not_under_sub u3, Oid.sub_not_under u3, Oid.not_under_sub u4, Oid.sub_not_under u4, Oid.not_under_sub u5, Oid.sub_not_under u5, Oid.not_under_sub u6, Oid.sub_not_under u6, AV.cells]
      refine hC1 _ (hval _ (mono_sub' rfl hp)) (by simp (disch := first | omega | assumption) only [go_sem, hd, Oid.not_under_sub u1, Oid.sub_not_under u1, Oid.not_under_sub u2, Oid.sub_not_under u2, Oid.not_under_sub u3, Oid.sub_not_under u3, Oid.not_under_sub u4, Oid.sub_not_under u4, Oid.not_under_sub u5, Oid.sub_not_under u5, Oid.not_under_sub u6, Oid.sub_not_under u6]) ?_
      simp (disch := first | omega | assumption) only [go_sem, hd, Oid.not_under_sub u1, Oid.sub_not_under u1, Oid.not_under_sub u2, Oid.sub_not_under u2, Oid.not_under_sub u3, Oid.sub_not_under u3, Oid.not_under_sub u4, Oid.sub_not_under u4, Oid.not_under_sub u5, Oid.sub_not_under u5, Oid.not_under_sub u6, Oid.sub_not_under u6, AV.cells]
      refine hK ?_; clear hK hS hC hC1 K S C hf
      (repeat (first | (refine K_ifT rfl rfl ?_) | (refine K_ifF rfl rfl ?_) | (refine K_ev nmd [] hng (by kernel_rfl) fun hf C S K hC1 hC hS hK => ?_; simp (disch := first | omega | assumption) only [go_sem]; refine hK ?_; clear hK hS hC hC1 K S C hf) | ((first | refine zn ?_ | refine ze ?_ | refine zk ?_); with_reducible (constructor; repeat constructor); try refine zl ?_)))
      refine ⟨_, Mem.of [(st, .cells [.map t, .ptr tr 0]), (t, .map [.ss] false es clock), (tr, .cells [.map o, .map rd, .map wr]), (o, .map [.ss] false eso co), (rd, .map [.ss, .sb] true esr cr), (wr, .map [.ss] false esw cw), (.sub (c' + 1 + 1) 11 x.p, .arr 3 ((W.take (i + 1)).map g))], ?_, mem_sub ?_, i + 1, c' + 1 + 1, 11, c' + 1 + 1 + 1 + 1, ?_, rfl, by omega, by omega⟩
      · omega
      · rw [hts]
        simp only [fa_cons, fa_nil, Mem.of_cons_at, Mem.of_nil_at, Mem.of_upds, Mem.of_putL, putLs, putL, List.cons_append, List.nil_append, List.append_nil, ↓reduceIte, eq_self, and_true, true_and, and_self, and_false, false_and, reduceCtorEq, Oid.sub.injEq, Nat.reduceEqDiff, hd, Oid.not_under_sub u1, Oid.sub_not_under u1, Oid.not_under_sub u2, Oid.sub_not_under u2, Oid.not_under_sub u3, Oid.sub_not_under u3, Oid.not_under_sub u4, Oid.sub_not_under u4, Oid.not_under_sub u5, Oid.sub_not_under u5, Oid.not_under_sub u6, Oid.sub_not_under u6]
      · rfl
    · obtain rfl : i = W.length := by omega
      rw [List.take_length]
      (repeat (first | (refine K_ifT rfl rfl ?_) | (refine K_ifF rfl rfl ?_) | (refine K_ev nmd [] hng (by kernel_rfl) fun hf C S K hC1 hC hS hK => ?_; simp (disch := first | omega | assumption) only [go_sem, hd, Oid.not_under_sub u1, Oid.sub_not_under u1, Oid.not_under_sub u2, Oid.sub_not_under u2, Oid.not_under_sub u3, Oid.sub_not_under u3, Oid.not_under_sub u4, Oid.sub_not_under u4, Oid.not_under_sub u5, Oid.sub_not_under u5, Oid.not_under_sub u6, Oid.sub_not_under u6]; refine hK ?_; clear hK hS hC hC1 K S C hf) | ((first | refine zn ?_ | refine ze ?_ | refine zk ?_); with_reducible (constructor; repeat constructor); try refine zl ?_)))
      refine K_freeze (.sub d' j' x.p) 3 (W.map g) (by simp (disch := first | omega | assumption) only [go_sem, hd, Oid.not_under_sub u1, Oid.sub_not_under u1, Oid.not_under_sub u2, Oid.sub_not_under u2, Oid.not_under_sub u3, Oid.sub_not_under u3, Oid.not_under_sub u4, Oid.sub_not_under u4, Oid.not_under_sub u5, Oid.sub_not_under u5, Oid.not_under_sub u6, Oid.sub_not_under u6]) ?_
      simp (disch := first | omega | assumption) only [go_sem, hd, Oid.not_under_sub u1, Oid.sub_not_under u1, Oid.not_under_sub u2, Oid.sub_not_under u2, Oid.not_under_sub u3, Oid.sub_not_under u3, Oid.not_under_sub u4, Oid.sub_not_under u4, Oid.not_under_sub u5, Oid.sub_not_under u5, Oid.not_under_sub u6, Oid.sub_not_under u6, List.length_map]
      refine K_ret (done_upd (by simp (disch := first | omega | assumption) only [go_sem, List.length_map]) ?_ ?_)
      all_goals simp only [List.mem_cons, List.not_mem_nil, or_false, forall_eq_or_imp, forall_eq, Option.some.injEq, forall_eq', Mem.of_cons_at, eq_self, if_true, ↓reduceIte, reduceCtorEq, implies_true, not_true_eq_false, false_imp_iff, true_and, and_true, false_and, and_false, imp_self, hd, Oid.not_under_sub u1, Oid.sub_not_under u1, Oid.not_under_sub u2, Oid.sub_not_under u2, Oid.not_under_sub u3, Oid.sub_not_under u3, Oid.not_under_sub u4, Oid.sub_not_under u4, Oid.not_under_sub u5, Oid.sub_not_under u5, Oid.not_under_sub u6, Oid.sub_not_under u6]
end
end Go.Proofs.YtaecbmbecofijaaGreatDoor
namespace Go.Proofs.YtaecbmbecofijaaGreatDoor
open Go Go.Ab
set_option maxRecDepth 20000
set_option maxHeartbeats 4000000
def St.halt (s : St) : St := ⟨s.L, none⟩
/-- What End tells. -/
def St.reads (s : St) : List Tch := match s.t with | none => [] | some q => q.R
def St.writes (s : St) : List Tch := match s.t with | none => [] | some q => q.W.map fun w => ((w.1, false), valT (getP s.L w.1))
theorem SOK.begin {s : St} (h : SOK s) : SOK s.begin := ⟨h.sl, h.po, h.no, fun q hq => by
  simp only [St.begin, Option.some.injEq] at hq
  subst hq
  exact ⟨h.sl, List.Pairwise.nil, List.Pairwise.nil, h.po, h.no⟩⟩
theorem SOK.halt {s : St} (h : SOK s) : SOK s.halt := ⟨h.sl, h.po, h.no, fun q hq => by cases hq⟩
/-- What the store's own two objects are, noting or not. -/
theorem stoP_core {st : Oid} {s : St} {N : List Oid} {F : Oid → AObj} (h : StoP st s N F) : ∃ (t : Oid) (tv : AV) (es : List ME) (clock : Nat), st ∈ N ∧ t ∈ N ∧ ¬ t = st ∧ F st = .cells [.map t, tv] ∧ F t = .map [.ss] false es clock ∧ MapP es s.L := by
  obtain ⟨L, t0⟩ := s
  obtain ⟨hnd, h⟩ := h
  cases t0 with
  | none =>
    obtain ⟨t, es, clock, rfl, k1, k2, k3⟩ := h
    exact ⟨t, _, es, clock, by simp, by simp, fun e => by simp [e] at hnd, k1, k2, k3⟩
  | some q =>
    obtain ⟨t, tr, o, rd, wr, es, eso, esr, esw, clock, co, cr, cw, rfl, k1, k2, k3, k4, k5, k6, m1, m2, m3, m4⟩ := h
    exact ⟨t, _, es, clock, by simp, by simp, fun e => by simp [e] at hnd, k1, k2, m1⟩
def lookF : List (Oid × AObj) → Oid → AObj
  | [], _ => .dfr
  | q :: l, i => if i = q.1 then q.2 else lookF l i
theorem beginP_ok {st : Oid} {s : St} {N : List Oid} {F : Oid → AObj} (h : StoP st s N F) (p : Oid) (ho : Old0 p N) :
    ∃ N' F', StoP st s.begin N' F' ∧ (∀ i ∈ N', i ∈ N ∨ Oid.under p i) ∧ CallOK Tryz.prog 23 [.ptr st 0] (Oid.under p) ⟨bk (N, F), .tuple [], sbx N' F'⟩ := by
  obtain ⟨t, tv, es, clock, h1, h2, hts, k1, k2, k3⟩ := stoP_core h
  have hs := ho st h1
  have ht := ho t h2
  have hc := begin_ok st t tv es clock hts p hs ht
  have e1 : ∀ c i, ¬ st = .sub c i p := fun c i e => hs (e ▸ Oid.under_sub (Oid.under_refl _))
  have e2 : ∀ c i, ¬ t = .sub c i p := fun c i e => ht (e ▸ Oid.under_sub (Oid.under_refl _))
  have e3 : ¬ st = .sub 0 0 (.sub 0 5 p) := fun e => hs (e ▸ Oid.under_sub (Oid.under_sub (Oid.under_refl _)))
  have e4 : ¬ t = .sub 0 0 (.sub 0 5 p) := fun e => ht (e ▸ Oid.under_sub (Oid.under_sub (Oid.under_refl _)))
  have e5 : ∀ c i, ¬ Oid.sub 0 0 (.sub 0 5 p) = .sub c i p := fun c i e => by have := congrArg Oid.depth e; simp only [Oid.depth] at this; omega
  have e1' : ∀ c i, ¬ Oid.sub c i p = st := fun c i e => e1 c i e.symm
  have e2' : ∀ c i, ¬ Oid.sub c i p = t := fun c i e => e2 c i e.symm
  have e3' : ¬ Oid.sub 0 0 (.sub 0 5 p) = st := fun e => e3 e.symm
  have e4' : ¬ Oid.sub 0 0 (.sub 0 5 p) = t := fun e => e4 e.symm
  have est : ¬ st = t := fun e => hts e.symm
  have e6 : ∀ c i, ¬ .sub c i p = Oid.sub 0 0 (.sub 0 5 p) := fun c i e => e5 c i e.symm
  refine ⟨[st, t, .sub 0 9 p, .sub 0 0 (.sub 0 5 p), .sub 0 6 p, .sub 0 7 p], lookF [(st, .cells [.map t, .ptr (.sub 0 9 p) 0]), (t, .map [.ss] false es clock), (.sub 0 9 p, .cells [.map (.sub 0 0 (.sub 0 5 p)), .map (.sub 0 6 p), .map (.sub 0 7 p)]), (.sub 0 0 (.sub 0 5 p), .map [.ss] false es clock), (.sub 0 6 p, .map [.ss, .sb] true [] 0), (.sub 0 7 p, .map [.ss] false [] 0)], ⟨?_, t, .sub 0 9 p, .sub 0 0 (.sub 0 5 p), .sub 0 6 p, .sub 0 7 p, es, es, [], [], clock, clock, 0, 0, rfl, ?_, ?_, ?_, ?_, ?_, ?_, k3, k3, mapG_new, mapG_new⟩, ?_, ?_⟩
  · simp [e1, e2, e3, e4, e5, e6, est]
  · simp [lookF]
  · simp [lookF, hts]
  · simp [lookF, e1', e2']
  · simp [lookF, e3', e4', e5]
  · simp [lookF, e1', e2', e6]
  · simp [lookF, e1', e2', e6]
  · intro i hi
    simp only [List.mem_cons, List.not_mem_nil, or_false] at hi
    rcases hi with rfl | rfl | rfl | rfl | rfl | rfl
    · exact .inl h1
    · exact .inl h2
    · exact .inr (Oid.under_sub (Oid.under_refl _))
    · exact .inr (Oid.under_sub (Oid.under_sub (Oid.under_refl _)))
    · exact .inr (Oid.under_sub (Oid.under_refl _))
    · exact .inr (Oid.under_sub (Oid.under_refl _))
  · refine hc.toBx ?_ ?_ ?_ ?_
    · intro q hq
      simp only [List.mem_cons, List.not_mem_nil, or_false] at hq
      rcases hq with rfl | rfl
      · exact mem_bk.2 ⟨h1, k1.symm⟩
      · exact mem_bk.2 ⟨h2, k2.symm⟩
    · intro q hq
      simp only [List.mem_cons, List.not_mem_nil, or_false] at hq
      rcases hq with rfl | rfl | rfl | rfl | rfl <;> simp
    · intro i hi
      simp only [List.mem_cons, List.not_mem_nil, or_false] at hi
      rcases hi with rfl | rfl | rfl | rfl | rfl | rfl
      · exact .inl h1
      · exact .inl h2
      · exact .inr ⟨_, List.mem_cons_of_mem _ List.mem_cons_self, rfl⟩
      · exact .inr ⟨_, List.mem_cons_of_mem _ (List.mem_cons_of_mem _ List.mem_cons_self), rfl⟩
      · exact .inr ⟨_, List.mem_cons_of_mem _ (List.mem_cons_of_mem _ (List.mem_cons_of_mem _ List.mem_cons_self)), rfl⟩
      · exact .inr ⟨_, List.mem_cons_of_mem _ (List.mem_cons_of_mem _ (List.mem_cons_of_mem _ (List.mem_cons_of_mem _ List.mem_cons_self))), rfl⟩
    · intro i hi
      have hbt := of_bk0 (F := F) h2
      simp only [List.mem_cons, List.not_mem_nil, or_false] at hi
      rcases hi with rfl | rfl | rfl | rfl | rfl | rfl
      · simp [Mem.upds, Mem.set, lookF, e1, e3]
      · simp [Mem.upds, Mem.set, lookF, e2, e4, hts, hbt, k2]
      · simp [Mem.upds, Mem.set, lookF, e6, e1', e2']
      · simp [Mem.upds, Mem.set, lookF, e5, e3', e4']
      · simp [Mem.upds, Mem.set, lookF, e6, e1', e2']
      · simp [Mem.upds, Mem.set, lookF, e6, e1', e2']
end Go.Proofs.YtaecbmbecofijaaGreatDoor
namespace Go.Proofs.YtaecbmbecofijaaGreatDoor
open Go Go.Ab
set_option maxRecDepth 20000
set_option maxHeartbeats 4000000
end Go.Proofs.YtaecbmbecofijaaGreatDoor
namespace Go.Proofs.YtaecbmbecofijaaGreatDoor
open Go Go.Ab
set_option maxRecDepth 20000
set_option maxHeartbeats 4000000
theorem end0_ok (st t : Oid) (p : Oid) (hs : ¬ Oid.under p st) : CallOK Tryz.prog 26 [.ptr st 0] (Oid.under p) ⟨[(st, .cells [.map t, .nilPtr])], .tuple [.list 3 [], .list 3 []], []⟩ := by
  refine fnOK (n := 69) (rs := [.tmp 2, .tmp 3]) Tryz.func26 rfl rfl (by decide) rfl rfl rfl ?_; rintro x rfl hrd hng
  (repeat (first | (refine K_ifT rfl rfl ?_) | (refine K_ifF rfl rfl ?_) | (refine K_ev nmd [] hng (by kernel_rfl) fun hf C S K hC1 hC hS hK => ?_; simp (disch := first | omega | assumption) only [go_sem, Oid.not_under_sub hs, Oid.sub_not_under hs]; refine hK ?_; clear hK hS hC hC1 K S C hf) | ((first | refine zn ?_ | refine ze ?_ | refine zk ?_); with_reducible (constructor; repeat constructor); try refine zl ?_)))
  refine K_nilList 2 3 (by simp (disch := first | omega | assumption) only [go_sem]) ?_
  refine K_nilList 3 3 (by simp (disch := first | omega | assumption) only [go_sem]) ?_
  refine K_ret (done_upd rfl ?_ ?_)
  all_goals simp only [List.mem_cons, List.not_mem_nil, or_false, forall_eq_or_imp, forall_eq, Option.some.injEq, forall_eq', Mem.of_cons_at, eq_self, if_true, ↓reduceIte, reduceCtorEq, implies_true, not_true_eq_false, false_imp_iff, true_and, and_true, false_and, and_false, imp_self, Oid.not_under_sub hs, Oid.sub_not_under hs]
theorem endP_ok {st : Oid} {s : St} {N : List Oid} {F : Oid → AObj} (h : StoP st s N F) (hs : SOK s) (hR : ∀ q, s.t = some q → q.R.length ≤ 1000000 ∧ q.W.length ≤ 1000000) :
    ∃ N' F', StoP st s.halt N' F' ∧ (∀ i ∈ N', i ∈ N) ∧ ∀ p, p.mono = false → Old0 p N → CallOK Tryz.prog 26 [.ptr st 0] (Oid.under p) ⟨bk (N, F), .tuple [.list 3 (s.reads.map tchAV), .list 3 (s.writes.map tchAV)], sbx N' F'⟩ := by
  obtain ⟨L, t0⟩ := s
  obtain ⟨hnd, h⟩ := h
  cases t0 with
  | none =>
    obtain ⟨t, es, clock, rfl, k1, k2, k3⟩ := h
    refine ⟨[st, t], F, ⟨hnd, t, es, clock, rfl, k1, k2, k3⟩, fun i hi => hi, fun p hp ho => ?_⟩
    refine CallOK.toBx (end0_ok st t p (ho _ (by simp))) (fun q hq => ?_) (fun q hq => by cases hq) (fun i hi => .inl hi) fun i hi => of_bk0 hi
    rw [List.mem_singleton.1 hq, bk2, k1]; exact List.mem_cons_self
  | some q =>
    obtain ⟨t, tr, o, rd, wr, es, eso, esr, esw, clock, co, cr, cw, rfl, k1, k2, k3, k4, k5, k6, m1, m2, m3, m4⟩ := h
    have hT := hs.tr q rfl
    obtain ⟨hR1, hW1⟩ := hR q rfl
    have hnd' : [wr, rd, o, tr, t, st].Nodup := (List.reverse_perm [st, t, tr, o, rd, wr]).nodup_iff.2 hnd
    have hts : ¬ t = st := fun e => by simp [e] at hnd
    have est : ¬ st = t := fun e => hts e.symm
    refine ⟨[st, t], setF F st (.cells [.map t, .nilPtr]), ⟨by simp [est], t, es, clock, rfl, by rw [setF_at, if_pos rfl], by rw [setF_at, if_neg hts]; exact k2, m1⟩, fun i hi => by
      simp only [List.mem_cons, List.not_mem_nil, or_false] at hi
      rcases hi with rfl | rfl <;> simp, fun p hp ho => ?_⟩
    have hc := endT_ok st t tr o rd wr hnd' es eso esr esw clock co cr cw L q.R q.W m3 hT.sr hR1 m4 hT.sw hW1 m1 hs.po hs.no p hp ho
    have hw : (q.W.map fun w => tchAV ((w.1, false), valT (getP L w.1))) = ((⟨L, some q⟩ : St).writes.map tchAV) := by
      simp only [St.writes, List.map_map]; rfl
    rw [hw] at hc
    refine CallOK.toBx hc ?_ (fun q hq => by rw [List.mem_singleton.1 hq]; simp) (fun i hi => by
      simp only [List.mem_cons, List.not_mem_nil, or_false] at hi
      rcases hi with rfl | rfl <;> exact .inl (by simp)) fun i hi => ?_
    · rw [bk6, k1, k2, k3, k4, k5, k6]; exact fun q hq => hq
    · simp only [List.mem_cons, List.not_mem_nil, or_false] at hi
      show ((Mem.of _).set st (some _)) i = _
      simp only [Mem.set, setF_at]
      split
      · rfl
      · exact of_bk0 (by rcases hi with rfl | rfl <;> simp)
end Go.Proofs.YtaecbmbecofijaaGreatDoor
namespace Go.Ab
theorem eff_makeSlice {P : Program} [Laid P] {o : Oper} {ρ : Operand → AV} {sp : Oid → Prop} {t el : TypeId} {y z : Operand} {nid : Oid} {sz n bytes : Nat} {agg : Bool} {k1 k2 : IntKind} {v0 : AV} (ho : o.op = .makeSlice t y z) (hy : ρ y = .int k1 n) (hz : ρ z = .int k2 n)
    (htk : tyk P t = some (.slice el agg sz bytes)) (hzer : zer P el = some v0.cells) (hone : v0.cells.all AV.one = true) (hsz : v0.cells.length = sz) (h0 : 0 < sz) (hb : bytes * n ≤ 281474976710656) (h63 : n ≤ 9223372036854775807) (hs : sp nid) (hnt : nid.tyd = none) :
    EffOK P o ρ sp ⟨[], .sl nid sz n, [(nid, some (.arr sz (List.replicate n v0)))]⟩ := by
  intro x g a w m hm _ hop hsp hng next Q K
  have vy := hop y (by simp [Op.operands, ho])
  have vz := hop z (by simp [Op.operands, ho])
  rw [hy] at vy; rw [hz] at vz
  have hyv := vy.int_inv
  have hzv := vz.int_inv
  -- the type's row
  have htk' : P.underlying t = some (.slice el) ∧ ∃ i, P.info? el = some i ∧ i.bytes = bytes ∧ i.size = sz := by
    unfold tyk at htk
    split at htk <;> try (cases htk; done)
    · rename_i e hu
      split at htk
      · rename_i q i hq hi
        simp only [Option.some.injEq, TyK.slice.injEq] at htk
        obtain ⟨rfl, -, h3, h4⟩ := htk
        refine ⟨hu, i, hi, h4, ?_⟩
        obtain ⟨d, i', _, hi', _, hn'⟩ := shp_spec (b := q.1) (n := q.2) hq
        rw [hi] at hi'; simp only [Option.some.injEq] at hi'; subst hi'
        rw [hn', h3]
      · cases htk
    · rename_i n' e' hu
      cases hs' : shp P e' <;> simp [hs'] at htk
    · rename_i fs hu
      cases hmm : (fs.toList.mapM fun f => (shp P f.type).map fun q => (f.offset, q.1, q.2)) <;> simp [hmm] at htk
  obtain ⟨hu, i, hi, hbi, hsi⟩ := htk'
  obtain ⟨zv, hzv0, hzc⟩ : ∃ zv, i.zero = some zv ∧ (constA zv).cells = v0.cells := by
    simp only [zer, hi, Option.bind_some] at hzer
    cases hzz : i.zero with
    | none => rw [hzz] at hzer; cases hzer
    | some zv => rw [hzz] at hzer; exact ⟨zv, rfl, by simpa using hzer⟩
  have hzs : zv.cells.size = sz := by rw [← constA_cells, hzc, hsz]
  have hcell : ∀ (g : Gh) j, j < sz → VR g (v0.cells.getD j .undef) (zv.cells.getD j undef) := fun g j hj => by
    rw [← hzc]; exact constA_cell g zv j (by rw [hzc, hsz]; exact hj)
  have hbb : (i.bytes : Int) * (n : Int) ≤ 281474976710656 := by
    rw [hbi, ← Int.natCast_mul]
    omega
  have hrun := run_make (P := P) w t el i zv hu hi hzv0 k1 k2 (n : Int) (n : Int) (by omega) (Int.le_refl _) hbb (by omega)
  simp only [Int.toNat_natCast, hsi] at hrun
  have hex : (execOp a.eval o).run P w = .ok (.value (.slice (some ⟨w.heap.size, 0, none⟩) n n)) (w.alloc (.cells (madeCells zv.cells (n * sz)) el)) := by
    simp only [execOp, ho, hyv, hzv, Sem.run_bind, hrun, Result.andThen_ok, Sem.run_pure]
  refine ⟨fun _ _ => trivial, ?_⟩
  rw [Oper.semAt_eq _ _ _ (fun c hc => by rw [ho] at hc; cases hc), hex, Oper.uponIn_value]
  obtain ⟨hl, hun⟩ := hsp nid hs
  have hrn : g.row w.heap.size = none := hm.row_new (Nat.le_refl _)
  have hcs : ∀ i j, i < n → j < sz → (madeCells zv.cells (n * sz)).getD (i * sz + j) undef = zv.cells.getD j undef := fun i j hi hj => by
    have hlt : i * sz + j < n * sz := by
      have : (i + 1) * sz ≤ n * sz := Nat.mul_le_mul_right _ hi
      rw [Nat.add_mul, Nat.one_mul] at this; omega
    have hmod : (i * sz + j) % sz = j := by rw [Nat.mul_comm, Nat.mul_add_mod, Nat.mod_eq_of_lt hj]
    simp only [madeCells, Array.getD_eq_getD_getElem?, Array.getElem?_map, Array.getElem?_range, hlt, if_true, Option.map_some, Option.getD_some, hzs, hmod]
    rw [getElem!_def, Array.getElem?_eq_getElem (show j < zv.cells.size by rw [hzs]; exact hj)]
    rfl
  have hone' : ∀ j, j < sz → (zv.cells.getD j undef).oneCell' = true := fun j hj => by
    have h1 := hcell g j hj
    have h2 : (v0.cells.getD j .undef).one = true := by
      rw [List.all_eq_true] at hone
      rw [List.getD_eq_getElem?_getD, List.getElem?_eq_getElem (by rw [hsz]; exact hj), Option.getD_some]
      exact hone _ (List.getElem_mem _)
    generalize v0.cells.getD j .undef = q at h1 h2
    generalize zv.cells.getD j undef = r at h1 ⊢
    cases q <;> first | (simp [AV.one] at h2; done) | (cases h1 <;> rfl)
  have hgetr : ∀ i, i < n → (List.replicate n v0).getD i .undef = v0 := fun i hi => by
    rw [List.getD_eq_getElem?_getD, List.getElem?_replicate, if_pos hi]; rfl
  have hnew := hm.new hl hun (o := .arr sz (List.replicate n v0)) (ob := .cells (madeCells zv.cells (n * sz)) el) ⟨madeCells zv.cells (n * sz), el, (0, 0), heap_new w _, by rw [List.length_replicate, size_madeCells]; exact Nat.le_refl _, fun j _ hj => by omega, fun i hi => by
    rw [List.length_replicate] at hi
    rw [hgetr i hi]; exact hsz, fun j hj => by
    rw [List.length_replicate] at hj
    have hd : j / sz < n := Nat.div_lt_of_lt_mul (by rw [Nat.mul_comm]; exact hj)
    have := hcs (j / sz) (j % sz) hd (Nat.mod_lt _ h0)
    rw [Nat.mul_comm (j / sz) sz, Nat.div_add_mod] at this
    rw [this]; exact hone' _ (Nat.mod_lt _ h0), fun i j hi hj => by
    rw [List.length_replicate] at hi
    rw [hgetr i hi, hcs i j hi hj]; exact hcell _ j hj⟩ (fun t ht => by rw [hnt] at ht; cases ht)
  refine K ((g.bind nid w.heap.size).measure w.heap.size (n * sz)) _ _ (Gh.le_trans (Gh.le_bind hl) (Gh.le_measure (.inl hrn))) (fun j hj => ?_) ?_ (hnew.measure ⟨madeCells zv.cells (n * sz), el, (0, 0), heap_new w _, size_madeCells _ _⟩ (.inl hrn))
  · have hne : ¬ j = nid := fun e => by subst e; exact hj hs
    simp only [Gh.bind, Gh.measure]; rw [if_neg hne]
  · exact .sl _ _ _ _ _ (by simp [Gh.bind, Gh.measure]) (Nat.le_refl _) (by simp [Gh.measure])
/-- An effect that is always the same, where more than one is asked for. -/
theorem EffOK.nd {P : Program} [Laid P] {o : Oper} {ρ : Operand → AV} {sp : Oid → Prop} {e : Eff} (h : EffOK P o ρ sp e) : EffND P o ρ sp e.need (fun v u => v = e.val ∧ u = e.upd) (fun _ _ => False) :=
  fun x g a w m hm hn hop hs hng next Q K _ => h x g a w m hm hn hop hs hng next Q fun g' v w' h1 h2 h3 h4 => K _ _ ⟨rfl, rfl⟩ g' v w' h1 h2 h3 h4
end Go.Ab
namespace Go.Proofs.YtaecbmbecofijaaGreatDoor
open Go Go.Ab
set_option maxRecDepth 20000
set_option maxHeartbeats 4000000
/-- What a touch that can be applied is. -/
structure AppOK (h : Tch) : Prop where
  key : h.1.1.length ≤ 1000000
  len : h.2.length ≤ 4000000000
  ok : (entT h.2).1.ok
  pos : 0 ≤ (entT h.2).1.k ∧ 0 ≤ (entT h.2).1.m
  fine : (entT h.2).2 = 0
  plain : h.1.2 = false
def putsL (s : St) : List Tch → St
  | [] => s
  | h :: l => putsL (s.put h.1.1 (entT h.2).1) l
theorem puts_seq {st : Oid} {N : List Oid} : ∀ (l : List Tch) (s : St) (F : Oid → AObj), StoP st s N F → SOK s → s.L.length + l.length ≤ 1000000 → (∀ h ∈ l, AppOK h) →
    ∃ Fs : Nat → Oid → AObj, Fs 0 = F ∧ StoP st (putsL s l) N (Fs l.length) ∧ ∀ i, i < l.length → ∀ p, p.mono = false → Old0 p N →
      CallOK Tryz.prog 19 [.ptr st 0, .str (l.getD i default).1.1, (entT (l.getD i default).2).1.av] (Oid.under p) ⟨bk (N, Fs i), .tuple [], sb N (Fs (i + 1))⟩
  | [], s, F, h, _, _, _ => ⟨fun _ => F, rfl, h, fun i hi => absurd hi (by simp)⟩
  | q :: l, s, F, h, hs, hl, hq => by
    have k := hq q List.mem_cons_self
    simp only [List.length_cons] at hl
    obtain ⟨F1, h1, h2⟩ := putP_ok h hs q.1.1 (entT q.2).1
    have hs1 := hs.put q.1.1 (entT q.2).1 (by omega) k.key k.ok k.pos
    obtain ⟨Fs, e0, e1, e2⟩ := puts_seq l _ F1 h1 hs1 (by have : (s.put q.1.1 (entT q.2).1).L.length ≤ s.L.length + 1 := putP_len q.1.1 (entT q.2).1 s.L
                                                          omega) fun h hh => hq h (List.mem_cons_of_mem _ hh)
    refine ⟨fun i => match i with | 0 => F | i + 1 => Fs i, rfl, e1, fun i hi => ?_⟩
    cases i with
    | zero => intro p hp ho; show CallOK _ _ _ _ ⟨bk (N, F), _, sb N (Fs 0)⟩; rw [e0]; exact h2 p hp ho
    | succ i => exact e2 i (by simpa using hi)
theorem blk_keep {a : Oid × AObj} {E : List (Oid × AObj)} {N : List Oid} {F : Oid → AObj} (h : ∀ e ∈ E, e.1 ∉ N) : ∀ i o, Mem.blk [a] [(N, F)] i = some o → Mem.blk (a :: E) [(N, F)] i = some o := by
  intro i o k
  rw [Mem.blk_at] at k ⊢
  split at k
  · rw [if_pos ‹_›]; exact k
  · rw [if_neg ‹_›]
    rw [blk_nil_at] at k
    split at k
    · rename_i hN
      induction E with
      | nil => rw [blk_nil_at, if_pos hN]; exact k
      | cons e E ih => rw [Mem.blk_at, if_neg fun e' : i = e.1 => h e List.mem_cons_self (e' ▸ hN)]; exact ih fun e he => h e (List.mem_cons_of_mem _ he)
    · cases k
theorem blk_keep1 {a : Oid × AObj} {c1 i1 : Nat} {o1 : AObj} {p : Oid} {N : List Oid} {F : Oid → AObj} (h : Old0 p N) : ∀ i o, Mem.blk [a] [(N, F)] i = some o → Mem.blk [a, (.sub c1 i1 p, o1)] [(N, F)] i = some o := blk_keep fun e he => by
  simp only [List.mem_cons, List.not_mem_nil, or_false] at he; rw [he]; exact h.mem
theorem blk_keep2 {a : Oid × AObj} {c1 i1 c2 i2 : Nat} {o1 o2 : AObj} {p : Oid} {N : List Oid} {F : Oid → AObj} (h : Old0 p N) : ∀ i o, Mem.blk [a] [(N, F)] i = some o → Mem.blk [a, (.sub c1 i1 p, o1), (.sub c2 i2 p, o2)] [(N, F)] i = some o := blk_keep fun e he => by
  simp only [List.mem_cons, List.not_mem_nil, or_false] at he; rcases he with rfl | rfl <;> exact h.mem
def rowA (l : List Tch) (i : Nat) : List AV := (l.take i).map (fun h => (entT h.2).1.av) ++ List.replicate (l.length - i) Bits.no.av
theorem rowA0 (l : List Tch) : rowA l 0 = List.replicate l.length Bits.no.av := by simp [rowA]
theorem rowA_len (l : List Tch) {i : Nat} (hi : i ≤ l.length) : (rowA l i).length = l.length := by
  simp only [rowA, List.length_append, List.length_map, List.length_take, List.length_replicate]; omega
theorem rowA_set (l : List Tch) {i : Nat} (hi : i < l.length) : (rowA l i).set i (entT (l.getD i default).2).1.av = rowA l (i + 1) := by
  unfold rowA
  rw [List.set_append_right _ _ (by simp only [List.length_map, List.length_take]; omega), List.take_add_one, List.getElem?_eq_getElem hi]
  simp only [List.length_map, List.length_take, Option.toList_some, List.map_append, List.map_cons, List.map_nil, List.append_assoc]
  rw [show l.length - i = (l.length - (i + 1)) + 1 by omega, List.replicate_succ, Nat.min_eq_left (by omega), Nat.sub_self, List.set_cons_zero, getD_in hi]
  rfl
theorem rowA_all (l : List Tch) {i : Nat} (hi : i < l.length) : (rowA l l.length).getD i .undef = (entT (l.getD i default).2).1.av := by
  unfold rowA
  rw [List.take_length, Nat.sub_self, List.replicate_zero, List.append_nil, getD_in hi, List.getD_eq_getElem?_getD, List.getElem?_map, List.getElem?_eq_getElem hi]
  rfl
theorem applyP_ok {st : Oid} {s : St} {N : List Oid} {F : Oid → AObj} (h : StoP st s N F) (hs : SOK s) (l : List Tch) (hl : s.L.length + l.length ≤ 1000000) (hq : ∀ h ∈ l, AppOK h) :
    ∃ F', StoP st (putsL s l) N F' ∧ ∀ p, p.mono = false → Old0 p N → CallOK Tryz.prog 28 [.ptr st 0, .list 3 (l.map tchAV)] (Oid.under p) ⟨bk (N, F), .int .i64 0, sb N F'⟩ := by
  obtain ⟨Fs, e0, e1, e2⟩ := puts_seq l s F h hs hl hq
  refine ⟨_, e1, fun p hp ho => ?_⟩
  have hl1 : l.length ≤ 1000000 := by omega
  refine fnOK (n := 55) (rs := [.tmp 4]) Tryz.func28 rfl rfl (by decide) rfl rfl rfl ?_; rintro x rfl hrd hng
  rw [blk_s0]
  (try ((first | refine zn ?_ | refine ze ?_ | refine zk ?_); with_reducible (constructor; repeat constructor)); try refine zl ?_)
  refine K_ev nmd [] hng (by kernel_rfl) fun hf C S K hC1 hC hS hK => ?_; simp (disch := first | omega | assumption) only [go_sem]
  refine hK ?_; clear hK hS hC hC1 K S C hf
  (try ((first | refine zn ?_ | refine ze ?_ | refine zk ?_); with_reducible (constructor; repeat constructor)); try refine zl ?_)
  refine K_ev nmd [] hng (by kernel_rfl) fun hf C S K hC1 hC hS hK => ?_; simp (disch := first | omega | assumption) only [go_sem, List.length_map]
  refine hS _ _ _ (fun o' hd ho' => (eff_makeSlice (nid := .sub 1 2 x.p) (n := l.length) (v0 := Bits.no.av) (sz := 3) (bytes := 32) ho' rfl rfl rfl rfl rfl rfl (by omega) (by omega) (by omega) (Oid.under_refl _) rfl).nd) (fun _ h => by cases h) ?_ (fun _ _ h => h.elim)
  rintro _ _ ⟨rfl, rfl⟩
  simp (disch := first | omega | assumption) only [go_sem]
  refine hK ?_; clear hK hS hC hC1 K S C hf
  (repeat (first | (refine K_ifT rfl rfl ?_) | (refine K_ifF rfl rfl ?_) | (refine K_ev nmd [] hng (by kernel_rfl) fun hf C S K hC1 hC hS hK => ?_; simp (disch := first | omega | assumption) only [go_sem, List.length_map]; refine hK ?_; clear hK hS hC hC1 K S C hf) | ((first | refine zn ?_ | refine ze ?_ | refine zk ?_); with_reducible (constructor; repeat constructor); try refine zl ?_)))
  rw [← rowA0]
  refine K_loop [0, 1, 5, 15, 16, 17] (fun k s' => ∃ i c : Nat, s' = ⟨[(0, .ptr st 0), (1, .list 3 (l.map tchAV)), (5, .sl (.sub 1 2 x.p) 3 l.length), (15, .list 3 (l.map tchAV)), (16, .int .i64 l.length), (17, .int .i64 i)], Mem.blk [(.sub 1 2 x.p, .arr 3 (rowA l i))] [(N, F)], c, []⟩ ∧ k = l.length - i ∧ i ≤ l.length ∧ 2 < c) _ ⟨0, _, rfl, rfl, Nat.zero_le _, by omega⟩ ?_
  rintro k s' ⟨i, c, rfl, rfl, hi, hc2⟩
  (repeat (first | (refine K_ifT rfl rfl ?_) | (refine K_ifF rfl rfl ?_) | (refine K_ev nmd [] hng (by kernel_rfl) fun hf C S K hC1 hC hS hK => ?_; simp (disch := first | omega | assumption) only [go_sem]; refine hK ?_; clear hK hS hC hC1 K S C hf) | ((first | refine zn ?_ | refine ze ?_ | refine zk ?_); with_reducible (constructor; repeat constructor); try refine zl ?_)))
  refine K_ifd rfl rfl (fun hb => ?_) (fun hb => ?_)
  · have hlt : i < l.length := by omega
    have kq := hq (l.getD i default) (by rw [getD_in hlt]; exact List.getElem_mem hlt)
    have he := fun p hp => entry_ok (l.getD i default).2 kq.len p hp
    have hz := kq.fine
    have hpl := kq.plain
    have hst := rowA_set l hlt
    have hrl := rowA_len l hi
    generalize hg : l.getD i default = g at he hz hpl hst
    obtain ⟨⟨gn, gf⟩, gv⟩ := g
    simp only at he hz hpl hst
    subst hpl
    generalize entT gv = E at he hz hst
    obtain ⟨e1, e2⟩ := E
    simp only at he hz hst
    subst hz
    obtain ⟨ek, em, el⟩ := e1
    simp only [Bits.av] at he hst
    (repeat (first | (refine K_ifT rfl rfl ?_) | (refine K_ifF rfl rfl ?_) | (refine K_ev nmd [] hng (by kernel_rfl) fun hf C S K hC1 hC hS hK => ?_; simp (disch := first | omega | assumption) only [go_sem, hg, tchAV, AV.cells, List.length_map]; refine hK ?_; clear hK hS hC hC1 K S C hf) | ((first | refine zn ?_ | refine ze ?_ | refine zk ?_); with_reducible (constructor; repeat constructor); try refine zl ?_)))
    refine K_ev nmd [] hng (by kernel_rfl) fun hf C S K hC1 hC hS hK => ?_; simp (disch := first | omega | assumption) only [go_sem]
    refine hC1 _ (he _ (mono_sub' rfl hp)) (by simp (disch := first | omega | assumption) only [go_sem]) ?_
    simp (disch := first | omega | assumption) only [go_sem, AV.cells]
    refine hK ?_; clear hK hS hC hC1 K S C hf
    (try ((first | refine zn ?_ | refine ze ?_ | refine zk ?_); with_reducible (constructor; repeat constructor)); try refine zl ?_)
    refine K_ev nmd [(2, 30)] hng (by kernel_rfl) fun hf C S K hC1 hC hS hK => ?_; simp (disch := first | omega | assumption) only [go_sem, decide_true, decide_false, ne_eq, not_true_eq_false, not_false_eq_true]
    (repeat' (first | (refine evG_split (fun hv => ?_) (fun hv => ?_) <;> (try simp only [zb1, zb2, zb3, zb4, zb5] at hv) <;> simp (disch := first | omega | assumption) only [go_sem, hv, decide_true, decide_false, ne_eq, not_true_eq_false, not_false_eq_true]) | (refine hK ?_; clear hK hS hC hC1 K S C hf)))
    (repeat (first | (refine K_ifT rfl rfl ?_) | (refine K_ifF rfl rfl ?_) | (refine K_ev nmd [] hng (by kernel_rfl) fun hf C S K hC1 hC hS hK => ?_; simp (disch := first | omega | assumption) only [go_sem]; refine hK ?_; clear hK hS hC hC1 K S C hf) | ((first | refine zn ?_ | refine ze ?_ | refine zk ?_); with_reducible (constructor; repeat constructor); try refine zl ?_)))
    refine K_ev nmd [] hng (by kernel_rfl) fun hf C S K hC1 hC hS hK => ?_; simp (disch := first | omega | assumption) only [go_sem, hrl, hlt]
    simp (disch := first | omega | assumption) only [go_sem, hst, hrl, hlt]
    refine hK ?_; clear hK hS hC hC1 K S C hf
    (repeat (first | (refine K_ifT rfl rfl ?_) | (refine K_ifF rfl rfl ?_) | (refine K_ev nmd [] hng (by kernel_rfl) fun hf C S K hC1 hC hS hK => ?_; simp (disch := first | omega | assumption) only [go_sem]; refine hK ?_; clear hK hS hC hC1 K S C hf) | ((first | refine zn ?_ | refine ze ?_ | refine zk ?_); with_reducible (constructor; repeat constructor); try refine zl ?_)))
    exact ⟨_, Mem.blk [(.sub 1 2 x.p, .arr 3 (rowA l (i + 1)))] [(N, F)], by omega, blk_keep2 ho, i + 1, _, rfl, rfl, by omega, by omega⟩
  · obtain rfl : i = l.length := by omega
    (repeat (first | (refine K_ifT rfl rfl ?_) | (refine K_ifF rfl rfl ?_) | (refine K_ev nmd [] hng (by kernel_rfl) fun hf C S K hC1 hC hS hK => ?_; simp (disch := first | omega | assumption) only [go_sem, List.length_map]; refine hK ?_; clear hK hS hC hC1 K S C hf) | ((first | refine zn ?_ | refine ze ?_ | refine zk ?_); with_reducible (constructor; repeat constructor); try refine zl ?_)))
    rw [← e0]
    refine K_loop [0, 5, 39, 40, 41] (fun k s' => ∃ i c : Nat, s' = ⟨[(0, .ptr st 0), (5, .sl (.sub 1 2 x.p) 3 l.length), (39, .list 3 (l.map tchAV)), (40, .int .i64 l.length), (41, .int .i64 i)], Mem.blk [(.sub 1 2 x.p, .arr 3 (rowA l l.length))] [(N, Fs i)], c, []⟩ ∧ k = l.length - i ∧ i ≤ l.length ∧ 2 < c) _ ⟨0, _, rfl, rfl, Nat.zero_le _, by omega⟩ ?_
    rintro k s' ⟨i, c, rfl, rfl, hi, hc2⟩
    (repeat (first | (refine K_ifT rfl rfl ?_) | (refine K_ifF rfl rfl ?_) | (refine K_ev nmd [] hng (by kernel_rfl) fun hf C S K hC1 hC hS hK => ?_; simp (disch := first | omega | assumption) only [go_sem]; refine hK ?_; clear hK hS hC hC1 K S C hf) | ((first | refine zn ?_ | refine ze ?_ | refine zk ?_); with_reducible (constructor; repeat constructor); try refine zl ?_)))
    refine K_ifd rfl rfl (fun hb => ?_) (fun hb => ?_)
    · have hlt : i < l.length := by omega
      have hr := rowA_all l hlt
      have hrl := rowA_len l (Nat.le_refl l.length)
      have hp2 := e2 i hlt
      generalize hg : l.getD i default = g at hr hp2
      obtain ⟨⟨gn, gf⟩, gv⟩ := g
      simp only at hr hp2
      generalize (entT gv).1 = E at hr hp2
      obtain ⟨ek, em, el⟩ := E
      simp only [Bits.av] at hr hp2
      (repeat (first | (refine K_ifT rfl rfl ?_) | (refine K_ifF rfl rfl ?_) | (refine K_ev nmd [] hng (by kernel_rfl) fun hf C S K hC1 hC hS hK => ?_; simp (disch := first | omega | assumption) only [go_sem, hg, tchAV, AV.cells, List.length_map]; refine hK ?_; clear hK hS hC hC1 K S C hf) | ((first | refine zn ?_ | refine ze ?_ | refine zk ?_); with_reducible (constructor; repeat constructor); try refine zl ?_)))
      refine K_evd nmd [] [] mixed hng (by kernel_rfl) [0, 5, 39, 40, 41] fun hf C S K hC hS hK => ?_; simp (disch := first | omega | assumption) only [go_sem, hr, hrl, hlt, hg, tchAV, AV.cells]
      refine hC _ (hp2 _ (mono_sub' rfl hp) (ho.sub _ _)) (by show ∀ q, q ∈ bk _ → _; rw [need_S ho, need_S ho, need_0]; trivial) ?_
      simp (disch := first | omega | assumption) only [go_sem, ho]
      (first | refine hK (dynN_quiet rfl) ?_ | refine hK (by simp (disch := first | omega | assumption) only [go_sem, List.reverse_cons, List.reverse_nil, ne_eq, not_false_eq_true, implies_true]) ?_); clear hK hS hC K S C hf
      (repeat (first | (refine K_ifT rfl rfl ?_) | (refine K_ifF rfl rfl ?_) | (refine K_ev nmd [] hng (by kernel_rfl) fun hf C S K hC1 hC hS hK => ?_; simp (disch := first | omega | assumption) only [go_sem]; refine hK ?_; clear hK hS hC hC1 K S C hf) | ((first | refine zn ?_ | refine ze ?_ | refine zk ?_); with_reducible (constructor; repeat constructor); try refine zl ?_)))
      exact ⟨_, Mem.blk [(.sub 1 2 x.p, .arr 3 (rowA l l.length))] [(N, Fs (i + 1))], by omega, blk_keep1 ho, i + 1, _, rfl, rfl, by omega, by omega⟩
    · obtain rfl : i = l.length := by omega
      (repeat (first | (refine K_ifT rfl rfl ?_) | (refine K_ifF rfl rfl ?_) | (refine K_ev nmd [] hng (by kernel_rfl) fun hf C S K hC1 hC hS hK => ?_; simp (disch := first | omega | assumption) only [go_sem]; refine hK ?_; clear hK hS hC hC1 K S C hf) | ((first | refine zn ?_ | refine ze ?_ | refine zk ?_); with_reducible (constructor; repeat constructor); try refine zl ?_)))
      refine K_ret (done_b0 rfl ?_)
      rw [need_S ho, need_0]; trivial
end Go.Proofs.YtaecbmbecofijaaGreatDoor
namespace Go.Proofs.YtaecbmbecofijaaGreatDoor
open Go Go.Ab
set_option maxRecDepth 20000
set_option maxHeartbeats 4000000
/-! whether all is there that was read -/
def agreesL (L : PL) (l : List Tch) : Bool := l.all fun h => valP L h.1 == h.2
def badT (L : PL) (h : Tch) : Bool := !(valP L h.1 == h.2)
theorem agreesC_ok (bx st t : Oid) (tv : AV) (es : List ME) (clock : Nat) (L : PL) (hm : MapP es L) (hs : SortG ltB L) (ho : POk L) (h : Tch) (hn : h.1.1.length ≤ 140737488355000) (p : Oid) (hp : p.mono = false) (hbx : ¬ Oid.under p bx) (hst : ¬ Oid.under p st) (ht : ¬ Oid.under p t) (d1 : ¬ st = bx) (d2 : ¬ t = bx) (d3 : ¬ t = st) :
    CallOK Tryz.prog 72 [tchAV h, .ptr bx 0] (Oid.under p) ⟨[(bx, .cells [.ptr st 0]), (st, .cells [.map t, tv]), (t, .map [.ss] false es clock)], .bool (badT L h), []⟩ := by
  obtain ⟨⟨qn, qf⟩, qv⟩ := h
  have hv := fun p hp u => valueT_ok t es clock L hm hs ho qn hn qf p hp u
  unfold badT
  generalize valP L (qn, qf) = V at hv ⊢
  simp only [tchAV, keyF] at hv ⊢
  refine fnOK (n := 17) (rs := [.tmp 3]) Tryz.func72 rfl rfl (by decide) rfl rfl rfl ?_; rintro x rfl hrd hng
  (try ((first | refine zn ?_ | refine ze ?_ | refine zk ?_); with_reducible (constructor; repeat constructor)); try refine zl ?_)
  refine K_ev nmd [] hng (by kernel_rfl) fun hf C S K hC1 hC hS hK => ?_; simp (disch := first | omega | assumption) only [go_sem]
  refine hK ?_; clear hK hS hC hC1 K S C hf
  (try ((first | refine zn ?_ | refine ze ?_ | refine zk ?_); with_reducible (constructor; repeat constructor)); try refine zl ?_)
  refine K_evd nmd [] [(9, 11)] mixed hng (by kernel_rfl) [3] fun hf C S K hC hS hK => ?_; simp (disch := first | omega | assumption) only [go_sem, Oid.not_under_sub hbx, Oid.sub_not_under hbx, Oid.not_under_sub hst, Oid.sub_not_under hst, Oid.not_under_sub ht, Oid.sub_not_under ht, d1, d2, d3]
  refine hC _ (hv _ (mono_sub' rfl hp) (fun h => ht (Oid.under_sub h))) (by simp (disch := first | omega | assumption) only [go_sem, Oid.not_under_sub hbx, Oid.sub_not_under hbx, Oid.not_under_sub hst, Oid.sub_not_under hst, Oid.not_under_sub ht, Oid.sub_not_under ht, d1, d2, d3]) ?_
  simp (disch := first | omega | assumption) only [go_sem, Oid.not_under_sub hbx, Oid.sub_not_under hbx, Oid.not_under_sub hst, Oid.sub_not_under hst, Oid.not_under_sub ht, Oid.sub_not_under ht, d1, d2, d3]
  (first | refine hK (dynN_quiet rfl) ?_ | refine hK (by simp (disch := first | omega | assumption) only [go_sem, List.reverse_cons, List.reverse_nil, ne_eq, not_false_eq_true, implies_true]) ?_); clear hK hS hC K S C hf
  (repeat (first | (refine K_ifT rfl rfl ?_) | (refine K_ifF rfl rfl ?_) | (refine K_ev nmd [] hng (by kernel_rfl) fun hf C S K hC1 hC hS hK => ?_; simp (disch := first | omega | assumption) only [go_sem]; refine hK ?_; clear hK hS hC hC1 K S C hf) | ((first | refine zn ?_ | refine ze ?_ | refine zk ?_); with_reducible (constructor; repeat constructor); try refine zl ?_)))
  refine K_ret (done_upd ?_ ?_ ?_)
  · have hbq : decide (V ≠ qv) = !(V == qv) := by by_cases h : V = qv <;> simp [h]
    simp (disch := first | omega | assumption) only [go_sem, hbq]
  · all_goals simp only [List.mem_cons, List.not_mem_nil, or_false, forall_eq_or_imp, forall_eq, Option.some.injEq, forall_eq', Mem.of_cons_at, eq_self, if_true, ↓reduceIte, reduceCtorEq, implies_true, not_true_eq_false, false_imp_iff, true_and, and_true, false_and, and_false, imp_self, Oid.not_under_sub hbx, Oid.sub_not_under hbx, Oid.not_under_sub hst, Oid.sub_not_under hst, Oid.not_under_sub ht, Oid.sub_not_under ht, d1, d2, d3]
  · all_goals simp only [List.mem_cons, List.not_mem_nil, or_false, forall_eq_or_imp, forall_eq, Option.some.injEq, forall_eq', Mem.of_cons_at, eq_self, if_true, ↓reduceIte, reduceCtorEq, implies_true, not_true_eq_false, false_imp_iff, true_and, and_true, false_and, and_false, imp_self, Oid.not_under_sub hbx, Oid.sub_not_under hbx, Oid.not_under_sub hst, Oid.sub_not_under hst, Oid.not_under_sub ht, Oid.sub_not_under ht, d1, d2, d3]
def ixT (q : Tch → Bool) : List Tch → Int
  | [] => -1
  | s :: l => if q s = true then 0 else if ixT q l = -1 then -1 else ixT q l + 1
theorem ixT_none {q : Tch → Bool} : ∀ {l : List Tch}, l.any q = false → ixT q l = -1
  | [], _ => rfl
  | s :: l, h => by
    simp only [List.any_cons, Bool.or_eq_false_iff] at h
    simp [ixT, h.1, ixT_none h.2]
theorem ixT_at {q : Tch → Bool} : ∀ {l : List Tch} {i : Nat}, i < l.length → (l.take i).any q = false → q (l.getD i default) = true → ixT q l = i
  | [], _, h, _, _ => by simp at h
  | s :: l, 0, _, _, h => by
    have h' : q s = true := h
    simp [ixT, h']
  | s :: l, i + 1, h, h1, h2 => by
    simp only [List.take_succ_cons, List.any_cons, Bool.or_eq_false_iff] at h1
    have ih := ixT_at (l := l) (i := i) (by simpa using h) h1.2 h2
    simp only [ixT, h1.1, ih, Bool.false_eq_true, if_false]
    rw [if_neg (by omega)]; omega
theorem ixT_any {q : Tch → Bool} (l : List Tch) : decide (0 ≤ ixT q l) = l.any q := by
  cases h : l.any q with
  | false => rw [ixT_none h]; rfl
  | true =>
    have key : ∀ l : List Tch, l.any q = true → 0 ≤ ixT q l := by
      intro l
      induction l with
      | nil => intro h; cases h
      | cons s l ih =>
        intro h
        simp only [ixT]
        split
        · omega
        · rename_i hs
          have := ih (by simpa [hs] using h)
          rw [if_neg (by omega)]; omega
    exact decide_eq_true (key l h)
theorem anyT_step {q : Tch → Bool} {l : List Tch} {i : Nat} (hi : i < l.length) (h : (l.take i).any q = false) (h2 : q (l.getD i default) = false) : (l.take (i + 1)).any q = false := by
  rw [List.take_add_one, List.any_append, h, List.getElem?_eq_getElem hi]
  rw [List.getD_eq_getElem?_getD, List.getElem?_eq_getElem hi] at h2
  simpa using h2
section
variable (bx st t : Oid) (oo : AV) (tv : AV) (es : List ME) (clock : Nat) (q : Tch → Bool) (fu : FuncId) (l : List Tch) (hl : l.length ≤ 4000000000) (d1 : ¬ st = bx) (d2 : ¬ t = bx) (d3 : ¬ t = st)
  (hq : ∀ h ∈ l, ∀ p : Oid, p.mono = false → ¬ Oid.under p bx → ¬ Oid.under p st → ¬ Oid.under p t → CallOK Tryz.prog fu [tchAV h, .ptr bx 0] (Oid.under p) ⟨[(bx, .cells [.ptr st 0]), (st, .cells [.map t, tv]), (t, .map [.ss] false es clock)], .bool (q h), []⟩)
include hl hq d1 d2 d3
theorem indexT_ok (p : Oid) (hp : p.mono = false) (hbx : ¬ Oid.under p bx) (hst : ¬ Oid.under p st) (ht : ¬ Oid.under p t) :
    CallOK Tryz.prog 120 [.list 3 (l.map tchAV), .fn (.func fu) [] [.ptr bx 0]] (Oid.under p) ⟨[(bx, .cells [.ptr st 0]), (st, .cells [.map t, tv]), (t, .map [.ss] false es clock)], .int .i64 (ixT q l), []⟩ := by
  have hb' : ∀ c i, ¬ Oid.under (.sub c i p) bx := fun c i h => hbx (Oid.under_sub h)
  have hst' : ∀ c i, ¬ Oid.under (.sub c i p) st := fun c i h => hst (Oid.under_sub h)
  have ht' : ∀ c i, ¬ Oid.under (.sub c i p) t := fun c i h => ht (Oid.under_sub h)
  refine fnOK (n := 19) (rs := [.tmp 4]) Tryz.func120 rfl rfl (by decide) rfl rfl rfl ?_; rintro x rfl hrd hng
  (repeat (first | (refine K_ifT rfl rfl ?_) | (refine K_ifF rfl rfl ?_) | (refine K_ev nmd [] hng (by kernel_rfl) fun hf C S K hC1 hC hS hK => ?_; simp (disch := first | omega | assumption) only [go_sem]; refine hK ?_; clear hK hS hC hC1 K S C hf) | ((first | refine zn ?_ | refine ze ?_ | refine zk ?_); with_reducible (constructor; repeat constructor); try refine zl ?_)))
  refine K_loop [0, 1, 7, 8] (fun k s' => ∃ i c : Nat, s' = ⟨[(0, .list 3 (l.map tchAV)), (1, .fn (.func fu) [] [.ptr bx 0]), (7, .int .i64 l.length), (8, .int .i64 i)], Mem.of [(bx, .cells [.ptr st 0]), (st, .cells [.map t, tv]), (t, .map [.ss] false es clock)], c, []⟩ ∧ k = l.length - i ∧ i ≤ l.length ∧ (l.take i).any q = false) _ ⟨0, _, rfl, rfl, Nat.zero_le _, by simp⟩ ?_
  rintro k s' ⟨i, c, rfl, rfl, hi, hno⟩
  (repeat (first | (refine K_ifT rfl rfl ?_) | (refine K_ifF rfl rfl ?_) | (refine K_ev nmd [] hng (by kernel_rfl) fun hf C S K hC1 hC hS hK => ?_; simp (disch := first | omega | assumption) only [go_sem]; refine hK ?_; clear hK hS hC hC1 K S C hf) | ((first | refine zn ?_ | refine ze ?_ | refine zk ?_); with_reducible (constructor; repeat constructor); try refine zl ?_)))
  refine K_ifd rfl rfl (fun hb => ?_) (fun hb => ?_)
  · have hlt : i < l.length := by omega
    have hq1 := hq (l.getD i default) (by rw [getD_in hlt]; exact List.getElem_mem hlt)
    generalize hg : l.getD i default = g at hq1
    obtain ⟨b, hbq⟩ : ∃ b, q g = b := ⟨_, rfl⟩
    rw [hbq] at hq1
    obtain ⟨⟨gn, gf⟩, gv⟩ := g
    simp only [tchAV] at hq1
    (repeat (first | (refine K_ifT rfl rfl ?_) | (refine K_ifF rfl rfl ?_) | (refine K_ev nmd [] hng (by kernel_rfl) fun hf C S K hC1 hC hS hK => ?_; simp (disch := first | omega | assumption) only [go_sem]; refine hK ?_; clear hK hS hC hC1 K S C hf) | ((first | refine zn ?_ | refine ze ?_ | refine zk ?_); with_reducible (constructor; repeat constructor); try refine zl ?_)))
    refine K_ev nmd [] hng (by kernel_rfl) fun hf C S K hC1 hC hS hK => ?_; simp (disch := first | omega | assumption) only [go_sem, hg, tchAV, AV.cells]
    refine hC1 _ (hq1 _ (mono_sub' rfl hp) (hb' _ _) (hst' _ _) (ht' _ _)) (by simp (disch := first | omega | assumption) only [go_sem, Oid.not_under_sub hbx, Oid.sub_not_under hbx, Oid.not_under_sub hst, Oid.sub_not_under hst, Oid.not_under_sub ht, Oid.sub_not_under ht, d1, d2, d3]) ?_
    simp (disch := first | omega | assumption) only [go_sem, Oid.not_under_sub hbx, Oid.sub_not_under hbx, Oid.not_under_sub hst, Oid.sub_not_under hst, Oid.not_under_sub ht, Oid.sub_not_under ht, d1, d2, d3]
    refine hK ?_; clear hK hS hC hC1 K S C hf
    (try ((first | refine zn ?_ | refine ze ?_ | refine zk ?_); with_reducible (constructor; repeat constructor)); try refine zl ?_)
    refine K_if rfl rfl (fun hb => ?_) (fun hb => ?_)
    · rw [ixT_at hlt hno (by rw [hg, hbq]; exact hb)]
      (repeat (first | (refine K_ifT rfl rfl ?_) | (refine K_ifF rfl rfl ?_) | (refine K_ev nmd [] hng (by kernel_rfl) fun hf C S K hC1 hC hS hK => ?_; simp (disch := first | omega | assumption) only [go_sem]; refine hK ?_; clear hK hS hC hC1 K S C hf) | ((first | refine zn ?_ | refine ze ?_ | refine zk ?_); with_reducible (constructor; repeat constructor); try refine zl ?_)))
      refine K_ret (done_upd rfl ?_ ?_)
      all_goals simp only [List.mem_cons, List.not_mem_nil, or_false, forall_eq_or_imp, forall_eq, Option.some.injEq, forall_eq', Mem.of_cons_at, eq_self, if_true, ↓reduceIte, reduceCtorEq, implies_true, not_true_eq_false, false_imp_iff, true_and, and_true, false_and, and_false, imp_self, Oid.not_under_sub hbx, Oid.sub_not_under hbx, Oid.not_under_sub hst, Oid.sub_not_under hst, Oid.not_under_sub ht, Oid.sub_not_under ht, d1, d2, d3]
    · have hn := anyT_step hlt hno (by rw [hg, hbq]; exact hb)
      (repeat (first | (refine K_ifT rfl rfl ?_) | (refine K_ifF rfl rfl ?_) | (refine K_ev nmd [] hng (by kernel_rfl) fun hf C S K hC1 hC hS hK => ?_; simp (disch := first | omega | assumption) only [go_sem]; refine hK ?_; clear hK hS hC hC1 K S C hf) | ((first | refine zn ?_ | refine ze ?_ | refine zk ?_); with_reducible (constructor; repeat constructor); try refine zl ?_)))
      exact ⟨_, _, by omega, fun _ _ h => h, i + 1, _, rfl, rfl, by omega, hn⟩
  · obtain rfl : i = l.length := by omega
    rw [List.take_length] at hno
    rw [ixT_none hno]
    (repeat (first | (refine K_ifT rfl rfl ?_) | (refine K_ifF rfl rfl ?_) | (refine K_ev nmd [] hng (by kernel_rfl) fun hf C S K hC1 hC hS hK => ?_; simp (disch := first | omega | assumption) only [go_sem]; refine hK ?_; clear hK hS hC hC1 K S C hf) | ((first | refine zn ?_ | refine ze ?_ | refine zk ?_); with_reducible (constructor; repeat constructor); try refine zl ?_)))
    refine K_ret (done_upd rfl ?_ ?_)
    all_goals simp only [List.mem_cons, List.not_mem_nil, or_false, forall_eq_or_imp, forall_eq, Option.some.injEq, forall_eq', Mem.of_cons_at, eq_self, if_true, ↓reduceIte, reduceCtorEq, implies_true, not_true_eq_false, false_imp_iff, true_and, and_true, false_and, and_false, imp_self, Oid.not_under_sub hbx, Oid.sub_not_under hbx, Oid.not_under_sub hst, Oid.sub_not_under hst, Oid.not_under_sub ht, Oid.sub_not_under ht, d1, d2, d3]
theorem containsT_ok (p : Oid) (hp : p.mono = false) (hbx : ¬ Oid.under p bx) (hst : ¬ Oid.under p st) (ht : ¬ Oid.under p t) :
    CallOK Tryz.prog 71 [.list 3 (l.map tchAV), .fn (.func fu) [] [.ptr bx 0]] (Oid.under p) ⟨[(bx, .cells [.ptr st 0]), (st, .cells [.map t, tv]), (t, .map [.ss] false es clock)], .bool (l.any q), []⟩ := by
  have hi := fun p hp a b c => indexT_ok bx st t tv es clock q fu l hl d1 d2 d3 hq p hp a b c
  have han := ixT_any (q := q) l
  refine fnOK (n := 9) (rs := [.tmp 4]) Tryz.func71 rfl rfl (by decide) rfl rfl rfl ?_; rintro x rfl hrd hng
  (repeat (first | (refine K_ifT rfl rfl ?_) | (refine K_ifF rfl rfl ?_) | (refine K_ev nmd [] hng (by kernel_rfl) fun hf C S K hC1 hC hS hK => ?_; simp (disch := first | omega | assumption) only [go_sem]; refine hK ?_; clear hK hS hC hC1 K S C hf) | ((first | refine zn ?_ | refine ze ?_ | refine zk ?_); with_reducible (constructor; repeat constructor); try refine zl ?_)))
  refine K_ev nmd [] hng (by kernel_rfl) fun hf C S K hC1 hC hS hK => ?_; simp (disch := first | omega | assumption) only [go_sem]
  refine hC1 _ (hi _ (mono_sub' rfl hp) (fun h => hbx (Oid.under_sub h)) (fun h => hst (Oid.under_sub h)) (fun h => ht (Oid.under_sub h))) (by simp (disch := first | omega | assumption) only [go_sem, Oid.not_under_sub hbx, Oid.sub_not_under hbx, Oid.not_under_sub hst, Oid.sub_not_under hst, Oid.not_under_sub ht, Oid.sub_not_under ht, d1, d2, d3]) ?_
  simp (disch := first | omega | assumption) only [go_sem, Oid.not_under_sub hbx, Oid.sub_not_under hbx, Oid.not_under_sub hst, Oid.sub_not_under hst, Oid.not_under_sub ht, Oid.sub_not_under ht, d1, d2, d3, han]
  refine hK ?_; clear hK hS hC hC1 K S C hf
  (repeat (first | (refine K_ifT rfl rfl ?_) | (refine K_ifF rfl rfl ?_) | (refine K_ev nmd [] hng (by kernel_rfl) fun hf C S K hC1 hC hS hK => ?_; simp (disch := first | omega | assumption) only [go_sem]; refine hK ?_; clear hK hS hC hC1 K S C hf) | ((first | refine zn ?_ | refine ze ?_ | refine zk ?_); with_reducible (constructor; repeat constructor); try refine zl ?_)))
  refine K_ret (done_upd rfl ?_ ?_)
  all_goals simp only [List.mem_cons, List.not_mem_nil, or_false, forall_eq_or_imp, forall_eq, Option.some.injEq, forall_eq', Mem.of_cons_at, eq_self, if_true, ↓reduceIte, reduceCtorEq, implies_true, not_true_eq_false, false_imp_iff, true_and, and_true, false_and, and_false, imp_self, Oid.not_under_sub hbx, Oid.sub_not_under hbx, Oid.not_under_sub hst, Oid.sub_not_under hst, Oid.not_under_sub ht, Oid.sub_not_under ht, d1, d2, d3]
end
theorem agrees_ok (st t : Oid) (tv : AV) (es : List ME) (clock : Nat) (L : PL) (hm : MapP es L) (hs : SortG ltB L) (ho : POk L) (l : List Tch) (hl : l.length ≤ 4000000000) (hn : ∀ h ∈ l, h.1.1.length ≤ 140737488355000) (d3 : ¬ t = st) (p : Oid) (hp : p.mono = false) (hst : ¬ Oid.under p st) (ht : ¬ Oid.under p t) :
    CallOK Tryz.prog 27 [.ptr st 0, .list 3 (l.map tchAV)] (Oid.under p) ⟨[(st, .cells [.map t, tv]), (t, .map [.ss] false es clock)], .bool (agreesL L l), []⟩ := by
  have hag : (!(l.any (badT L))) = agreesL L l := by
    unfold agreesL badT
    rw [List.not_any_eq_all_not]
    congr 1
    funext h
    rw [Bool.not_not]
  refine fnOK (n := 9) (rs := [.tmp 4]) Tryz.func27 rfl rfl (by decide) rfl rfl rfl ?_; rintro x rfl hrd hng
  have hbx : ∀ c i, ¬ c = 0 → ¬ Oid.under (.sub c i x.p) (.sub 0 0 x.p) := fun c i hc h => hc (Oid.apart h (Oid.under_refl _)).1
  have d1 : ¬ st = .sub 0 0 x.p := fun e => hst (e ▸ Oid.under_sub (Oid.under_refl _))
  have d2 : ¬ t = .sub 0 0 x.p := fun e => ht (e ▸ Oid.under_sub (Oid.under_refl _))
  have d1' : ¬ .sub 0 0 x.p = st := fun e => d1 e.symm
  have d2' : ¬ .sub 0 0 x.p = t := fun e => d2 e.symm
  (try ((first | refine zn ?_ | refine ze ?_ | refine zk ?_); with_reducible (constructor; repeat constructor)); try refine zl ?_)
  refine K_ev nmd [] hng (by kernel_rfl) fun hf C S K hC1 hC hS hK => ?_; simp (disch := first | omega | assumption) only [go_sem]
  refine hK ?_; clear hK hS hC hC1 K S C hf
  (try ((first | refine zn ?_ | refine ze ?_ | refine zk ?_); with_reducible (constructor; repeat constructor)); try refine zl ?_)
  refine K_ev nmd [] hng (by kernel_rfl) fun hf C S K hC1 hC hS hK => ?_; simp (disch := first | omega | assumption) only [go_sem, d1, d2, d1', d2', d3]
  refine hC1 _ (containsT_ok (.sub 0 0 x.p) st t tv es clock (badT L) 72 l hl d1 d2 d3 (fun h hh p hp b1 b2 b3 => agreesC_ok (.sub 0 0 x.p) st t tv es clock L hm hs ho h (hn h hh) p hp b1 b2 b3 d1 d2 d3) _ (mono_sub' rfl hp) (hbx _ _ (by omega)) (fun h => hst (Oid.under_sub h)) (fun h => ht (Oid.under_sub h))) (by simp (disch := first | omega | assumption) only [go_sem, d1, d2, d1', d2', d3]) ?_
  simp (disch := first | omega | assumption) only [go_sem, d1, d2, d1', d2', d3, hag]
  refine hK ?_; clear hK hS hC hC1 K S C hf
  (repeat (first | (refine K_ifT rfl rfl ?_) | (refine K_ifF rfl rfl ?_) | (refine K_ev nmd [] hng (by kernel_rfl) fun hf C S K hC1 hC hS hK => ?_; simp (disch := first | omega | assumption) only [go_sem]; refine hK ?_; clear hK hS hC hC1 K S C hf) | ((first | refine zn ?_ | refine ze ?_ | refine zk ?_); with_reducible (constructor; repeat constructor); try refine zl ?_)))
  refine K_ret (done_upd rfl ?_ ?_)
  all_goals simp only [List.mem_cons, List.not_mem_nil, or_false, forall_eq_or_imp, forall_eq, Option.some.injEq, forall_eq', Mem.of_cons_at, eq_self, if_true, ↓reduceIte, reduceCtorEq, implies_true, not_true_eq_false, false_imp_iff, true_and, and_true, false_and, and_false, imp_self, d1, d2, d1', d2', d3]
theorem CallOK.needBk {P : Program} [Laid P] {f : FuncId} {xs : List AV} {sp : Oid → Prop} {L0 : List (Oid × AObj)} {v : AV} {B : Bk} (h : CallOK P f xs sp ⟨L0, v, []⟩) (hL : ∀ q, q ∈ L0 → q ∈ bk B) : CallOK P f xs sp ⟨bk B, v, []⟩ :=
  ⟨h.enters, fun x g args w m hm hn ha hs hx => h.calls x g args w m hm (fun q hq => hn q (hL q hq)) ha hs hx⟩
end Go.Proofs.YtaecbmbecofijaaGreatDoor
namespace Go.Proofs.YtaecbmbecofijaaGreatDoor
open Go Go.Ab
set_option maxRecDepth 20000
set_option maxHeartbeats 4000000
end Go.Proofs.YtaecbmbecofijaaGreatDoor
namespace Go.Proofs.YtaecbmbecofijaaGreatDoor
open Go Go.Ab
set_option maxRecDepth 20000
set_option maxHeartbeats 4000000
def two (a : Oid) (x y : AObj) : Oid → AObj := fun i => if i = a then x else y
theorem bk_two {a b : Oid} (x y : AObj) (h : ¬ b = a) : bk ([a, b], two a x y) = [(a, x), (b, y)] := by
  simp only [bk2, two, if_true, if_neg h]
/-- Two objects ahead of the blocks are a block. -/
theorem blk_pull2 {a b : Oid} (x y : AObj) (h : ¬ b = a) (Bs : List Bk) : Mem.blk [(a, x), (b, y)] Bs = Mem.blk [] (([a, b], two a x y) :: Bs) := by
  unfold Mem.blk
  simp only [List.map_cons, List.flatten_cons, bk_two x y h, List.nil_append, List.cons_append]
theorem stoP_new {a b : Oid} (h : ¬ b = a) : StoP a ⟨[], none⟩ [a, b] (two a (.cells [.map b, .nilPtr]) (.map [.ss] false [] 0)) :=
  ⟨(by have h' : ¬ a = b := fun e => h e.symm; simp [h']), b, [], 0, rfl, if_pos rfl, if_neg h, mapP_new⟩
theorem sok_new : SOK ⟨[], none⟩ := ⟨List.Pairwise.nil, ⟨by simp, fun q hq => (by cases hq), fun q hq => (by cases hq)⟩, fun q hq => (by cases hq), fun q hq => (by cases hq)⟩
theorem copyP_ok {st : Oid} {s : St} {N : List Oid} {F : Oid → AObj} (h : StoP st s N F) : ∃ (es : List ME) (clock : Nat), MapP es s.L ∧ ∀ p, Old0 p N →
    CallOK Tryz.prog 18 [.ptr st 0] (Oid.under p) ⟨bk (N, F), .ptr (.sub 1 6 p) 0, [(.sub 1 6 p, some (.cells [.map (.sub 0 0 (.sub 1 4 p)), .nilPtr])), (.sub 0 0 (.sub 1 4 p), some (.map [.ss] false es clock))]⟩ := by
  obtain ⟨t, tv, es, clock, h1, h2, hts, k1, k2, k3⟩ := stoP_core h
  refine ⟨es, clock, k3, fun p ho => ?_⟩
  have hc := copy_ok st t tv es clock hts p (ho st h1) (ho t h2)
  refine ⟨hc.enters, fun x g args w m hm hn ha hs hx => hc.calls x g args w m hm (fun q hq => ?_) ha hs hx⟩
  refine hn q (mem_bk.2 ?_)
  simp only [List.mem_cons, List.not_mem_nil, or_false] at hq
  rcases hq with rfl | rfl
  · exact ⟨h1, k1.symm⟩
  · exact ⟨h2, k2.symm⟩
theorem stoP_copy {a b : Oid} (h : ¬ b = a) {es : List ME} {clock : Nat} {L : PL} (hm : MapP es L) : StoP a ⟨L, none⟩ [a, b] (two a (.cells [.map b, .nilPtr]) (.map [.ss] false es clock)) :=
  ⟨(by have h' : ¬ a = b := fun e => h e.symm; simp [h']), b, es, clock, rfl, if_pos rfl, if_neg h, hm⟩
theorem pathsP_ok {st : Oid} {s : St} {N : List Oid} {F : Oid → AObj} (h : StoP st s N F) (hs : SOK s) (p : Oid) (ho : Old0 p N) :
    CallOK Tryz.prog 29 [.ptr st 0] (Oid.under p) ⟨bk (N, F), .list 1 (s.L.map fun q => .str q.1), []⟩ := by
  obtain ⟨t, tv, es, clock, h1, h2, hts, k1, k2, k3⟩ := stoP_core h
  have hc := paths_ok st t tv es clock (by rw [mapP_len k3]; have := hs.po.len; omega) hts p (ho st h1) (ho t h2)
  rw [pathsP_eq k3 hs.sl, List.map_map] at hc
  refine CallOK.needBk hc fun q hq => mem_bk.2 ?_
  simp only [List.mem_cons, List.not_mem_nil, or_false] at hq
  rcases hq with rfl | rfl
  · exact ⟨h1, k1.symm⟩
  · exact ⟨h2, k2.symm⟩
theorem agreesP_ok {st : Oid} {s : St} {N : List Oid} {F : Oid → AObj} (h : StoP st s N F) (hs : SOK s) (l : List Tch) (hl : l.length ≤ 4000000000) (hn : ∀ h ∈ l, h.1.1.length ≤ 140737488355000) (p : Oid) (hp : p.mono = false) (ho : Old0 p N) :
    CallOK Tryz.prog 27 [.ptr st 0, .list 3 (l.map tchAV)] (Oid.under p) ⟨bk (N, F), .bool (agreesL s.L l), []⟩ := by
  obtain ⟨t, tv, es, clock, h1, h2, hts, k1, k2, k3⟩ := stoP_core h
  have hc := agrees_ok st t tv es clock s.L k3 hs.sl hs.po l hl hn hts p hp (ho st h1) (ho t h2)
  refine CallOK.needBk hc fun q hq => mem_bk.2 ?_
  simp only [List.mem_cons, List.not_mem_nil, or_false] at hq
  rcases hq with rfl | rfl
  · exact ⟨h1, k1.symm⟩
  · exact ⟨h2, k2.symm⟩
end Go.Proofs.YtaecbmbecofijaaGreatDoor
namespace Go.Proofs.YtaecbmbecofijaaGreatDoor
open Go Go.Ab
set_option maxRecDepth 20000
def EG (b : Bits) : Prop := (1 ≤ b.k ∧ b.k ≤ 3) ∧ (0 ≤ b.m ∧ b.m ≤ 7) ∧ ¬ (b.k = 2 ∧ ¬ b.l = []) ∧ b.l.length ≤ 3
theorem entryB_nat (m k l : UInt8) : (0 ≤ (entryB m k l).k ∧ (entryB m k l).k ≤ 3) ∧ (0 ≤ (entryB m k l).m ∧ (entryB m k l).m ≤ 7) ∧ ¬ ((entryB m k l).k = 2 ∧ ¬ (entryB m k l).l = []) ∧ (entryB m k l).l.length ≤ 3 := by
  have h4 : m.toNat % 4 < 4 := Nat.mod_lt _ (by decide)
  have h8 : k.toNat % 8 < 8 := Nat.mod_lt _ (by decide)
  refine ⟨by simp only [entryB]; omega, by simp only [entryB]; omega, ?_, ?_⟩
  · rintro ⟨h1, h2⟩
    apply h2
    simp only [entryB] at h1 ⊢
    rw [if_neg (by omega)]
  · simp only [entryB]
    split
    · simp only [List.length_drop, List.length_cons, List.length_nil]; omega
    · decide
theorem eg_entry (m k l : UInt8) (h0 : ¬ (entryB m k l).k = 0) : EG (entryB m k l) := by
  obtain ⟨h1, h2, h3, h4⟩ := entryB_nat m k l
  exact ⟨⟨by omega, h1.2⟩, h2, h3, h4⟩
theorem entryB_ok (m k l : UInt8) : (entryB m k l).ok := by
  obtain ⟨h1, h2, h3, h4⟩ := entryB_nat m k l
  exact ⟨⟨by omega, by omega⟩, ⟨by omega, by omega⟩, by omega⟩
theorem pathT_len (i : UInt8) : (pathT i).length ≤ 6 := by
  have h : i.toNat % 10 < 10 := Nat.mod_lt _ (by decide)
  unfold pathT
  generalize i.toNat % 10 = j at h
  have : ∀ j, j < 10 → (paths.getD j default).length ≤ 6 := by decide
  exact this j h
/-- A store of the laws. -/
structure SG (s : St) (n : Nat) : Prop where
  ok : SOK s
  len : s.L.length ≤ n
  key : ∀ q ∈ s.L, q.1.length ≤ 6
  good : ∀ q ∈ s.L, EG q.2
theorem putP_mem' {n : Str} {b : Bits} {L : PL} {q : Str × Bits} (h : q ∈ putP n b L) : (q = (n, b) ∧ ¬ b.k = 0) ∨ q ∈ L := by
  unfold putP at h
  split at h
  · exact .inr h
  · rcases insG_mem h with h | h
    · split at h
      · cases h
      · exact .inl ⟨List.mem_singleton.1 h, ‹_›⟩
    · exact .inr h
theorem SG.put {s : St} {n : Nat} (h : SG s n) (hn : n < 1000000) (i m k l : UInt8) : SG (s.put (pathT i) (entryB m k l)) (n + 1) :=
  ⟨h.ok.put _ _ (Nat.lt_of_le_of_lt h.len hn) (Nat.le_trans (pathT_len i) (by decide)) (entryB_ok m k l) ⟨(entryB_nat m k l).1.1, (entryB_nat m k l).2.1.1⟩,
   Nat.le_trans (putP_len (pathT i) (entryB m k l) s.L) (Nat.succ_le_succ h.len),
   fun q hq => by
    rcases putP_mem' hq with ⟨rfl, _⟩ | hq
    · exact pathT_len i
    · exact h.key q hq,
   fun q hq => by
    rcases putP_mem' hq with ⟨rfl, h0⟩ | hq
    · exact eg_entry m k l h0
    · exact h.good q hq⟩
theorem SG.mono {s : St} {n m : Nat} (h : SG s n) (hn : n ≤ m) : SG s m := ⟨h.ok, Nat.le_trans h.len hn, h.key, h.good⟩
theorem SG.read {s : St} {n : Nat} (h : SG s n) (f : Str × Bool) : SG (s.read f) n := ⟨h.ok.read f, h.len, h.key, h.good⟩
theorem SG.begin {s : St} {n : Nat} (h : SG s n) : SG s.begin n := ⟨h.ok.begin, h.len, h.key, h.good⟩
theorem SG.halt {s : St} {n : Nat} (h : SG s n) : SG s.halt n := ⟨h.ok.halt, h.len, h.key, h.good⟩
/-- A store that notes since it was L0. -/
structure TG (L0 : PL) (s : St) (n : Nat) (q : Tr) : Prop where
  t : s.t = some q
  old : q.old = L0
  rd : ∀ x ∈ q.R, x.2 = valP L0 x.1 ∧ x.1.1.length ≤ 6
  wr : ∀ n, lookG n q.W = none → lookG n s.L = lookG n L0
  wk : ∀ w ∈ q.W, ¬ w.1 = [] ∧ w.1.length ≤ 6
  rl : q.R.length ≤ n
  wl : q.W.length ≤ n
theorem lookP_put {L : PL} (hs : SortG ltB L) (n m : Str) (b : Bits) : lookG m (putP n b L) = if n = [] then lookG m L else if m = n then (if b.k = 0 then none else some b) else lookG m L := by
  unfold putP
  split
  · rfl
  · exact lookG_ins ordB n m _ hs
theorem TG.begin {s : St} : TG s.L s.begin 0 ⟨s.L, [], []⟩ :=
  ⟨rfl, rfl, fun x hx => (by cases hx), fun _ _ => rfl, fun w hw => (by cases hw), Nat.le_refl _, Nat.le_refl _⟩
theorem TG.mono {L0 : PL} {s : St} {n m : Nat} {q : Tr} (h : TG L0 s n q) (hn : n ≤ m) : TG L0 s m q := ⟨h.t, h.old, h.rd, h.wr, h.wk, Nat.le_trans h.rl hn, Nat.le_trans h.wl hn⟩
theorem TG.read {L0 : PL} {s : St} {n : Nat} {q : Tr} (h : TG L0 s n q) (hs : SOK s) (f : Str × Bool) (hf : f.1.length ≤ 6) : TG L0 (s.read f) (n + 1) (q.read f) := by
  have hT := hs.tr q h.t
  refine ⟨by simp only [St.read, h.t, Option.map_some], h.old, fun x hx => ?_, h.wr, h.wk, Nat.le_trans (readR_len hT.sr) (Nat.succ_le_succ h.rl), Nat.le_succ_of_le h.wl⟩
  have hx' : x ∈ readR q.old q.W f q.R := hx
  unfold readR at hx'
  split at hx'
  · exact h.rd x hx'
  · split at hx'
    · exact h.rd x hx'
    · rcases insG_mem hx' with hx | hx
      · rw [List.mem_singleton.1 hx, h.old]; exact ⟨rfl, hf⟩
      · exact h.rd x hx
theorem TG.put {L0 : PL} {s : St} {n : Nat} {q : Tr} (h : TG L0 s n q) (hs : SOK s) (m : Str) (hm : m.length ≤ 6) (b : Bits) : TG L0 (s.put m b) (n + 1) (q.put m) := by
  have hT := hs.tr q h.t
  refine ⟨by simp only [St.put, h.t, Option.map_some], h.old, h.rd, fun k hk => ?_, fun w hw => ?_, Nat.le_succ_of_le h.rl, Nat.le_trans (putW_len hT.sw) (Nat.succ_le_succ h.wl)⟩
  · have hk' : lookG k (putW true m q.W) = none := hk
    show lookG k (putP m b s.L) = _
    rw [lookP_put hs.sl]
    unfold putW at hk'
    split at hk'
    · rw [if_pos ‹_›]; exact h.wr k hk'
    · rw [if_pos rfl, lookG_ins ordB m k _ hT.sw] at hk'
      split at hk'
      · cases hk'
      · rw [if_neg ‹_›, if_neg ‹_›]; exact h.wr k hk'
  · have hw' : w ∈ putW true m q.W := hw
    unfold putW at hw'
    split at hw'
    · exact h.wk w hw'
    · rw [if_pos rfl] at hw'
      rcases insG_mem hw' with hw | hw
      · rw [List.mem_singleton.1 hw]; exact ⟨‹_›, hm⟩
      · exact h.wk w hw
theorem TG.agrees {L0 : PL} {s : St} {n : Nat} {q : Tr} (h : TG L0 s n q) : (s.reads.all fun x => valP L0 x.1 == x.2) = true := by
  unfold St.reads
  rw [h.t]
  exact List.all_eq_true.2 fun x hx => beq_iff_eq.2 (h.rd x hx).1.symm
end Go.Proofs.YtaecbmbecofijaaGreatDoor
namespace Go.Proofs.YtaecbmbecofijaaGreatDoor
open Go Go.Ab
set_option maxRecDepth 20000
theorem sortP_ext {L L' : PL} (h1 : SortG ltB L) (h2 : SortG ltB L') (h : ∀ n, lookG n L = lookG n L') : L = L' := by
  have n1 := h1.nodup ordB
  have n2 := h2.nodup ordB
  refine sortG_one ordB ((List.perm_ext_iff_of_nodup ((List.pairwise_map.1 n1).imp fun h e => h (congrArg _ e)) ((List.pairwise_map.1 n2).imp fun h e => h (congrArg _ e))).2 fun q => ?_) h1 h2
  obtain ⟨n, b⟩ := q
  rw [← lookG_mem n1, ← lookG_mem n2, h n]
theorem val_len {b : Bits} (h : EG b) : (valT b).length ≤ 4000000000 := by
  obtain ⟨⟨h1, h1'⟩, ⟨h2, h2'⟩, h3, h4⟩ := h
  obtain ⟨k, m, l⟩ := b
  simp only at h1 h1' h2 h2' h3 h4
  obtain ⟨k, rfl⟩ := Int.eq_ofNat_of_zero_le (by omega : 0 ≤ k)
  obtain ⟨m, rfl⟩ := Int.eq_ofNat_of_zero_le h2
  have hv : valT ⟨k, m, l⟩ = encT [Lib.decDigits k, Lib.decDigits m, l] := by
    rw [valT, if_neg (by simp only; omega), Lib.itoa_nonneg, Lib.itoa_nonneg]
  rw [hv]
  have d1 := digits_len 0 k (by omega)
  have d2 := digits_len 0 m (by omega)
  refine Nat.le_trans (encT_le (k := 100) (by decide) fun s hs => ?_) (by show 3 * 200 ≤ 4000000000; decide)
  simp only [List.mem_cons, List.not_mem_nil, or_false] at hs
  rcases hs with rfl | rfl | rfl <;> omega
theorem getP_eg {L : PL} (h : SortG ltB L) (hg : ∀ q ∈ L, EG q.2) {n : Str} (hn : ¬ n = []) : (lookG n L = none ∧ getP L n = Bits.no) ∨ ∃ b, lookG n L = some b ∧ getP L n = b ∧ EG b := by
  unfold getP
  rw [if_neg hn]
  cases hb : lookG n L with
  | none => exact .inl ⟨rfl, rfl⟩
  | some b => exact .inr ⟨b, rfl, rfl, hg _ ((lookG_mem (h.nodup ordB)).1 hb)⟩
theorem ent_get {L : PL} (h : SortG ltB L) (hg : ∀ q ∈ L, EG q.2) {n : Str} (hn : ¬ n = []) : entT (valT (getP L n)) = (getP L n, 0) ∧ (valT (getP L n)).length ≤ 4000000000 := by
  rcases getP_eg h hg hn with ⟨_, e⟩ | ⟨b, _, e, hb⟩
  · rw [e]; exact ⟨rfl, by decide⟩
  · rw [e]; exact ⟨ent_val b hb.1 hb.2.1 hb.2.2.1 (by have := hb.2.2.2; omega), val_len hb⟩
theorem putsL_t : ∀ (l : List Tch) (s : St), s.t = none → (putsL s l).t = none
  | [], _, h => h
  | q :: l, s, h => putsL_t l _ (by simp [St.put, h])
theorem putsL_look {L : PL} (h : SortG ltB L) (hg : ∀ q ∈ L, EG q.2) : ∀ (W : WL) (s : St), SortG ltB s.L → (∀ w ∈ W, ¬ w.1 = []) →
    SortG ltB (putsL s (W.map fun w => ((w.1, false), valT (getP L w.1)))).L ∧ ∀ n, lookG n (putsL s (W.map fun w => ((w.1, false), valT (getP L w.1)))).L = if n ∈ W.map (·.1) then lookG n L else lookG n s.L
  | [], s, hs, _ => ⟨hs, fun n => by simp [putsL]⟩
  | w :: W, s, hs, hw => by
    have hn := hw w List.mem_cons_self
    have he := (ent_get h hg hn).1
    obtain ⟨k1, k2⟩ := putsL_look h hg W (s.put w.1 (getP L w.1)) (putP_sort hs _ _) fun w' h' => hw w' (List.mem_cons_of_mem _ h')
    simp only [List.map_cons, putsL, he]
    refine ⟨k1, fun n => ?_⟩
    rw [k2 n]
    by_cases h1 : n ∈ W.map (·.1)
    · rw [if_pos h1, if_pos (List.mem_cons_of_mem _ h1)]
    · rw [if_neg h1]
      show lookG n (putP w.1 (getP L w.1) s.L) = _
      rw [lookP_put hs, if_neg hn]
      by_cases h2 : n = w.1
      · subst h2
        rw [if_pos rfl, if_pos List.mem_cons_self]
        rcases getP_eg h hg hn with ⟨e1, e⟩ | ⟨b, e1, e, hb⟩
        · rw [e, e1]; rfl
        · rw [e, e1, if_neg (by have := hb.1.1; omega)]
      · rw [if_neg h2, if_neg fun h3 => by
          rcases List.mem_cons.1 h3 with h3 | h3
          · exact h2 h3
          · exact h1 h3]
theorem TG.same {L0 : PL} {s : St} {n m : Nat} {q : Tr} (h : TG L0 s n q) (hs : SG s m) (h0 : SortG ltB L0) : putsL ⟨L0, none⟩ s.writes = ⟨s.L, none⟩ := by
  unfold St.writes
  rw [h.t]
  obtain ⟨k1, k2⟩ := putsL_look hs.ok.sl hs.good q.W ⟨L0, none⟩ h0 fun w hw => (h.wk w hw).1
  have k3 := putsL_t (q.W.map fun w => ((w.1, false), valT (getP s.L w.1))) ⟨L0, none⟩ rfl
  simp only
  generalize putsL ⟨L0, none⟩ (q.W.map fun w => ((w.1, false), valT (getP s.L w.1))) = z at k1 k2 k3
  obtain ⟨zL, zt⟩ := z
  simp only at k1 k2 k3
  subst k3
  congr 1
  refine sortP_ext k1 hs.ok.sl fun n => ?_
  rw [k2 n]
  split
  · rfl
  · rename_i hn
    refine (h.wr n ?_).symm
    cases hl : lookG n q.W with
    | none => rfl
    | some u => exact absurd (List.mem_map.2 ⟨(n, u), (lookG_mem ((hs.ok.tr q h.t).sw.nodup ordB)).1 hl, rfl⟩) hn
theorem TG.app {L0 : PL} {s : St} {n m : Nat} {q : Tr} (h : TG L0 s n q) (hs : SG s m) : ∀ x ∈ s.writes, AppOK x := by
  unfold St.writes
  rw [h.t]
  intro x hx
  obtain ⟨w, hw, rfl⟩ := List.mem_map.1 hx
  obtain ⟨hn, hl⟩ := h.wk w hw
  obtain ⟨e1, e2⟩ := ent_get hs.ok.sl hs.good hn
  refine ⟨Nat.le_trans hl (by decide), e2, ?_, ?_, ?_, rfl⟩
  · rw [e1]; exact getP_ok hs.ok.po w.1
  · rw [e1]; exact getP_nat hs.ok.no w.1
  · rw [e1]
theorem TG.wlen {L0 : PL} {s : St} {n : Nat} {q : Tr} (h : TG L0 s n q) : s.writes.length ≤ n := by
  unfold St.writes; rw [h.t]; simp only [List.length_map]; exact h.wl
theorem TG.rlen {L0 : PL} {s : St} {n : Nat} {q : Tr} (h : TG L0 s n q) : s.reads.length ≤ n ∧ ∀ x ∈ s.reads, x.1.1.length ≤ 6 := by
  unfold St.reads; rw [h.t]; exact ⟨h.rl, fun x hx => (h.rd x hx).2⟩
end Go.Proofs.YtaecbmbecofijaaGreatDoor
namespace Go.Proofs.YtaecbmbecofijaaGreatDoor
open Go Go.Ab
set_option maxRecDepth 20000
set_option maxHeartbeats 4000000
structure Act where
  a : UInt8
  b : UInt8
  m : UInt8
  k : UInt8
  l : UInt8
instance : Inhabited Act := ⟨⟨0, 0, 0, 0, 0⟩⟩
def actA (q : Act) : AV := .agg [.int .u8 q.a.toNat, .int .u8 q.b.toNat, .int .u8 q.m.toNat, .int .u8 q.k.toNat, .int .u8 q.l.toNat]
theorem oldC_under {p : Oid} {c i c0 : Nat} {N : List Oid} (h : ∀ j ∈ N, Oid.under (.sub c i p) j) (hc : c < c0) : OldC p c0 N := fun j hj ⟨c', i', hc', hu⟩ => by
  have := (Oid.apart (h j hj) hu).1; omega
theorem blk_pull2e {a b : Oid} (x y : AObj) (h : ¬ b = a) {N : List Oid} {F : Oid → AObj} (ha : a ∉ N) (hb : b ∉ N) : Mem.blk [(a, x), (b, y)] [(N, F)] = Mem.blk [] [(N, F), ([a, b], two a x y)] := by
  funext i
  rw [Mem.blk_at, Mem.blk_at, blk_nil_at, blk_nil_at, blk_nil_at]
  by_cases h1 : i = a
  · subst h1
    rw [if_pos rfl, if_neg ha, if_pos List.mem_cons_self]; simp [two]
  · rw [if_neg h1]
    by_cases h2 : i = b
    · subst h2
      rw [if_pos rfl, if_neg hb, if_pos (List.mem_cons_of_mem _ List.mem_cons_self)]; simp [two, h1]
    · rw [if_neg h2, if_neg (fun h3 : i ∈ [a, b] => by
        simp only [List.mem_cons, List.not_mem_nil, or_false] at h3
        exact h3.elim h1 h2)]
theorem applies_ok (l1 l2 : List Act) (h1 : l1.length ≤ 140737488355328) (h2 : l2.length ≤ 140737488355328) (p : Oid) (hp : p.mono = false) :
    CallOK Tryz.prog 4 [.list 5 (l1.map actA), .list 5 (l2.map actA)] (Oid.under p) ⟨[], .bool true, []⟩ := by
  refine fnOK (n := 139) (rs := [.tmp 4]) Tryz.func4 rfl rfl (by decide) rfl rfl rfl ?_; rintro x rfl hrd hng
  (repeat (first | (refine K_ifT rfl rfl ?_) | (refine K_ifF rfl rfl ?_) | (refine K_ev nmd [] hng (by kernel_rfl) fun hf C S K hC1 hC hS hK => ?_; simp (disch := first | omega | assumption) only [go_sem]; (repeat ((first | refine hC1 _ (awake_ok _ (mono_sub' rfl hp)) (by simp (disch := first | omega | assumption) only [go_sem]) ?_ | refine hC1 _ (new_ok _) (by simp (disch := first | omega | assumption) only [go_sem]) ?_); simp (disch := first | omega | assumption) only [go_sem])); refine hK ?_; clear hK hS hC hC1 K S C hf) | ((first | refine zn ?_ | refine ze ?_ | refine zk ?_); with_reducible (constructor; repeat constructor); try refine zl ?_)))
  have hab : ¬ Oid.sub 1 0 (.sub 3 0 x.p) = Oid.sub 1 2 (.sub 3 0 x.p) := by simp
  rw [blk_of, blk_pull2 _ _ hab]
  have hS := stoP_new hab
  have hO : OldC x.p 4 [Oid.sub 1 2 (.sub 3 0 x.p), Oid.sub 1 0 (.sub 3 0 x.p)] := oldC_under (c := 3) (i := 0) (fun j hj => by
    simp only [List.mem_cons, List.not_mem_nil, or_false] at hj
    rcases hj with rfl | rfl <;> exact Oid.under_sub (Oid.under_refl _)) (by omega)
  generalize two (Oid.sub 1 2 (.sub 3 0 x.p)) (.cells [.map (Oid.sub 1 0 (.sub 3 0 x.p)), .nilPtr]) (.map [.ss] false [] 0) = F at hS ⊢
  generalize [Oid.sub 1 2 (.sub 3 0 x.p), Oid.sub 1 0 (.sub 3 0 x.p)] = N at hS hO ⊢
  generalize Oid.sub 1 2 (.sub 3 0 x.p) = st at hS ⊢
  have hG : SG ⟨[], none⟩ 0 := ⟨sok_new, Nat.le_refl _, fun q hq => (by cases hq), fun q hq => (by cases hq)⟩
  refine K_loop [0, 1, 5, 6, 7] (fun k s' => ∃ (i c : Nat) (s : St) (F : Oid → AObj), s' = ⟨[(0, .list 5 (l1.map actA)), (1, .list 5 (l2.map actA)), (5, .bool true), (6, .ptr st 0), (7, .int .i64 i)], Mem.blk [] [(N, F)], c, []⟩ ∧ k = l1.length - i ∧ i ≤ l1.length ∧ i ≤ 20 ∧ 4 ≤ c ∧ StoP st s N F ∧ SG s i ∧ s.t = none) _ ⟨0, _, _, _, rfl, rfl, Nat.zero_le _, by omega, by omega, hS, hG, rfl⟩ ?_
  clear hS hG F hab
  rintro k s' ⟨i, c, s, F, rfl, rfl, hi, hi2, hc, hS, hG, ht⟩
  (try ((first | refine zn ?_ | refine ze ?_ | refine zk ?_); with_reducible (constructor; repeat constructor)); try refine zl ?_)
  refine K_cut [0, 1, 5, 6, 7, 30] (fun s' => ∃ c' : Nat, s' = ⟨[(0, .list 5 (l1.map actA)), (1, .list 5 (l2.map actA)), (5, .bool true), (6, .ptr st 0), (7, .int .i64 i), (30, .bool (decide (i < l1.length ∧ i < 20)))], Mem.blk [] [(N, F)], c', []⟩ ∧ 4 ≤ c') ?_ ?_
  · refine K_ev nmd [(4, 27)] hng (by kernel_rfl) fun hf C S K hC1 hC hS hK => ?_; simp (disch := first | omega | assumption) only [go_sem, List.length_map]
    (repeat' (first | (refine evG_split (fun hv => ?_) (fun hv => ?_) <;> (try simp only [zb1, zb2, zb3, zb4, zb5] at hv) <;> simp (disch := first | omega | assumption) only [go_sem, hv, List.length_map]) | (refine hK ?_; clear hK hS hC hC1 K S C hf)))
    · rw [show decide (i < l1.length ∧ i < 20) = decide ((i : Int) < 20) from decide_eq_decide.2 (by omega)]
      exact K_cutN ⟨_, rfl, by omega⟩
    · rw [show decide (i < l1.length ∧ i < 20) = false from decide_eq_false (by omega)]
      exact K_cutN ⟨_, rfl, by omega⟩
  rintro s' ⟨c', rfl, hc'⟩
  refine K_ifd rfl rfl (fun hb => ?_) (fun hb => ?_)
  · have hlt : i < l1.length := hb.1
    generalize hg : l1.getD i default = g
    obtain ⟨a, b, m, k, l⟩ := g
    obtain ⟨F', hS', hC'⟩ := putP_ok hS hG.ok (pathT b) (entryB m k l)
    have hG' := hG.put (by omega) b m k l
    have hE := fun p => lentry_ok a b m k l p
    have hP := fun p => path_ok b p
    generalize pathT b = n at hS' hC' hG' hP
    generalize entryB m k l = B at hS' hC' hG' hE
    obtain ⟨ek, em, el⟩ := B
    simp only [Bits.av] at hC' hE
    (try ((first | refine zn ?_ | refine ze ?_ | refine zk ?_); with_reducible (constructor; repeat constructor)); try refine zl ?_)
    refine K_evd nmd [] [(6, 10)] mixed hng (by kernel_rfl) [0, 1, 5, 6, 7] fun hf C S K hC hS hK => ?_; simp (disch := first | omega | assumption) only [go_sem, hg, actA, AV.cells, List.length_map]
    refine hC _ (hP _) (by simp (disch := first | omega | assumption) only [go_sem]) ?_
    simp (disch := first | omega | assumption) only [go_sem, hg, actA, AV.cells, List.length_map]
    refine hC _ (hE _) (by simp (disch := first | omega | assumption) only [go_sem]) ?_
    simp (disch := first | omega | assumption) only [go_sem, hg, actA, AV.cells, List.length_map]
    refine hC _ (hC' _ (mono_sub' rfl hp) (hO.sub (by omega) _)) (by show ∀ q, q ∈ bk _ → _; rw [need_0]; trivial) ?_
    simp (disch := first | omega | assumption) only [go_sem]
    (first | refine hK (dynN_quiet rfl) ?_ | refine hK (by simp (disch := first | omega | assumption) only [go_sem, List.reverse_cons, List.reverse_nil, ne_eq, not_false_eq_true, implies_true]) ?_); clear hK hS hC K S C hf
    (repeat (first | (refine K_ifT rfl rfl ?_) | (refine K_ifF rfl rfl ?_) | (refine K_ev nmd [] hng (by kernel_rfl) fun hf C S K hC1 hC hS hK => ?_; simp (disch := first | omega | assumption) only [go_sem]; refine hK ?_; clear hK hS hC hC1 K S C hf) | ((first | refine zn ?_ | refine ze ?_ | refine zk ?_); with_reducible (constructor; repeat constructor); try refine zl ?_)))
    exact ⟨_, _, by omega, fun _ _ h => h, i + 1, _, _, _, rfl, rfl, by omega, by omega, by omega, hS', hG', by simp [St.put, ht]⟩
  · obtain ⟨es, ck, hm, hcp⟩ := copyP_ok hS
    (repeat (first | (refine K_ifT rfl rfl ?_) | (refine K_ifF rfl rfl ?_) | (refine K_ev nmd [] hng (by kernel_rfl) fun hf C S K hC1 hC hS hK => ?_; simp (disch := first | omega | assumption) only [go_sem]; refine hK ?_; clear hK hS hC hC1 K S C hf) | ((first | refine zn ?_ | refine ze ?_ | refine zk ?_); with_reducible (constructor; repeat constructor); try refine zl ?_)))
    refine K_ev nmd [] hng (by kernel_rfl) fun hf C S K hC1 hC hS hK => ?_; simp (disch := first | omega | assumption) only [go_sem]
    refine hC1 _ (hcp _ (hO.sub (by omega) _)) (by show ∀ q, q ∈ bk _ → _; rw [need_0]; trivial) ?_
    simp (disch := first | omega | assumption) only [go_sem]
    refine hK ?_; clear hK hS hC hC1 K S C hf
    (repeat (first | (refine K_ifT rfl rfl ?_) | (refine K_ifF rfl rfl ?_) | (refine K_ev nmd [] hng (by kernel_rfl) fun hf C S K hC1 hC hS hK => ?_; simp (disch := first | omega | assumption) only [go_sem]; refine hK ?_; clear hK hS hC hC1 K S C hf) | ((first | refine zn ?_ | refine ze ?_ | refine zk ?_); with_reducible (constructor; repeat constructor); try refine zl ?_)))
    have hab2 : ¬ Oid.sub 0 0 (.sub 1 4 (.sub c' 1 x.p)) = Oid.sub 1 6 (.sub c' 1 x.p) := fun e => by have := congrArg Oid.depth e; simp only [Oid.depth] at this; omega
    have ha : Oid.sub 1 6 (.sub c' 1 x.p) ∉ N := (hO.sub hc' 1).mem
    have hb' : Oid.sub 0 0 (.sub 1 4 (.sub c' 1 x.p)) ∉ N := (hO.sub hc' 1).mem2
    rw [blk_pull2e _ _ hab2 ha hb']
    have hS2 := stoP_copy (clock := ck) hab2 hm
    have hO2 : OldC x.p (c' + 1) [Oid.sub 1 6 (.sub c' 1 x.p), Oid.sub 0 0 (.sub 1 4 (.sub c' 1 x.p))] := oldC_under (c := c') (i := 1) (fun j hj => by
      simp only [List.mem_cons, List.not_mem_nil, or_false] at hj
      rcases hj with rfl | rfl
      · exact Oid.under_sub (Oid.under_refl _)
      · exact Oid.under_sub (Oid.under_sub (Oid.under_refl _))) (by omega)
    have hdj : DJ N [Oid.sub 1 6 (.sub c' 1 x.p), Oid.sub 0 0 (.sub 1 4 (.sub c' 1 x.p))] := fun j hj hm => by
      simp only [List.mem_cons, List.not_mem_nil, or_false] at hm
      rcases hm with rfl | rfl
      · exact ha hj
      · exact hb' hj
    clear ha hb' hcp
    generalize two (Oid.sub 1 6 (.sub c' 1 x.p)) (.cells [.map (Oid.sub 0 0 (.sub 1 4 (.sub c' 1 x.p))), .nilPtr]) (.map [.ss] false es ck) = F2 at hS2 ⊢
    generalize [Oid.sub 1 6 (.sub c' 1 x.p), Oid.sub 0 0 (.sub 1 4 (.sub c' 1 x.p))] = N2 at hS2 hO2 hdj ⊢
    generalize Oid.sub 1 6 (.sub c' 1 x.p) = st2 at hS2 ⊢
    obtain ⟨N3, F3, hS3, hN3, hB3⟩ := beginP_ok hS (.sub (c' + 1 + 1) 1 x.p) (hO.sub (by omega) _)
    have hO3 : OldC x.p (c' + 3) N3 := fun j hj hy => by
      rcases hN3 j hj with h | h
      · exact hO j h (hy.mono (by omega))
      · obtain ⟨c1, i1, hc1, hu⟩ := hy
        have := (Oid.apart h hu).1; omega
    have hdj3 : DJ N3 N2 := fun j hj hj2 => by
      rcases hN3 j hj with h | h
      · exact hdj j h hj2
      · exact hO2 j hj2 ⟨_, _, by omega, h⟩
    refine K_ev nmd [] hng (by kernel_rfl) fun hf C S K hC1 hC hS hK => ?_; simp (disch := first | omega | assumption) only [go_sem]
    refine hC1 _ hB3 (by show ∀ q, q ∈ bk _ → _; rw [need_0]; trivial) ?_
    simp (disch := first | omega | assumption) only [go_sem]
    refine hK ?_; clear hK hS hC hC1 K S C hf
    refine K_exch (A := []) (fun a ha => by cases ha) (fun B hB => by rw [List.mem_singleton.1 hB]; exact hdj) ?_
    have hT3 := TG.begin (s := s)
    have hG3 := hG.begin
    (repeat (first | (refine K_ifT rfl rfl ?_) | (refine K_ifF rfl rfl ?_) | (refine K_ev nmd [] hng (by kernel_rfl) fun hf C S K hC1 hC hS hK => ?_; simp (disch := first | omega | assumption) only [go_sem]; refine hK ?_; clear hK hS hC hC1 K S C hf) | ((first | refine zn ?_ | refine ze ?_ | refine zk ?_); with_reducible (constructor; repeat constructor); try refine zl ?_)))
    refine K_loop [1, 5, 6, 8, 9] (fun k s' => ∃ (j c : Nat) (z : St) (q : Tr) (F3 : Oid → AObj), s' = ⟨[(1, .list 5 (l2.map actA)), (5, .bool true), (6, .ptr st 0), (8, .ptr st2 0), (9, .int .i64 j)], Mem.blk [] [(N3, F3), (N2, F2)], c, []⟩ ∧ k = l2.length - j ∧ j ≤ l2.length ∧ j ≤ 20 ∧ c' + 3 ≤ c ∧ StoP st z N3 F3 ∧ SG z (20 + j) ∧ TG s.L z j q) _ ⟨0, _, _, _, _, rfl, rfl, Nat.zero_le _, by omega, by omega, hS3, hG3.mono (by omega), hT3⟩ ?_
    clear hS3 hG3 hT3 hB3 F3 hS F
    rintro k s' ⟨j, c, z, q, F3, rfl, rfl, hj, hj2, hc, hS3, hG3, hT3⟩
    (try ((first | refine zn ?_ | refine ze ?_ | refine zk ?_); with_reducible (constructor; repeat constructor)); try refine zl ?_)
    refine K_cut [1, 5, 6, 8, 9, 59] (fun s' => ∃ c1 : Nat, s' = ⟨[(1, .list 5 (l2.map actA)), (5, .bool true), (6, .ptr st 0), (8, .ptr st2 0), (9, .int .i64 j), (59, .bool (decide (j < l2.length ∧ j < 20)))], Mem.blk [] [(N3, F3), (N2, F2)], c1, []⟩ ∧ c' + 3 ≤ c1) ?_ ?_
    · refine K_ev nmd [(4, 56)] hng (by kernel_rfl) fun hf C S K hC1 hC hS hK => ?_; simp (disch := first | omega | assumption) only [go_sem, List.length_map]
      (repeat' (first | (refine evG_split (fun hv => ?_) (fun hv => ?_) <;> (try simp only [zb1, zb2, zb3, zb4, zb5] at hv) <;> simp (disch := first | omega | assumption) only [go_sem, hv, List.length_map]) | (refine hK ?_; clear hK hS hC hC1 K S C hf)))
      · rw [show decide (j < l2.length ∧ j < 20) = decide ((j : Int) < 20) from decide_eq_decide.2 (by omega)]
        exact K_cutN ⟨_, rfl, by omega⟩
      · rw [show decide (j < l2.length ∧ j < 20) = false from decide_eq_false (by omega)]
        exact K_cutN ⟨_, rfl, by omega⟩
    clear hc c
    rintro s' ⟨c, rfl, hc⟩
    refine K_ifd rfl rfl (fun hb => ?_) (fun hb => ?_)
    · have hlt : j < l2.length := hb.1
      generalize hg : l2.getD j default = g
      obtain ⟨a, b, m, k, l⟩ := g
      have hP := fun p => path_ok b p
      have hPl := pathT_len b
      have hE := fun p => lentry_ok a b m k l p
      have hmod : ((a.toNat : Int)).tmod 4 = ((a.toNat % 4 : Nat) : Int) := tmod_nat _ 4
      have hr4 : a.toNat % 4 < 4 := Nat.mod_lt _ (by decide)
      (try ((first | refine zn ?_ | refine ze ?_ | refine zk ?_); with_reducible (constructor; repeat constructor)); try refine zl ?_)
      refine K_ev nmd [] hng (by kernel_rfl) fun hf C S K hC1 hC hS hK => ?_; simp (disch := first | omega | assumption) only [go_sem, hg, actA, AV.cells, List.length_map]
      refine hC1 _ (hP _) (by simp (disch := first | omega | assumption) only [go_sem]) ?_
      simp (disch := first | omega | assumption) only [go_sem, hg, actA, AV.cells, List.length_map]
      refine hK ?_; clear hK hS hC hC1 K S C hf
      (repeat (first | (refine K_ifT rfl rfl ?_) | (refine K_ifF rfl rfl ?_) | (refine K_ev nmd [] hng (by kernel_rfl) fun hf C S K hC1 hC hS hK => ?_; simp (disch := first | omega | assumption) only [go_sem, hg, actA, AV.cells, List.length_map, hmod]; refine hK ?_; clear hK hS hC hC1 K S C hf) | ((first | refine zn ?_ | refine ze ?_ | refine zk ?_); with_reducible (constructor; repeat constructor); try refine zl ?_)))
      generalize a.toNat % 4 = r at hmod hr4 ⊢
      refine K_cut [1, 5, 6, 8, 9, 10, 73, 77] (fun s' => ∃ c1 : Nat, s' = ⟨[(1, .list 5 (l2.map actA)), (5, .bool true), (6, .ptr st 0), (8, .ptr st2 0), (9, .int .i64 j), (10, .str (pathT b)), (73, .int .u8 r), (77, .bool (decide (r = 0 ∨ r = 1)))], Mem.blk [] [(N3, F3), (N2, F2)], c1, []⟩ ∧ c' + 3 ≤ c1) ?_ ?_
      · refine K_ifd rfl rfl (fun hb => ?_) (fun hb => ?_)
        · (repeat (first | (refine K_ifT rfl rfl ?_) | (refine K_ifF rfl rfl ?_) | (refine K_ev nmd [] hng (by kernel_rfl) fun hf C S K hC1 hC hS hK => ?_; simp (disch := first | omega | assumption) only [go_sem]; refine hK ?_; clear hK hS hC hC1 K S C hf) | ((first | refine zn ?_ | refine ze ?_ | refine zk ?_); with_reducible (constructor; repeat constructor); try refine zl ?_)))
          rw [show decide (r = 0 ∨ r = 1) = true from decide_eq_true (by omega)]
          exact K_cutN ⟨_, by rw [show decide ((r : Int) = 0) = true from decide_eq_true (by omega)]; rfl, by omega⟩
        · (repeat (first | (refine K_ifT rfl rfl ?_) | (refine K_ifF rfl rfl ?_) | (refine K_ev nmd [] hng (by kernel_rfl) fun hf C S K hC1 hC hS hK => ?_; simp (disch := first | omega | assumption) only [go_sem]; refine hK ?_; clear hK hS hC hC1 K S C hf) | ((first | refine zn ?_ | refine ze ?_ | refine zk ?_); with_reducible (constructor; repeat constructor); try refine zl ?_)))
          rw [show decide (r = 0 ∨ r = 1) = decide ((r : Int) = 1) from decide_eq_decide.2 (by omega)]
          exact K_cutN ⟨_, rfl, by omega⟩
      clear hc c
      rintro s' ⟨c, rfl, hc⟩
      refine K_ifd rfl rfl (fun hb => ?_) (fun hb => ?_)
      · obtain ⟨F', hS', hC'⟩ := putP_ok hS3 hG3.ok (pathT b) (entryB m k l)
        have hG' := hG3.put (by omega) b m k l
        have hT' := hT3.put hG3.ok (pathT b) hPl (entryB m k l)
        generalize pathT b = n at hS' hC' hG' hT' ⊢
        generalize entryB m k l = B at hS' hC' hG' hE hT'
        obtain ⟨ek, em, el⟩ := B
        simp only [Bits.av] at hC' hE
        (try ((first | refine zn ?_ | refine ze ?_ | refine zk ?_); with_reducible (constructor; repeat constructor)); try refine zl ?_)
        refine K_ev nmd [] hng (by kernel_rfl) fun hf C S K hC1 hC hS hK => ?_; simp (disch := first | omega | assumption) only [go_sem, hg, actA, AV.cells, List.length_map]
        refine hC1 _ (hE _) (by simp (disch := first | omega | assumption) only [go_sem]) ?_
        simp (disch := first | omega | assumption) only [go_sem, hg, actA, AV.cells, List.length_map]
        refine hC1 _ (hC' _ (mono_sub' rfl hp) (hO3.sub (by omega) _)) (by show ∀ q, q ∈ bk _ → _; rw [need_0]; trivial) ?_
        simp (disch := first | omega | assumption) only [go_sem]
        refine hK ?_; clear hK hS hC hC1 K S C hf
        (repeat (first | (refine K_ifT rfl rfl ?_) | (refine K_ifF rfl rfl ?_) | (refine K_ev nmd [] hng (by kernel_rfl) fun hf C S K hC1 hC hS hK => ?_; simp (disch := first | omega | assumption) only [go_sem]; refine hK ?_; clear hK hS hC hC1 K S C hf) | ((first | refine zn ?_ | refine ze ?_ | refine zk ?_); with_reducible (constructor; repeat constructor); try refine zl ?_)))
        exact ⟨_, _, by omega, fun _ _ h => h, j + 1, _, _, _, _, rfl, rfl, by omega, by omega, by omega, hS', hG', hT'⟩
      · (repeat (first | (refine K_ifT rfl rfl ?_) | (refine K_ifF rfl rfl ?_) | (refine K_ev nmd [] hng (by kernel_rfl) fun hf C S K hC1 hC hS hK => ?_; simp (disch := first | omega | assumption) only [go_sem]; refine hK ?_; clear hK hS hC hC1 K S C hf) | ((first | refine zn ?_ | refine ze ?_ | refine zk ?_); with_reducible (constructor; repeat constructor); try refine zl ?_)))
        refine K_ifd rfl rfl (fun hb => ?_) (fun hb => ?_)
        · obtain ⟨F', hS', hC'⟩ := atP_ok hS3 hG3.ok (pathT b) (by omega)
          have hT' := hT3.read hG3.ok (pathT b, false) hPl
          generalize getP z.L (pathT b) = B at hC'
          obtain ⟨ek, em, el⟩ := B
          simp only [Bits.av] at hC'
          generalize pathT b = n at hS' hC' hT' ⊢
          (try ((first | refine zn ?_ | refine ze ?_ | refine zk ?_); with_reducible (constructor; repeat constructor)); try refine zl ?_)
          refine K_ev nmd [] hng (by kernel_rfl) fun hf C S K hC1 hC hS hK => ?_; simp (disch := first | omega | assumption) only [go_sem]
          refine hC1 _ (hC' _ (mono_sub' rfl hp) (hO3.sub (by omega) _)) (by show ∀ q, q ∈ bk _ → _; rw [need_0]; trivial) ?_
          simp (disch := first | omega | assumption) only [go_sem]
          refine hK ?_; clear hK hS hC hC1 K S C hf
          (repeat (first | (refine K_ifT rfl rfl ?_) | (refine K_ifF rfl rfl ?_) | (refine K_ev nmd [] hng (by kernel_rfl) fun hf C S K hC1 hC hS hK => ?_; simp (disch := first | omega | assumption) only [go_sem]; refine hK ?_; clear hK hS hC hC1 K S C hf) | ((first | refine zn ?_ | refine ze ?_ | refine zk ?_); with_reducible (constructor; repeat constructor); try refine zl ?_)))
          exact ⟨_, _, by omega, fun _ _ h => h, j + 1, _, _, _, _, rfl, rfl, by omega, by omega, by omega, hS', (hG3.read _).mono (by omega), hT'⟩
        · obtain ⟨F', hS', hC'⟩ := namesP_ok hS3 hG3.ok (pathT b) (by omega)
          have hT' := hT3.read hG3.ok (pathT b, true) hPl
          generalize namesP z.L (pathT b) = B at hC'
          generalize pathT b = n at hS' hC' hT' ⊢
          (try ((first | refine zn ?_ | refine ze ?_ | refine zk ?_); with_reducible (constructor; repeat constructor)); try refine zl ?_)
          refine K_ev nmd [] hng (by kernel_rfl) fun hf C S K hC1 hC hS hK => ?_; simp (disch := first | omega | assumption) only [go_sem]
          refine hC1 _ (hC' _ (mono_sub' rfl hp) (hO3.sub (by omega) _)) (by show ∀ q, q ∈ bk _ → _; rw [need_0]; trivial) ?_
          simp (disch := first | omega | assumption) only [go_sem]
          refine hK ?_; clear hK hS hC hC1 K S C hf
          (repeat (first | (refine K_ifT rfl rfl ?_) | (refine K_ifF rfl rfl ?_) | (refine K_ev nmd [] hng (by kernel_rfl) fun hf C S K hC1 hC hS hK => ?_; simp (disch := first | omega | assumption) only [go_sem]; refine hK ?_; clear hK hS hC hC1 K S C hf) | ((first | refine zn ?_ | refine ze ?_ | refine zk ?_); with_reducible (constructor; repeat constructor); try refine zl ?_)))
          exact ⟨_, _, by omega, fun _ _ h => h, j + 1, _, _, _, _, rfl, rfl, by omega, by omega, by omega, hS', (hG3.read _).mono (by omega), hT'⟩
    · obtain ⟨N4, F4, hS4, hN4, hB4⟩ := endP_ok hS3 hG3.ok (fun q' hq' => by
        have e : q' = q := by have := hT3.t; rw [this] at hq'; exact (Option.some.inj hq').symm
        rw [e]
        exact ⟨Nat.le_trans hT3.rl (by omega), Nat.le_trans hT3.wl (by omega)⟩)
      have hO4 : OldC x.p (c' + 3) N4 := fun i hi => hO3 i (hN4 i hi)
      have hdj4 : DJ N4 N2 := fun i hi => hdj3 i (hN4 i hi)
      have hK2 : SOK ⟨s.L, none⟩ := hG.halt.ok
      have hag : agreesL s.L z.reads = true := hT3.agrees
      have hrl := hT3.rlen
      have hagr := fun p hp ho => agreesP_ok hS2 hK2 z.reads (by omega) (fun h hh => Nat.le_trans (hrl.2 h hh) (by decide)) p hp ho
      simp only [hag] at hagr
      obtain ⟨F5, hS5, happ⟩ := applyP_ok hS2 hK2 z.writes (by have := hT3.wlen; have := hG.len; show s.L.length + _ ≤ _; omega) (hT3.app hG3)
      rw [hT3.same hG3 hK2.sl] at hS5
      have hpa : ∀ p, Old0 p N4 → CallOK Tryz.prog 29 [.ptr st 0] (Oid.under p) ⟨bk (N4, F4), .list 1 ((z.L.map (·.1)).map AV.str), []⟩ := fun p ho => by
        have h := pathsP_ok hS4 hG3.halt.ok p ho
        rw [List.map_map]; exact h
      have hpb : ∀ p, Old0 p N2 → CallOK Tryz.prog 29 [.ptr st2 0] (Oid.under p) ⟨bk (N2, F5), .list 1 ((z.L.map (·.1)).map AV.str), []⟩ := fun p ho => by
        have h := pathsP_ok hS5 hG3.halt.ok p ho
        rw [List.map_map]; exact h
      have hzl : (z.L.map (·.1)).length ≤ 1000000 := by rw [List.length_map]; exact hG3.ok.po.len
      have hzk : ∀ n ∈ z.L.map (·.1), n.length ≤ 1000000 := fun n hn => by
        obtain ⟨q, hq, rfl⟩ := List.mem_map.1 hn
        exact hG3.ok.po.key q hq
      generalize z.L.map (·.1) = PS at hpa hpb hzl hzk
      have hsm := fun p => same_ok PS PS (by omega) (by omega) p
      rw [decide_eq_true rfl] at hsm
      generalize z.reads = RD at hB4 hagr
      generalize z.writes = WR at hB4 happ
      (repeat (first | (refine K_ifT rfl rfl ?_) | (refine K_ifF rfl rfl ?_) | (refine K_ev nmd [] hng (by kernel_rfl) fun hf C S K hC1 hC hS hK => ?_; simp (disch := first | omega | assumption) only [go_sem]; refine hK ?_; clear hK hS hC hC1 K S C hf) | ((first | refine zn ?_ | refine ze ?_ | refine zk ?_); with_reducible (constructor; repeat constructor); try refine zl ?_)))
      refine K_ev nmd [] hng (by kernel_rfl) fun hf C S K hC1 hC hS hK => ?_; simp (disch := first | omega | assumption) only [go_sem]
      refine hC1 _ (hB4 _ (mono_sub' rfl hp) (hO3.sub (by omega) _)) (by show ∀ q, q ∈ bk _ → _; rw [need_0]; trivial) ?_
      simp (disch := first | omega | assumption) only [go_sem]
      refine hK ?_; clear hK hS hC hC1 K S C hf
      refine K_exch (A := []) (fun a ha => by cases ha) (fun B hB => by rw [List.mem_singleton.1 hB]; exact hdj3) ?_
      (repeat (first | (refine K_ifT rfl rfl ?_) | (refine K_ifF rfl rfl ?_) | (refine K_ev nmd [] hng (by kernel_rfl) fun hf C S K hC1 hC hS hK => ?_; simp (disch := first | omega | assumption) only [go_sem]; refine hK ?_; clear hK hS hC hC1 K S C hf) | ((first | refine zn ?_ | refine ze ?_ | refine zk ?_); with_reducible (constructor; repeat constructor); try refine zl ?_)))
      refine K_ev nmd [] hng (by kernel_rfl) fun hf C S K hC1 hC hS hK => ?_; simp (disch := first | omega | assumption) only [go_sem]
      refine hC1 _ (hagr _ (mono_sub' rfl hp) (hO2.sub (by omega) _)) (by show ∀ q, q ∈ bk _ → _; rw [need_1 hdj4]; trivial) ?_
      simp (disch := first | omega | assumption) only [go_sem]
      refine hK ?_; clear hK hS hC hC1 K S C hf
      (try ((first | refine zn ?_ | refine ze ?_ | refine zk ?_); with_reducible (constructor; repeat constructor)); try refine zl ?_)
      refine K_ev nmd [] hng (by kernel_rfl) fun hf C S K hC1 hC hS hK => ?_; simp (disch := first | omega | assumption) only [go_sem]
      refine hC1 _ (happ _ (mono_sub' rfl hp) (hO2.sub (by omega) _)) (by show ∀ q, q ∈ bk _ → _; rw [need_1 hdj4]; trivial) ?_
      simp (disch := first | omega | assumption) only [go_sem, hdj4]
      refine hK ?_; clear hK hS hC hC1 K S C hf
      (try ((first | refine zn ?_ | refine ze ?_ | refine zk ?_); with_reducible (constructor; repeat constructor)); try refine zl ?_)
      refine K_ev nmd [] hng (by kernel_rfl) fun hf C S K hC1 hC hS hK => ?_; simp (disch := first | omega | assumption) only [go_sem]
      refine hC1 _ (hpa _ (hO4.sub (by omega) _)) (by show ∀ q, q ∈ bk _ → _; rw [need_0]; trivial) ?_
      simp (disch := first | omega | assumption) only [go_sem]
      refine hK ?_; clear hK hS hC hC1 K S C hf
      (try ((first | refine zn ?_ | refine ze ?_ | refine zk ?_); with_reducible (constructor; repeat constructor)); try refine zl ?_)
      refine K_ev nmd [(2, 108), (6, 112)] hng (by kernel_rfl) fun hf C S K hC1 hC hS hK => ?_; simp (disch := first | omega | assumption) only [go_sem, decide_true, decide_false, ne_eq, not_true_eq_false, not_false_eq_true]
      (repeat' (first | (refine evG_split (fun hv => ?_) (fun hv => ?_) <;> (try simp only [zb1, zb2, zb3, zb4, zb5] at hv) <;> simp (disch := first | omega | assumption) only [go_sem, hv, decide_true, decide_false, ne_eq, not_true_eq_false, not_false_eq_true, hdj4]) | (refine hC1 _ (hpb _ (hO2.sub (by omega) _)) (by simp (disch := first | omega | assumption) only [go_sem, decide_true, decide_false, ne_eq, not_true_eq_false, not_false_eq_true, hdj4]) ?_; simp (disch := first | omega | assumption) only [go_sem, decide_true, decide_false, ne_eq, not_true_eq_false, not_false_eq_true, hdj4]) | (refine hC1 _ (hsm _) (by simp (disch := first | omega | assumption) only [go_sem, decide_true, decide_false, ne_eq, not_true_eq_false, not_false_eq_true, hdj4]) ?_; simp (disch := first | omega | assumption) only [go_sem, decide_true, decide_false, ne_eq, not_true_eq_false, not_false_eq_true, hdj4]) | (refine hK ?_; clear hK hS hC hC1 K S C hf)))
      (repeat (first | (refine K_ifT rfl rfl ?_) | (refine K_ifF rfl rfl ?_) | (refine K_ev nmd [] hng (by kernel_rfl) fun hf C S K hC1 hC hS hK => ?_; simp (disch := first | omega | assumption) only [go_sem]; refine hK ?_; clear hK hS hC hC1 K S C hf) | ((first | refine zn ?_ | refine ze ?_ | refine zk ?_); with_reducible (constructor; repeat constructor); try refine zl ?_)))
      have hS5' : StoP st2 z.halt N2 F5 := hS5
      refine K_loop [5, 6, 8, 15, 16] (fun k s' => ∃ (i c : Nat) (F G : Oid → AObj), s' = ⟨[(5, .bool true), (6, .ptr st 0), (8, .ptr st2 0), (15, .list 1 (PS.map AV.str)), (16, .int .i64 i)], Mem.blk [] [(N4, F), (N2, G)], c, []⟩ ∧ k = PS.length - i ∧ i ≤ PS.length ∧ c' + 3 ≤ c ∧ StoP st z.halt N4 F ∧ StoP st2 z.halt N2 G) _ ⟨0, _, _, _, rfl, rfl, Nat.zero_le _, by omega, hS4, hS5'⟩ ?_
      clear hc hb hagr happ hpa hpb hB4 hS4 hS5 hS5' F4 F5 hi hi2 hj hj2
      rintro k s' ⟨i, c, F, G, rfl, rfl, hi, hc, hS4, hS5⟩
      (repeat (first | (refine K_ifT rfl rfl ?_) | (refine K_ifF rfl rfl ?_) | (refine K_ev nmd [] hng (by kernel_rfl) fun hf C S K hC1 hC hS hK => ?_; simp (disch := first | omega | assumption) only [go_sem, List.length_map]; refine hK ?_; clear hK hS hC hC1 K S C hf) | ((first | refine zn ?_ | refine ze ?_ | refine zk ?_); with_reducible (constructor; repeat constructor); try refine zl ?_)))
      refine K_ifd rfl rfl (fun hb => ?_) (fun hb => ?_)
      · have hlt : i < PS.length := by omega
        have hgl := hzk (PS.getD i default) (by rw [getD_in hlt]; exact List.getElem_mem hlt)
        generalize hg : PS.getD i default = g at hgl
        obtain ⟨F', hSa, hca⟩ := atP_ok hS4 hG3.halt.ok g (by omega)
        obtain ⟨G', hSb, hcb⟩ := atP_ok hS5 hG3.halt.ok g (by omega)
        have hSa' : StoP st z.halt N4 F' := hSa
        have hSb' : StoP st2 z.halt N2 G' := hSb
        generalize getP z.halt.L g = B at hca hcb
        obtain ⟨ek, em, el⟩ := B
        simp only [Bits.av] at hca hcb
        (try ((first | refine zn ?_ | refine ze ?_ | refine zk ?_); with_reducible (constructor; repeat constructor)); try refine zl ?_)
        refine K_evd nmd [] [(5, 10)] mixed hng (by kernel_rfl) [5, 6, 8, 15, 16, 137] fun hf C S K hC hS hK => ?_; simp (disch := first | omega | assumption) only [go_sem, hg, List.length_map]
        refine hC _ (hca _ (mono_sub' rfl hp) (hO4.sub (by omega) _)) (by show ∀ q, q ∈ bk _ → _; rw [need_0]; trivial) ?_
        simp (disch := first | omega | assumption) only [go_sem, hg, List.length_map]
        refine hC _ (hcb _ (mono_sub' rfl hp) (hO2.sub (by omega) _)) (by show ∀ q, q ∈ bk _ → _; rw [need_1 hdj4]; trivial) ?_
        simp (disch := first | omega | assumption) only [go_sem, hdj4, decide_true, decide_false, ne_eq, not_true_eq_false, not_false_eq_true]
        (first | refine hK (dynN_quiet rfl) ?_ | refine hK (by simp (disch := first | omega | assumption) only [go_sem, List.reverse_cons, List.reverse_nil, ne_eq, not_false_eq_true, implies_true]) ?_); clear hK hS hC K S C hf
        (repeat (first | (refine K_ifT rfl rfl ?_) | (refine K_ifF rfl rfl ?_) | (refine K_ev nmd [] hng (by kernel_rfl) fun hf C S K hC1 hC hS hK => ?_; simp (disch := first | omega | assumption) only [go_sem, decide_true, decide_false, ne_eq, not_true_eq_false, not_false_eq_true]; refine hK ?_; clear hK hS hC hC1 K S C hf) | ((first | refine zn ?_ | refine ze ?_ | refine zk ?_); with_reducible (constructor; repeat constructor); try refine zl ?_)))
        exact ⟨_, _, by omega, fun _ _ h => h, i + 1, _, _, _, rfl, rfl, by omega, by omega, hSa', hSb'⟩
      · (repeat (first | (refine K_ifT rfl rfl ?_) | (refine K_ifF rfl rfl ?_) | (refine K_ev nmd [] hng (by kernel_rfl) fun hf C S K hC1 hC hS hK => ?_; simp (disch := first | omega | assumption) only [go_sem]; refine hK ?_; clear hK hS hC hC1 K S C hf) | ((first | refine zn ?_ | refine ze ?_ | refine zk ?_); with_reducible (constructor; repeat constructor); try refine zl ?_)))
        exact K_ret (done1 rfl)
end Go.Proofs.YtaecbmbecofijaaGreatDoor
namespace Go.Proofs.YtaecbmbecofijaaGreatDoor
open Go Go.Ab
set_option maxRecDepth 100000
theorem c_u8 : Tryz.prog.cellsOf 5 = 1 := by kernel_rfl
theorem c_act : Tryz.prog.cellsOf 34 = 5 := by kernel_rfl
theorem b_act : Tryz.prog.bytesOf 34 = 5 := by kernel_rfl
theorem c_acts : Tryz.prog.cellsOf 22 = 1 := by kernel_rfl
theorem rd_act : Rd Tryz.prog 34 actA (fun _ => True) :=
  (rd_struct Tryz.underlying34 (by kernel_rfl) (rdF_cons rfl (rd_u8 Tryz.underlying5 c_u8) (rdF_cons (by rw [c_u8]) (rd_u8 Tryz.underlying5 c_u8) (rdF_cons (by rw [c_u8]) (rd_u8 Tryz.underlying5 c_u8) (rdF_cons (by rw [c_u8]) (rd_u8 Tryz.underlying5 c_u8) (rdF_cons (by rw [c_u8]) (rd_u8 Tryz.underlying5 c_u8) (rdF_nil _))))))).map
    (fun p => ⟨p.1, p.2.1, p.2.2.1, p.2.2.2.1, p.2.2.2.2.1⟩) (fun _ _ => rfl) (fun _ => c_act.symm) (fun _ _ => trivial)
theorem rd_acts : Rd Tryz.prog 22 (fun l : List Act => .list 5 (l.map actA)) (fun l => l.length ≤ 140737488355328) :=
  (rd_slice Tryz.underlying22 c_acts (by rw [c_act]; decide) rd_act).map id (fun _ _ => by rw [c_act]; rfl) (fun _ => c_acts.symm) (fun l h => by
    have h1 := h.1
    rw [b_act] at h1
    unfold reachBytes at h1
    show l.length ≤ _
    omega)
theorem storeApplies_lifted (os : Os) (started : os.Started) (H : Type) (enc : TypeId × Value → H) (F : Stop.Interp) :
    ReturnsInHanded {} Tryz.checked os 4 .any ((OpenSpec.ofChange Rows.storeAppliesSpec).preRow enc Tryz.prog Tryz.f4 Rows.storeAppliesRow.domain false Rows.storeAppliesRow.laid) (((OpenSpec.ofChange Rows.storeAppliesSpec).at F).post enc Tryz.prog Tryz.f4 false true false false) := by
  have hx : DataW.whole enc Tryz.prog ((laidWorld os).forCall (fun _ _ => 0) ⟨#[], #[.slice none 0 0, .slice none 0 0], []⟩).memory Tryz.f4.params.toList Rows.storeAppliesSpec.vars false (#[.slice none 0 0, .slice none 0 0] : Array Value).toList 8 = some ([.nil, .nil], [], []) := by kernel_rfl
  exact law_lifted_row (C := Tryz.checked) (s := Rows.storeAppliesSpec) (ts := [22, 22]) (W := fun p : List Act × List Act × Unit => p.1.length ≤ 140737488355328 ∧ p.2.1.length ≤ 140737488355328 ∧ True) own started (by kernel_rfl) Tryz.func4
    (witness_row_at (enc := enc) (C := Tryz.checked) false (laidWorld os) #[.slice none 0 0, .slice none 0 0] rfl (by kernel_rfl) (by kernel_rfl) (by kernel_rfl)
      (OpenSpec.preRow_of_cond 8 hx (by kernel_rfl) (fun k hk => by cases hk) (by kernel_rfl) (laid_met os _)))
    laidOut full (by rw [Tryz.params4]) (by kernel_rfl) (by kernel_rfl) Tryz.underlying4 rfl (fun ds h => by match ds, h with | [d0, d1], _ => rfl)
    (rdA_slice Tryz.underlying22 c_acts (fun _ => rfl) rd_acts (rdA_slice Tryz.underlying22 c_acts (fun _ => rfl) rd_acts rdA_nil)) (fun b hb => applies_ok b.1 b.2.1 hb.1 hb.2.1 _ rfl) (fun W h ho => laid_facts h ho)
theorem storeApplies_said : Rows.StoreAppliesSaid :=
  OpenClaim.holds_of_cond 4 Tryz.f4 rfl rfl rfl rfl rfl rfl rfl ⟨rfl, rfl, rfl, rfl, rfl⟩ rfl rfl rfl rfl rfl (by kernel_rfl) Tryz.func4 (by kernel_rfl)
    (of_decide_eq_true (by kernel_rfl)) (by unfold Func.isWrapper; first | (rw [if_pos (by decide +kernel)]; kernel_rfl) | (rw [if_neg (by decide +kernel)]; exact ⟨rfl, rfl⟩))
    (fun os started H enc _ F => by rw [OpenClaim.pre_eq_preRow]; exact storeApplies_lifted os started H enc F)
theorem storeApplies_plain (f : FuncId) (fn : Func) (hf : Tryz.pinned.checked.prog.funcNamed "scullion/scullionlaw05.StoreApplies" = some f) (hfn : Tryz.pinned.checked.prog.funcs[f]? = some fn) :
    true = Tryz.pinned.checked.prog.looks [] ∧ ∀ (j : Nat) t, fn.params[j]? = some t → Tryz.pinned.checked.prog.wantsStandIn t = false := by
  obtain rfl : f = 4 := Option.some.inj ((show Tryz.prog.funcNamed "scullion/scullionlaw05.StoreApplies" = some 4 by kernel_rfl).symm.trans hf) |>.symm
  obtain rfl : fn = Tryz.f4 := (Option.some.inj (Tryz.func4.symm.trans hfn)).symm
  refine ⟨by kernel_rfl, fun j t ht => ?_⟩
  have h0 : (Tryz.f4.params.toList.all fun t => !(Tryz.prog.wantsStandIn t)) = true := by kernel_rfl
  have h1 := List.all_eq_true.1 h0 t (by simpa using Array.mem_of_getElem? ht)
  exact (by simpa using h1 : Tryz.prog.wantsStandIn t = false)
theorem storeApplies_holds : Rows.StoreAppliesCardSaid :=
  Claim7.holds_tied_plain_at .later [] _ _ _ _ storeApplies_said (fun _ h => by cases h) (by kernel_rfl) (fun _ h => by cases h) storeApplies_row_tie rfl ⟨rfl, rfl⟩ (by kernel_rfl) rfl storeApplies_plain (by kernel_rfl)
end Go.Proofs.YtaecbmbecofijaaGreatDoor
