/- The statement 'for .. := range f': its rule. -/
import Derived.Test.YtpdmiojenhodlaaFw21
set_option linter.unusedVariables false
set_option linter.unusedSimpArgs false
namespace Go.Ab

theorem MemRel.rd {x : Ctx} {g : Gh} {m : Mem} {w : World} (h : MemRel x g m w) (r : Option Nat) : MemRel { x with rd := r } g m w :=
  ⟨h.le, h.locs, h.glob, h.coms, h.obj0, h.inj, h.com, h.one, h.rows, h.os, h.tape, h.output, h.size, h.kept⟩
theorem upds_sub {N : List (Oid × AObj)} {m : Mem} (hN : ∀ q ∈ N, m q.1 = some q.2) {u : List (Oid × Option AObj)} {i : Oid} {o : AObj} (h : ((Mem.of N).upds u) i = some o) : (m.upds u) i = some o := by
  by_cases hk : ∃ q, q ∈ u ∧ q.1 = i
  · rw [← h]; exact upds_key hk
  · have hno : ∀ q, q ∈ u → q.1 ≠ i := fun q hq e => hk ⟨q, hq, e⟩
    rw [upds_nokey hno] at h ⊢
    obtain ⟨q, h1, rfl, rfl⟩ := Mem.of_mem h
    exact hN q h1

/-- The parameters of a round. -/
def bindA (ps : List Nat) (xs : List AV) (fr : List (Nat × AV)) : List (Nat × AV) := (ps.zip xs).foldl (fun fr q => (q.1, q.2) :: fr) fr
theorem bind_spec {g : Gh} {n : Nat} : ∀ (ps : List Nat) (xs : List AV) (vs : List Value) (fr : List (Nat × AV)) (tmps : Array Value), tmps.size = n → (∀ t, t < n → VR g (F fr t) (tmps.getD t undef)) → xs.length = vs.length →
    (∀ j, j < xs.length → VR g (xs.getD j .undef) (vs.getD j undef)) →
    ((ps.zip vs).foldl (fun tmps q => tmps.setIfInBounds q.1 q.2) tmps).size = n ∧ ∀ t, t < n → VR g (F (bindA ps xs fr) t) (((ps.zip vs).foldl (fun tmps q => tmps.setIfInBounds q.1 q.2) tmps).getD t undef)
  | [], _, _, fr, tmps, h1, h2, _, _ => ⟨h1, h2⟩
  | p :: ps, [], [], fr, tmps, h1, h2, _, _ => ⟨h1, h2⟩
  | p :: ps, x :: xs, v :: vs, fr, tmps, h1, h2, h3, h4 => by
    have := bind_spec ps xs vs ((p, x) :: fr) (tmps.setIfInBounds p v) (by simpa using h1) (fun t ht => by
      simp only [F, Array.getD_eq_getD_getElem?, Array.getElem?_setIfInBounds]
      by_cases e : t = p
      · subst e; rw [if_pos rfl, if_pos rfl, if_pos (by omega)]; simpa using h4 0 (by simp)
      · rw [if_neg e, if_neg (fun h => e h.symm)]
        have := h2 t ht
        simpa [Array.getD_eq_getD_getElem?] using this) (by simpa using h3) (fun j hj => by simpa using h4 (j + 1) (by simpa using hj))
    simpa [bindA] using this
  | _ :: _, [], _ :: _, _, _, _, _, h, _ => by simp at h
  | _ :: _, _ :: _, [], _, _, _, _, h, _ => by simp at h

/-- What a round's end has to show. -/
def RoundQ (J : Option Code → List (List AV) → List (Oid × AObj) → Prop) (pre : List (List AV)) (L : List (Oid × AObj)) (p' : Oid) : AX → AS → Prop := fun e s =>
  match (match e with
    | .normal => some none
    | .ret => some (some .ret)
    | .exit id => some (some (.exit id))
    | .panic _ => none) with
  | some jump => ∃ L', J jump pre L' ∧ (∀ q ∈ L', s.mem q.1 = some q.2) ∧ ∀ q ∈ L', (∃ q' ∈ L, q'.1 = q.1) ∨ Oid.under p' q.1
  | none => False


theorem yield_of {P : Program} {n : Nat} {fr : List (Nat × AV)} {l k : Nat} {lid : Oid} {r : Loop} {V : List (List AV) → List AV → Prop} {J : Option Code → List (List AV) → List (Oid × AObj) → Prop} {A : List (List AV) → List AV → List (Oid × AObj) → Oid → AS → Prop}
    (hst : r.state = .ready) (hps : r.params.size = k)
    (hassign : ∀ (y : Ctx) pre xs L1, J none pre L1 → xs.length = k → V pre xs → y.rd = some l → P.globals.size ≤ y.ng → T P y n r.assign ⟨bindA r.params.toList xs fr, Mem.of L1, 0, []⟩ (fun e s => e = .normal ∧ A pre xs L1 y.p s))
    (hbody : ∀ (y : Ctx) pre xs L1 s, J none pre L1 → xs.length = k → V pre xs → y.rd = some l → P.globals.size ≤ y.ng → A pre xs L1 y.p s → T P y n r.body s (RoundQ J (pre ++ [xs]) L1 y.p))
    (pre : List (List AV)) (xs : List AV) (L1 : List (Oid × AObj)) (p' : Oid) (hj : J none pre L1) (hxs : xs.length = k) (hv : V pre xs) (hnl : ∀ q ∈ L1, q.1 ≠ lid) :
    YieldND P l xs (Oid.under p') ((lid, .loop l n fr r) :: L1) (fun val upd => ∃ jump L', val = .bool jump.isNone ∧ J jump (pre ++ [xs]) L' ∧ (∀ q ∈ L', q.1 ≠ lid) ∧
      UpdOK ((lid, .loop l n fr r) :: L1) (Oid.under p') upd ((lid, .loop l n fr { r with state := if jump.isNone then .ready else .done, pending := jump }) :: L')) := by
  intro y g args w m hm hn hargs hsp hng
  have hlid := hn _ (List.mem_cons_self)
  simp only at hlid
  obtain ⟨c1, c2, c3, c4, c5, c6, hbusy⟩ := hm.turnLoop (r' := { r with state := .busy }) hlid rfl
  have hlt : l < w.heap.size := (Array.getElem?_eq_some_iff.1 c1).1
  have hLn : ∀ q ∈ L1, m q.1 = some q.2 := fun q hq => hn q (List.mem_cons_of_mem _ hq)
  have hnot : ∀ q ∈ L1, g.loc q.1 ≠ some (some l) := fun q hq e => hnl q hq (hm.inj _ _ _ _ l (hLn q hq) hlid e c2)
  have hup : ∀ i, Oid.under p' i → i ≠ lid := fun i hi e => by rw [e] at hi; have := (hsp _ hi).1; rw [c2] at this; cases this
  have hpx : Oid.under y.p p' := (hsp p' (Oid.under_refl p')).2
  refine ⟨r.fn, _, r.assign, r.body, run_yield (P := P) (args := args) c1 (by rw [hargs.1, hxs, hps]), roundIn_of_wpIn (F := Fc y.rd) trivial ?_⟩
  have hbind := bind_spec (g := g) (n := n) r.params.toList xs args.toList fr r.tmps c5 c6 (by simp [hargs.1]) (fun j hj => by
    have := hargs.2 j hj
    simpa [List.getD_eq_getElem?_getD, Array.getD_eq_getD_getElem?] using this)
  have htm : (r.params.zip args).foldl (fun tmps (q : Tmp × Value) => tmps.setIfInBounds q.1 q.2) r.tmps = (r.params.toList.zip args.toList).foldl (fun tmps q => tmps.setIfInBounds q.1 q.2) r.tmps := by
    rw [← Array.toList_zip, Array.foldl_toList]
  have hm1 : MemRel { y.inner g w L1 p' with rd := some l } g (Mem.of L1) w := (hm.enter (need := L1) (p := p') hLn).rd (some l)
  have hrel : Rel { y.inner g w L1 p' with rd := some l } n g ⟨bindA r.params.toList xs fr, Mem.of L1, 0, []⟩ { tmps := (r.params.zip args).foldl (fun tmps (q : Tmp × Value) => tmps.setIfInBounds q.1 q.2) r.tmps, defers := [] } w := by
    rw [htm]
    exact ⟨hm1, hbind.1, .nil, hbind.2, fun i hi => (hsp i hi.under).1⟩
  have kmay : ∀ {o : Option Nat} {w0 : World}, w0.heap.size = w.heap.size → ¬ (({ y.inner g w0 L1 p' with rd := o } : Ctx).may0 l) := by
    rintro o w0 _ ⟨q, hq, hloc⟩; exact hnot q hq hloc
  refine wpIn_mono (hassign { y.inner g w L1 p' with rd := some l } pre xs L1 hj hxs hv rfl hng g _ w hrel) ?_
  rintro e1 a1 w1 ⟨g1, ex1, s1, r1, f1, rfl, hA⟩
  cases e1 <;> simp only [AX.fits] at f1
  simp only [Exit.then]
  have k1 : w1.heap[l]? = some (.loop r) := (r1.mr.kept l hlt (kmay rfl)).trans c1
  have hrow1 : ∀ rr, g1.row l ≠ some rr := fun rr hrr => by
    obtain ⟨cc, t, fz, h1, _⟩ := r1.mr.rows l rr hrr; rw [k1] at h1; cases h1
  refine ⟨_, run_beginRound k1 hst, ?_⟩
  obtain ⟨hm2, _⟩ := MemRel.both (x := y) (g0 := g) (w0 := w) (p := p') (need := L1) (ob := .loop { r with state := .busy }) (r1.mr.rd none) hlt hnot c4 hrow1
  have hrel2 : Rel { y.inner g (w.putObj l (.loop { r with state := .busy })) L1 p' with rd := some l } n g1 s1 a1 (w1.putObj l (.loop { r with state := .busy })) := ⟨hm2.rd (some l), r1.tm, r1.df, r1.fr, r1.young⟩
  refine wpIn_mono (hbody { y.inner g (w.putObj l (.loop { r with state := .busy })) L1 p' with rd := some l } pre xs L1 s1 hj hxs hv rfl hng hA g1 _ _ hrel2) ?_
  rintro e3 a3 w3 ⟨g3, ex3, s3, r3, f3, hq⟩
  have k3 : w3.heap[l]? = some (.loop { r with state := .busy }) := (r3.mr.kept l (by simpa [World.putObj, Ctx.inner] using hlt) (kmay (by simp [World.putObj]))).trans (World.putObj_heap_same hlt)
  have fin : ∀ jump L', J jump (pre ++ [xs]) L' → (∀ q ∈ L', s3.mem q.1 = some q.2) → (∀ q ∈ L', (∃ q' ∈ L1, q'.1 = q.1) ∨ Oid.under p' q.1) →
      ∃ v w', (Instr.endRound l jump).run P w3 = .ok v w' ∧ ∃ g' v' val upd, (Ending.returned v : Ending) = .returned v' ∧ (∃ jump L', val = .bool jump.isNone ∧ J jump (pre ++ [xs]) L' ∧ (∀ q ∈ L', q.1 ≠ lid) ∧
        UpdOK ((lid, .loop l n fr r) :: L1) (Oid.under p') upd ((lid, .loop l n fr { r with state := if jump.isNone then .ready else .done, pending := jump }) :: L')) ∧ g.le g' ∧ (∀ i, ¬ Oid.under p' i → g'.loc i = g.loc i) ∧ VR g' val v' ∧ MemRel y g' (m.upds upd) w' := by
    intro jump L' hJ' hL' hN'
    obtain ⟨s1', s2'⟩ := swap_of (L := L1) (sp := Oid.under p') hL' hN'
    have hL'n : ∀ q ∈ L', q.1 ≠ lid := fun q hq e => by
      rcases hN' q hq with ⟨q', h1, h2⟩ | h1
      · exact hnl q' h1 (h2.trans e)
      · exact hup _ h1 e
    have hkey : ∀ q ∈ clr L1 ++ sets L', q.1 ≠ lid := fun q hq e => by
      rcases List.mem_append.1 hq with h | h
      · obtain ⟨q', h1, rfl⟩ := List.mem_map.1 h; exact hnl q' h1 e
      · obtain ⟨q', h1, rfl⟩ := List.mem_map.1 h; exact hL'n q' h1 e
    have hlv := hbusy.leave (need := L1) (p := p') (fun q hq => by simp only [Mem.set]; rw [if_neg (hnl q hq)]; exact hLn q hq) hpx (g' := g3) (m' := s3.mem) (w' := w3) (upd := clr L1 ++ sets L') (r3.mr.rd none) s2'
    have hl3 : ((m.set lid (some (.loop l n fr { r with state := .busy }))).upds (clr L1 ++ sets L')) lid = some (.loop l n fr { r with state := .busy }) := by
      rw [upds_nokey hkey]; simp [Mem.set]
    obtain ⟨_, _, _, _, _, _, hfin⟩ := hlv.turnLoop (r' := { r with state := if jump.isNone then .ready else .done, pending := jump }) hl3 rfl
    refine ⟨_, _, run_endRound jump k3, g3, _, .bool jump.isNone, (lid, some (.loop l n fr { r with state := .busy })) :: (clr L1 ++ sets L') ++ [(lid, some (.loop l n fr { r with state := if jump.isNone then .ready else .done, pending := jump }))], rfl, ⟨jump, L', rfl, hJ', hL'n, ?_⟩, r3.mr.le, r3.mr.locs, .bool _, ?_⟩
    · refine ⟨fun q hq => ?_, fun q hq => ?_, fun q hq => ?_⟩
      · rw [upds_append]
        rcases List.mem_cons.1 hq with rfl | hq
        · simp [Mem.upds, Mem.set]
        · simp only [Mem.upds, Mem.set]
          rw [if_neg (hL'n q hq), ← s1'.got q hq]
          exact upds_key ⟨(q.1, some q.2), List.mem_append_right _ (List.mem_map.2 ⟨q, hq, rfl⟩), rfl⟩
      · rcases List.mem_append.1 hq with h | h
        · rcases List.mem_cons.1 h with rfl | h
          · exact .inl ⟨_, List.mem_cons_self, rfl⟩
          · exact (s1'.tou q h).imp (fun ⟨q', h1, h2⟩ => ⟨q', List.mem_cons_of_mem _ h1, h2⟩) id
        · simp only [List.mem_singleton] at h; subst h; exact .inl ⟨_, List.mem_cons_self, rfl⟩
      · rcases List.mem_cons.1 hq with rfl | hq
        · exact .inl ⟨_, List.mem_cons_self, rfl⟩
        · exact (hN' q hq).imp (fun ⟨q', h1, h2⟩ => ⟨q', List.mem_cons_of_mem _ h1, h2⟩) id
    · rw [upds_append]; exact hfin
  cases ex3 with
  | normal => cases e3 <;> simp only [AX.fits] at f3; obtain ⟨L', q1, q2, q3⟩ := hq; exact fin none L' q1 q2 q3
  | ret => cases e3 <;> simp only [AX.fits] at f3; obtain ⟨L', q1, q2, q3⟩ := hq; exact fin (some .ret) L' q1 q2 q3
  | exit i => cases e3 <;> simp only [AX.fits] at f3; subst f3; obtain ⟨L', q1, q2, q3⟩ := hq; exact fin (some (.exit i)) L' q1 q2 q3
  | panic v => exact hq.elim

section
variable {P : Program} {x : Ctx} {n : Nat} {Q : AX → AS → Prop} {fr : List (Nat × AV)} {m : Mem} {c : Nat} {ds : List AD}
theorem T_rangeFunc {t : Nat} {ps : Array Tmp} {assign body : Code} {gf : FuncId} {cap : List AV} {need : List (Oid × AObj)} {k : Nat} {V : List (List AV) → List AV → Prop} {S : Bool → List (List AV) → Prop}
    (hrd : x.rd = none) (hng : P.globals.size ≤ x.ng) (ht : (decide (t < n)) = true) (hg : F fr t = .fn (.func gf) [] cap) (hps : ps.size = k) (hseq : SeqND P gf cap (.sub c 2 x.p) need k V S) (hneed : ∀ q ∈ need, m q.1 = some q.2)
    (J : Option Code → List (List AV) → List (Oid × AObj) → Prop) (L : List (Oid × AObj)) (hJ : J none [] L) (hL : ∀ q ∈ L, m q.1 = some q.2) (hdis : ∀ q ∈ L, ∀ q' ∈ need, q.1 ≠ q'.1)
    (A : List (List AV) → List AV → List (Oid × AObj) → Oid → AS → Prop)
    (hassign : ∀ (y : Ctx) l pre xs L1, J none pre L1 → xs.length = k → V pre xs → y.rd = some l → P.globals.size ≤ y.ng → T P y n assign ⟨bindA ps.toList xs fr, Mem.of L1, 0, []⟩ (fun e s => e = .normal ∧ A pre xs L1 y.p s))
    (hbody : ∀ (y : Ctx) l pre xs L1 s, J none pre L1 → xs.length = k → V pre xs → y.rd = some l → P.globals.size ≤ y.ng → A pre xs L1 y.p s → T P y n body s (RoundQ J (pre ++ [xs]) L1 y.p))
    (hend : ∀ pre L' m', S true pre → J none pre L' → (∀ q ∈ L', m' q.1 = some q.2) → m' (.sub c 0 x.p) = some .dfr → (∀ i o, m i = some o → (∀ q ∈ L, q.1 ≠ i) → m' i = some o) → (∀ q ∈ L', (∃ q' ∈ need, q'.1 = q.1) ∨ (∃ q' ∈ L, q'.1 = q.1) ∨ Oid.under (.sub c 2 x.p) q.1) → Q .normal ⟨fr, m', c + 1, .coll (.sub c 0 x.p) :: ds⟩)
    (hstop : ∀ pre L' m' cd, S false pre → J (some cd) pre L' → (∀ q ∈ L', m' q.1 = some q.2) → m' (.sub c 0 x.p) = some .dfr → (∀ i o, m i = some o → (∀ q ∈ L, q.1 ≠ i) → m' i = some o) → (∀ q ∈ L', (∃ q' ∈ need, q'.1 = q.1) ∨ (∃ q' ∈ L, q'.1 = q.1) ∨ Oid.under (.sub c 2 x.p) q.1) → T P x n cd ⟨fr, m', c + 1, .coll (.sub c 0 x.p) :: ds⟩ Q) :
    T P x n (.rangeFunc (.tmp t) ps assign body) ⟨fr, m, c, ds⟩ Q := by
  intro g a w hr
  have htn : t < n := of_decide_eq_true ht
  have fresh := hr.fresh
  have hyoung : ∀ j, Young x.p c (.sub c j x.p) := fun j => ⟨c, j, Nat.le_refl _, Oid.under_refl _⟩
  have hyu : ∀ j i, Oid.under (.sub c j x.p) i → Young x.p c i := fun j i h => ⟨c, j, Nat.le_refl _, h⟩
  have hdl : g.loc (.sub c 0 x.p) = none := hr.young _ (hyoung 0)
  have hll : g.loc (.sub c 1 x.p) = none := hr.young _ (hyoung 1)
  have hne01 : (Oid.sub c 0 x.p) ≠ Oid.sub c 1 x.p := fun h => by injection h with _ h; omega
  have hmd : m (.sub c 0 x.p) = none := fresh _ (hyoung 0)
  have hml : m (.sub c 1 x.p) = none := fresh _ (hyoung 1)
  refine wpIn_rangeFunc ?_
  intro fn _
  obtain ⟨rec, hrec⟩ : ∃ rec : LoopState → Option Code → Loop, rec = fun st pe => { state := st, pending := pe, fn, tmps := a.tmps, params := ps, assign, body, defers := w.heap.size } := ⟨_, rfl⟩
  generalize hl : w.heap.size + 1 = l
  -- the two new blocks
  have h1 := hr.mr.new (i := .sub c 0 x.p) hdl (hyoung 0).under (o := .dfr) (ob := .deferred (some [])) (heap_new _ _)
  have hs1 : (w.alloc (.deferred (some []))).heap.size = l := by simp [hl]
  have hl1 : (g.bind (.sub c 0 x.p) w.heap.size).loc (.sub c 1 x.p) = none := by simp only [Gh.bind]; rw [if_neg hne01.symm]; exact hll
  have h2 := h1.new (i := .sub c 1 x.p) hl1 (hyoung 1).under (o := .loop l n fr (rec .ready none)) (ob := .loop (rec .ready none)) ⟨hs1, heap_new _ _, by rw [hrec]; exact hr.tm, fun t ht => by
    rw [hrec]; exact (hr.fr t ht).mono (Gh.le_trans (Gh.le_bind hdl) (Gh.le_bind hl1))⟩
  rw [hs1] at h2
  generalize hw2 : (w.alloc (.deferred (some []))).alloc (.loop (rec .ready none)) = w2 at h2
  generalize hg2 : (g.bind (.sub c 0 x.p) w.heap.size).bind (.sub c 1 x.p) l = g2 at h2
  have hle2 : g.le g2 := by rw [← hg2]; exact Gh.le_trans (Gh.le_bind hdl) (Gh.le_bind hl1)
  have hloc2 : ∀ i, i ≠ .sub c 0 x.p → i ≠ .sub c 1 x.p → g2.loc i = g.loc i := fun i h3 h4 => by rw [← hg2]; simp only [Gh.bind]; rw [if_neg h4, if_neg h3]
  have hd2 : g2.loc (.sub c 0 x.p) = some (some w.heap.size) := by rw [← hg2]; simp only [Gh.bind]; rw [if_neg hne01]; simp
  generalize hm2 : (m.set (.sub c 0 x.p) (some .dfr)).set (.sub c 1 x.p) (some (.loop l n fr (rec .ready none))) = m2 at h2
  have m2old : ∀ i o, m i = some o → m2 i = some o := fun i o hi => by
    rw [← hm2]; simp only [Mem.set]
    rw [if_neg (fun e => by rw [e, hml] at hi; cases hi), if_neg (fun e => by rw [e, hmd] at hi; cases hi)]; exact hi
  have m2l : m2 (.sub c 1 x.p) = some (.loop l n fr (rec .ready none)) := by rw [← hm2]; simp [Mem.set]
  have m2d : m2 (.sub c 0 x.p) = some .dfr := by rw [← hm2]; simp only [Mem.set]; rw [if_neg hne01]; simp
  -- the iterator's contract
  have hfv := hr.fr t htn
  rw [hg] at hfv
  obtain ⟨fa, ca, hu, e1, e2, e3, e4⟩ := hfv.fn_inv
  have hfa : fa = #[] := Array.eq_empty_of_size_eq_zero (by simpa using e1)
  subst hfa
  have ltL : ∀ q ∈ L, q.1 ≠ .sub c 1 x.p := fun q hq e => by have := hL q hq; rw [e, hml] at this; cases this
  have hcall := hseq l (fun b pre LL => ∃ L1 pe, LL = (.sub c 1 x.p, .loop l n fr (rec (if pe.isNone then .ready else .done) pe)) :: L1 ∧ J pe pre L1 ∧ b = pe.isNone ∧ ∀ q ∈ L1, q.1 ≠ .sub c 1 x.p)
    ((.sub c 1 x.p, .loop l n fr (rec .ready none)) :: L) ⟨L, none, rfl, hJ, rfl, ltL⟩
    (fun q hq q' hq' e => by
      rcases List.mem_cons.1 hq with rfl | hq
      · have := hneed q' hq'; rw [← e, hml] at this; cases this
      · exact hdis q hq q' hq' e)
    (fun q hq hu => by
      rcases List.mem_cons.1 hq with rfl | hq
      · have := (Oid.apart hu (Oid.under_refl (.sub c 1 x.p))).2; omega
      · have h8 := hL q hq; have h9 : m q.1 = none := fresh _ (hyu 2 _ hu); rw [h9] at h8; cases h8)
    (by
      rintro pre xs LL p' ⟨L1, pe, rfl, hj, hb, hnl⟩ hxs hv
      have hpe : pe = none := by cases pe with | none => rfl | some _ => cases hb
      subst hpe
      have hy := yield_of (V := V) (P := P) (n := n) (fr := fr) (l := l) (k := k) (lid := .sub c 1 x.p) (r := rec .ready none) (J := J) (A := A) (by rw [hrec]) (by rw [hrec]; exact hps)
        (fun y pre xs L1 => by rw [hrec]; exact hassign y l pre xs L1) (fun y pre xs L1 s => by rw [hrec]; exact hbody y l pre xs L1 s) pre xs L1 p' hj hxs hv hnl
      intro y g' args w' m' h3 h4 h5 h6 h7
      obtain ⟨f, tmps, as, bo, k1, k2, k3⟩ := hy y g' args w' m' h3 h4 h5 h6 h7
      refine ⟨f, tmps, as, bo, k1, k2, fun cc cs hroom => ?_⟩
      obtain ⟨en, w'', ⟨g'', v, val, upd, rfl, ⟨jump, L', q1, q2, q3, q4⟩, q5⟩, hc⟩ := k3 cc cs hroom
      refine ⟨.returned v, w'', ⟨g'', v, val, upd, rfl, ⟨jump.isNone, _, q1, ⟨L', jump, rfl, q2, rfl, q3⟩, ?_⟩, q5⟩, hc⟩
      rw [hrec] at q4 ⊢; exact q4)
  have hrun : (callFunc gf (#[.func (.yield l) #[] #[]] ++ ca)).run P w2 = .ok (.enter gf (#[.func (.yield l) #[] #[]] ++ ca)) w2 := by
    have he := hcall.enters
    unfold entersB at he
    cases hfn : P.funcs[gf]? with
    | none => rw [hfn] at he; cases he
    | some fn =>
      rw [hfn] at he
      simp only [Bool.and_eq_true, bne_iff_ne, ne_eq] at he
      obtain ⟨he1, he2⟩ := he
      have hb : fn.body.isNone = false := by cases hbb : fn.body <;> simp_all
      have hnm : (fn.name == "runtime.NumGoroutine") = false := by simpa using he2
      simp only [callFunc, Sem.run_bind, run_program, hfn, hnm, hb, Bool.false_eq_true, if_false, Result.andThen_ok, Sem.run_pure]
  refine ⟨l, [{ target := .collected w.heap.size, args := #[] }], w2, { target := .fn (.func gf) ca, args := #[.func (.yield l) #[] #[]] }, w2, gf, #[.func (.yield l) #[] #[]] ++ ca, w2, ?_, ?_, fun _ _ => trivial, ?_, fun h => absurd h (by simp [Fc]), ?_⟩
  · have := run_enterLoop_outer (P := P) (w := w) fn a.tmps ps assign body
    have e1 : (Fc x.rd).round = none := hrd
    rw [e1, this, ← hl, ← hw2, hrec]
  · have : a.eval (.tmp t) = .func (.func gf) #[] ca := hu
    simp only [resolve, Sem.run_bind, this, Deferred.ofValue, Sem.run_pure, Result.andThen_ok]
    simp [Act.eval]
  · simpa [invoke] using hrun
  · have hneed2 : ∀ q ∈ need ++ (Oid.sub c 1 x.p, AObj.loop l n fr (rec .ready none)) :: L, m2 q.1 = some q.2 := fun q hq => by
      rcases List.mem_append.1 hq with h | h
      · exact m2old _ _ (hneed q h)
      · rcases List.mem_cons.1 h with rfl | h
        · exact m2l
        · exact m2old _ _ (hL q h)
    have hsp2 : ∀ i, Oid.under (.sub c 2 x.p) i → g2.loc i = none ∧ Oid.under x.p i := fun i hi => by
      refine ⟨?_, Oid.under_sub hi⟩
      rw [hloc2 i (fun e => by rw [e] at hi; have := (Oid.apart hi (Oid.under_refl (.sub c 0 x.p))).2; omega) (fun e => by rw [e] at hi; have := (Oid.apart hi (Oid.under_refl (.sub c 1 x.p))).2; omega)]
      exact hr.young i (hyu 2 i hi)
    refine callsIn_Fc.2 ((hcall.calls x g2 _ w2 m2 h2 hneed2 ?_ hsp2 hng).mono ?_)
    · refine ⟨by simp [e2, Nat.add_comm], fun j hj => ?_⟩
      cases j with
      | zero => rw [getD_append_left (by simp)]; simpa using VR.fn (g := g2) (.yield l) [] [] #[] #[] rfl rfl (fun j hj => absurd hj (Nat.not_lt_zero _)) (fun j hj => absurd hj (Nat.not_lt_zero _))
      | succ j =>
        have := (e4 j (by simpa using hj)).mono hle2
        rw [getD_append_right (by simp)]
        simpa using this
    · rintro en w4 (⟨g4, v, val, upd, rfl, ⟨b, pre, LL', hS, ⟨L', pe, rfl, hj, hb, hnl⟩, hU⟩, k1, k2, k3, k4⟩ | ⟨_, _, _, _, _, hf, _⟩)
      · have m4 : ∀ q ∈ need ++ (Oid.sub c 1 x.p, AObj.loop l n fr (rec (if pe.isNone then .ready else .done) pe)) :: L', (m2.upds upd) q.1 = some q.2 := fun q hq => upds_sub hneed2 (hU.got q hq)
        have hl4 := m4 (.sub c 1 x.p, .loop l n fr (rec (if pe.isNone then .ready else .done) pe)) (by simp)
        obtain ⟨c1, c2, _, _, _, _, hm5⟩ := k4.turnLoop (r' := { rec (if pe.isNone then .ready else .done) pe with state := .exhausted }) hl4 rfl
        have hstate : (rec (if pe.isNone then .ready else .done) pe).state ≠ .busy := by rw [hrec]; cases pe <;> simp
        have touch : ∀ q ∈ upd, q.1 = .sub c 1 x.p ∨ (∃ q' ∈ need, q'.1 = q.1) ∨ (∃ q' ∈ L, q'.1 = q.1) ∨ Oid.under (.sub c 2 x.p) q.1 := fun q hq => by
          rcases hU.tou q hq with ⟨q', h1, h2⟩ | h1
          · rcases List.mem_append.1 h1 with h | h
            · exact .inr (.inl ⟨q', h, h2⟩)
            · rcases List.mem_cons.1 h with rfl | h
              · exact .inl h2.symm
              · exact .inr (.inr (.inl ⟨q', h, h2⟩))
          · exact .inr (.inr (.inr h1))
        have hd4 : (m2.upds upd) (.sub c 0 x.p) = some .dfr := by
          rw [upds_nokey (fun q hq e => ?_)]; exact m2d
          rcases touch q hq with h | ⟨q', h1, h2⟩ | ⟨q', h1, h2⟩ | h
          · exact hne01 (e.symm.trans h)
          · have := hneed q' h1; rw [h2, e, hmd] at this; cases this
          · have := hL q' h1; rw [h2, e, hmd] at this; cases this
          · rw [e] at h; have := (Oid.apart h (Oid.under_refl (.sub c 0 x.p))).2; omega
        have hold : ∀ i o, m i = some o → (∀ q ∈ L, q.1 ≠ i) → (m2.upds upd) i = some o := fun i o hi hno => by
          by_cases hk : ∃ q, q ∈ upd ∧ q.1 = i
          · obtain ⟨q, hq, rfl⟩ := hk
            rcases touch q hq with h | ⟨q', h1, h2⟩ | ⟨q', h1, h2⟩ | h
            · rw [h, hml] at hi; cases hi
            · have h8 := m4 q' (by simp [h1]); have h9 := hneed q' h1
              rw [h2] at h8 h9; rw [hi] at h9; rw [h8, h9]
            · exact absurd h2 (hno q' h1)
            · have h9 : m q.1 = none := fresh _ (hyu 2 _ h); rw [h9] at hi; cases hi
          · rw [upds_nokey (fun q hq e => hk ⟨q, hq, e⟩)]; exact m2old i o hi
        have hpend : (rec (if pe.isNone then .ready else .done) pe).pending = pe := by rw [hrec]
        have hel : (Instr.endLoop l).run P w4 = .ok pe (w4.putObj l (.loop { rec (if pe.isNone then .ready else .done) pe with state := .exhausted })) := by
          have := run_endLoop (P := P) c1 hstate
          rw [this]; congr 1
        refine ⟨pe, _, hel, ?_⟩
        generalize hmf : (m2.upds upd).set (.sub c 1 x.p) (some (.loop l n fr { rec (if pe.isNone then .ready else .done) pe with state := .exhausted })) = mf at hm5
        have p1 : ∀ q ∈ L', mf q.1 = some q.2 := fun q hq => by
          rw [← hmf]; simp only [Mem.set]; rw [if_neg (hnl q hq)]; exact m4 q (by simp [hq])
        have p2 : mf (.sub c 0 x.p) = some .dfr := by rw [← hmf]; simp only [Mem.set]; rw [if_neg hne01]; exact hd4
        have p3 : ∀ i o, m i = some o → (∀ q ∈ L, q.1 ≠ i) → mf i = some o := fun i o hi hno => by
          rw [← hmf]; simp only [Mem.set]; rw [if_neg (fun e => by rw [e, hml] at hi; cases hi)]; exact hold i o hi hno
        have p4 : ∀ q ∈ L', (∃ q' ∈ need, q'.1 = q.1) ∨ (∃ q' ∈ L, q'.1 = q.1) ∨ Oid.under (.sub c 2 x.p) q.1 := fun q hq => by
          rcases hU.nam q (by simp [hq]) with ⟨q', h1, h2⟩ | h1
          · rcases List.mem_append.1 h1 with h | h
            · exact .inl ⟨q', h, h2⟩
            · rcases List.mem_cons.1 h with rfl | h
              · exact absurd h2.symm (hnl q hq)
              · exact .inr (.inl ⟨q', h, h2⟩)
          · exact .inr (.inr h1)
        have hle4 : g.le g4 := Gh.le_trans hle2 k1
        have hrel : Rel x n g4 ⟨fr, mf, c + 1, .coll (.sub c 0 x.p) :: ds⟩ { a with defers := [{ target := .collected w.heap.size, args := #[] }] ++ a.defers } (w4.putObj l (.loop { rec (if pe.isNone then .ready else .done) pe with state := .exhausted })) := by
          refine ⟨hm5, hr.tm, .cons (.coll _ _ (k1.1 _ _ hd2)) (hr.df.mono hle4), fun t ht => (hr.fr t ht).mono hle4, fun i hi => ?_⟩
          obtain ⟨c', j, hc', hu'⟩ := hi
          have hc'' : c + 1 ≤ c' := hc'
          have na : ∀ j', ¬ Oid.under (.sub c j' x.p) i := fun j' h => by have := (Oid.apart h hu').1; omega
          rw [k2 i (na 2), hloc2 i (fun e => na 0 (by rw [e]; exact Oid.under_refl _)) (fun e => na 1 (by rw [e]; exact Oid.under_refl _))]
          exact hr.young i ⟨c', j, Nat.le_of_succ_le hc'', hu'⟩
        cases pe with
        | none => subst hb; exact ⟨g4, .normal, _, hrel, trivial, hend pre L' mf hS hj p1 p2 p3 p4⟩
        | some cd => subst hb; exact hstop pre L' mf cd hS hj p1 p2 p3 p4 g4 _ _ hrel
      · exact hf.elim
end
end Go.Ab
