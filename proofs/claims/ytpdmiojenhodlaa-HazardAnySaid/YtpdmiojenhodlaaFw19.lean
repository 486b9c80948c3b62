/- Regions in which an operation has more than one outcome: the step of a walk over a map, calls of which more than one end is known, panics. -/
import Derived.Test.YtpdmiojenhodlaaFw18
set_option linter.unusedVariables false
set_option linter.unusedSimpArgs false
namespace Go.Ab

/-- The operation's outcomes: R: a value and what becomes of memory; Rp: a panic. -/
def EffND (P : Program) (o : Oper) (ρ : Operand → AV) (sp : Oid → Prop) (need : List (Oid × AObj)) (R Rp : AV → List (Oid × Option AObj) → Prop) : Prop :=
  ∀ (x : Ctx) (g : Gh) (a : Act) (w : World) (m : Mem), MemRel x g m w → (∀ q, q ∈ need → m q.1 = some q.2) →
    (∀ t, t ∈ o.op.operands.toList → VR g (ρ t) (a.eval t)) → (∀ i, sp i → g.loc i = none ∧ Oid.under x.p i) → P.globals.size ≤ x.ng →
    ∀ (next : Act → World → Prop) (Q : Exit → Act → World → Prop),
      (∀ val upd, R val upd → ∀ g' v w', g.le g' → (∀ i, ¬ sp i → g'.loc i = g.loc i) → VR g' val v → MemRel x g' (m.upds upd) w' → next (a.put o.dst v) w') →
      (∀ pv upd, Rp pv upd → ∀ g' (e : PanicEntry) w', g.le g' → (∀ i, ¬ sp i → g'.loc i = g.loc i) → VR g' pv e.v → e.recovered = false → e.goexit = false → MemRel x g' (m.upds upd) w' → Q (.panic [e]) a w') →
      o.wpIn (Fc x.rd) 0 P a w next Q

/-- The call's outcomes. -/
structure CallND (P : Program) (f : FuncId) (xs : List AV) (sp : Oid → Prop) (need : List (Oid × AObj)) (R Rp : AV → List (Oid × Option AObj) → Prop) : Prop where
  enters : entersB P f = true
  calls : ∀ (x : Ctx) (g : Gh) (args : Array Value) (w : World) (m : Mem), MemRel x g m w → (∀ q, q ∈ need → m q.1 = some q.2) → VRs g xs args → (∀ i, sp i → g.loc i = none ∧ Oid.under x.p i) → P.globals.size ≤ x.ng →
    Calls P f args w fun en w' => (∃ g' v val upd, en = .returned v ∧ R val upd ∧ g.le g' ∧ (∀ i, ¬ sp i → g'.loc i = g.loc i) ∧ VR g' val v ∧ MemRel x g' (m.upds upd) w') ∨
      (∃ g' e pv upd, en = .panicked [e] ∧ Rp pv upd ∧ g.le g' ∧ (∀ i, ¬ sp i → g'.loc i = g.loc i) ∧ VR g' pv e.v ∧ e.recovered = false ∧ e.goexit = false ∧ MemRel x g' (m.upds upd) w')

section
variable {P : Program} {o : Oper} {ρ : Operand → AV} {sp : Oid → Prop} {need : List (Oid × AObj)} {R Rp : AV → List (Oid × Option AObj) → Prop}

theorem CallOK.nd {f : FuncId} {xs : List AV} {e : Eff} (h : CallOK P f xs sp e) : CallND P f xs sp e.need (fun v u => v = e.val ∧ u = e.upd) (fun _ _ => False) :=
  ⟨h.enters, fun x g args w m hm hn ha hs hng => (h.calls x g args w m hm hn ha hs hng).mono fun _ _ ⟨g', v, h1, h2, h3, h4, h5⟩ => .inl ⟨g', v, e.val, e.upd, h1, ⟨rfl, rfl⟩, h2, h3, h4, h5⟩⟩
theorem CallND.weaken {f : FuncId} {xs : List AV} {R' Rp' : AV → List (Oid × Option AObj) → Prop} (h : CallND P f xs sp need R Rp) (hR : ∀ v u, R v u → R' v u) (hRp : ∀ v u, Rp v u → Rp' v u) : CallND P f xs sp need R' Rp' :=
  ⟨h.enters, fun x g args w m hm hn ha hs hng => (h.calls x g args w m hm hn ha hs hng).mono fun _ _ h => h.imp (fun ⟨g', v, val, upd, h1, h2, h3⟩ => ⟨g', v, val, upd, h1, hR _ _ h2, h3⟩) (fun ⟨g', e, pv, upd, h1, h2, h3⟩ => ⟨g', e, pv, upd, h1, hRp _ _ h2, h3⟩)⟩
/-- One outcome alone: an ordinary contract. -/
theorem CallND.ok {f : FuncId} {xs : List AV} {e : Eff} (h : CallND P f xs sp e.need (fun v u => v = e.val ∧ u = e.upd) (fun _ _ => False)) : CallOK P f xs sp e :=
  ⟨h.enters, fun x g args w m hm hn ha hs hng => (h.calls x g args w m hm hn ha hs hng).mono fun _ _ h => by
    rcases h with ⟨g', v, val, upd, h1, ⟨rfl, rfl⟩, h2, h3, h4, h5⟩ | ⟨_, _, _, _, _, h, _⟩
    · exact ⟨g', v, h1, h2, h3, h4, h5⟩
    · exact h.elim⟩

theorem eff_callND {f : Operand} {args : Array Operand} {ts : Array TypeId} {k : FuncId} {first cap : List AV} (ho : o.op = .call ⟨.value f, args, ts⟩) (hf : ρ f = .fn (.func k) first cap)
    (h : CallND P k (first ++ args.toList.map ρ ++ cap) sp need R Rp) : EffND P o ρ sp need R Rp := by
  intro x g a w m hm hn hop hs hng next Q K Kp
  have hfv := hop f (by simp [Op.operands, Call.operands, ho])
  rw [hf] at hfv
  obtain ⟨fa, ca, hu, h1, h2, h3, h4⟩ := hfv.fn_inv
  have hargs : VRs g (args.toList.map ρ) (args.map a.eval) := VRs.map fun t ht => hop t (by
    have : t ∈ args := by simpa using ht
    simp [Op.operands, Call.operands, ho, this])
  have hrun : (execOp a.eval o).run P w = .ok (.enter k (fa ++ args.map a.eval ++ ca)) w := by
    have he := h.enters
    unfold entersB at he
    cases hfn : P.funcs[k]? with
    | none => rw [hfn] at he; cases he
    | some fn =>
      rw [hfn] at he
      simp only [Bool.and_eq_true, bne_iff_ne, ne_eq] at he
      obtain ⟨he1, he2⟩ := he
      have hb : fn.body.isNone = false := by cases hbb : fn.body <;> simp_all
      have hnm : (fn.name == "runtime.NumGoroutine") = false := by simpa using he2
      simp only [execOp, ho, resolve, Sem.run_bind, hu, Deferred.ofValue, Sem.run_pure, Result.andThen_ok, invoke, callFunc, run_program, hfn, hnm, hb, Bool.false_eq_true, if_false]
  refine ⟨fun _ _ => trivial, ?_⟩
  rw [Oper.semAt_eq _ _ _ (fun c hc => by rw [ho] at hc; cases hc), hrun, Oper.uponIn_enter]
  refine ⟨fun hd => absurd hd (by simp [Fc]), callsIn_Fc.2 ?_⟩
  refine (h.calls x g _ w m hm hn (VRs.append (VRs.append ⟨h1, h3⟩ hargs) ⟨h2, h4⟩) hs hng).mono fun en w' hh => ?_
  rcases hh with ⟨g', v, val, upd, he, k0, k1, k2, k3, k4⟩ | ⟨g', e, pv, upd, he, k0, k1, k2, k3, k4, k5, k6⟩
  · subst he; exact K val upd k0 g' v w' k1 k2 k3 k4
  · subst he; exact Kp pv upd k0 g' e w' k1 k2 k3 k4 k5 k6
end

/-- The text's order, every outcome followed. -/
def evalN (P : Program) (md : Nat → Bool) (ops : Array Oper) (p : Oid) (c : Nat) : Nat → List Oper → List (Nat × AV) → Mem → (List (Nat × AV) → Mem → Prop) → (AV → List (Nat × AV) → Mem → Prop) → Prop
  | _, [], fr, m, K, _ => K fr m
  | i, o :: rest, fr, m, K, Kp =>
    match wantA ops o (F fr) with
    | some true =>
      match opF P m (.sub c i p) md (evA fr) o with
      | .eff e => evalN P md ops p c (i + 1) rest (put o.dst e.val fr) (m.upds e.upd) K Kp
      | .call f xs => (∃ e, CallOK P f xs (Oid.under (.sub c i p)) e ∧ (∀ q, q ∈ e.need → m q.1 = some q.2) ∧ evalN P md ops p c (i + 1) rest (put o.dst e.val fr) (m.upds e.upd) K Kp) ∨
          ∃ need R Rp, CallND P f xs (Oid.under (.sub c i p)) need R Rp ∧ (∀ q, q ∈ need → m q.1 = some q.2) ∧ (∀ val upd, R val upd → evalN P md ops p c (i + 1) rest (put o.dst val fr) (m.upds upd) K Kp) ∧ ∀ pv upd, Rp pv upd → Kp pv fr (m.upds upd)
      | .no => ∃ need R Rp, EffND P o (evA fr) (Oid.under (.sub c i p)) need R Rp ∧ (∀ q, q ∈ need → m q.1 = some q.2) ∧ (∀ val upd, R val upd → evalN P md ops p c (i + 1) rest (put o.dst val fr) (m.upds upd) K Kp) ∧ ∀ pv upd, Rp pv upd → Kp pv fr (m.upds upd)
    | some false => evalN P md ops p c (i + 1) rest (put o.dst (.tuple []) fr) m K Kp
    | none => False

theorem evalN_seq {P : Program} {md : Nat → Bool} {x : Ctx} {n c : Nat} {ds : List AD} {ops : Array Oper} {K : List (Nat × AV) → Mem → Prop} {Kp : AV → List (Nat × AV) → Mem → Prop} {Q : Exit → Act → World → Prop} (hng : P.globals.size ≤ x.ng)
    (hok : ∀ (j : Nat) o, ops[j]? = some o → operOK n P.globals.size ops o = true)
    (hK : ∀ g fr m a w, RR x n ds g (F fr) m a w → (∀ i, Young x.p (c + 1) i → g.loc i = none) → K fr m → Q .normal a w)
    (hKp : ∀ g fr m pv (e : PanicEntry) a w, RR x n ds g (F fr) m a w → (∀ i, Young x.p (c + 1) i → g.loc i = none) → VR g pv e.v → e.recovered = false → e.goexit = false → Kp pv fr m → Q (.panic [e]) a w) :
    ∀ (rest : List Oper) (i : Nat) (fr : List (Nat × AV)) (m : Mem) (g : Gh) (a : Act) (w : World), (∀ j, rest[j]? = ops[i + j]?) →
      evalN P md ops x.p c i rest fr m K Kp → RR x n ds g (F fr) m a w → (∀ k, Young x.p (c + 1) k → g.loc k = none) → (∀ j k, i ≤ j → Oid.under (.sub c j x.p) k → g.loc k = none) →
      wpOpsIn (Fc x.rd) 0 P ops Q (List.range' i rest.length) a w
  | [], i, fr, m, g, a, w, _, h, hr, hy, _ => by simp only [List.length_nil, List.range'_zero, wpOpsIn]; exact hK g fr m a w hr hy h
  | o :: rest, i, fr, m, g, a, w, hl, h, hr, hy, hs => by
    have h0 : ops[i]? = some o := by simpa using (hl 0).symm
    have hl' : ∀ j, rest[j]? = ops[i + 1 + j]? := fun j => by have := hl (j + 1); simpa [Nat.add_assoc, Nat.add_comm 1 j] using this
    have ho := hok i o h0
    obtain ⟨o1, o2, o3, o4⟩ := operOK_spec ho
    simp only [List.length_cons, List.range'_succ, wpOpsIn, h0]
    simp only [evalN] at h
    have young : ∀ g' : Gh, (∀ k, ¬ Oid.under (.sub c i x.p) k → g'.loc k = g.loc k) → (∀ k, Young x.p (c + 1) k → g'.loc k = none) ∧ ∀ j k, i + 1 ≤ j → Oid.under (.sub c j x.p) k → g'.loc k = none := by
      intro g' hloc
      refine ⟨fun k hk => ?_, fun j k hj hk => ?_⟩
      · rw [hloc k (fun hu => ?_)]; exact hy k hk
        obtain ⟨c', i', hc', hk'⟩ := hk
        have := (Oid.apart hu hk').1; omega
      · rw [hloc k (fun hu => ?_)]; exact hs j k (by omega) hk
        have := (Oid.apart hu hk).2; omega
    cases hw : wantA ops o (F fr) with
    | none => simp only [hw] at h
    | some b =>
      rw [VR.wanted o4 (fun t ht _ => hr.fr t ht) hw]
      cases b with
      | true =>
        simp only [hw] at h
        simp only [if_true]
        have det : ∀ e, EffOK P o (evA fr) (Oid.under (.sub c i x.p)) e → (∀ q, q ∈ e.need → m q.1 = some q.2) → evalN P md ops x.p c (i + 1) rest (put o.dst e.val fr) (m.upds e.upd) K Kp →
            o.wpIn (Fc x.rd) 0 P a w (wpOpsIn (Fc x.rd) 0 P ops Q (List.range' (i + 1) rest.length)) Q := fun e he hn hK' =>
          he x g a w m hr.mr hn (hr.operands hng ho (fun _ _ => rfl)) (fun k hk => ⟨hs i k (Nat.le_refl _) hk, Oid.under_sub hk⟩) hng _ _ fun g' v w' hle hloc hv hm =>
            evalN_seq hng hok hK hKp rest (i + 1) _ _ g' _ w' hl' hK' (by rw [F_put]; exact hr.put hle hm _ hv) (young g' hloc).1 (young g' hloc).2
        have nd : ∀ need R Rp, EffND P o (evA fr) (Oid.under (.sub c i x.p)) need R Rp → (∀ q, q ∈ need → m q.1 = some q.2) → (∀ val upd, R val upd → evalN P md ops x.p c (i + 1) rest (put o.dst val fr) (m.upds upd) K Kp) →
            (∀ pv upd, Rp pv upd → Kp pv fr (m.upds upd)) → o.wpIn (Fc x.rd) 0 P a w (wpOpsIn (Fc x.rd) 0 P ops Q (List.range' (i + 1) rest.length)) Q := fun need R Rp he hn hK' hP =>
          he x g a w m hr.mr hn (hr.operands hng ho (fun _ _ => rfl)) (fun k hk => ⟨hs i k (Nat.le_refl _) hk, Oid.under_sub hk⟩) hng _ _ (fun val upd hR g' v w' hle hloc hv hm =>
            evalN_seq hng hok hK hKp rest (i + 1) _ _ g' _ w' hl' (hK' val upd hR) (by rw [F_put]; exact hr.put hle hm _ hv) (young g' hloc).1 (young g' hloc).2) (fun pv upd hR g' e w' hle hloc hv h1 h2 hm =>
            hKp g' fr _ pv e a w' ⟨hm, hr.tm, hr.df.mono hle, fun t ht => (hr.fr t ht).mono hle⟩ (young g' hloc).1 hv h1 h2 (hP pv upd hR))
        split at h
        · rename_i e he
          obtain ⟨h1, h2⟩ := opF_ok (sp := Oid.under (.sub c i x.p)) (Oid.under_refl _) he
          exact det e h1 h2 h
        · rename_i f xs he
          rcases h with ⟨e, h1, h2, h3⟩ | ⟨need, R, Rp, h1, h2, h3, h4⟩
          · exact det e (opF_call he h1) h2 h3
          · refine nd need R Rp ?_ h2 h3 h4
            obtain ⟨_, _, _, _, _, k1, k2, rfl⟩ := opF_call_inv he
            exact eff_callND k1 k2 h1
        · obtain ⟨need, R, Rp, h1, h2, h3, h4⟩ := h
          exact nd need R Rp h1 h2 h3 h4
      | false =>
        simp only [hw] at h
        simp only [Bool.false_eq_true, if_false]
        refine ⟨fun _ _ => trivial, ?_⟩
        refine evalN_seq hng hok hK hKp rest (i + 1) _ _ g _ w hl' h ?_ hy (fun j k hj hk => hs j k (by omega) hk)
        rw [F_put]; exact hr.put (Gh.le_refl g) hr.mr _ (.tuple _ _ rfl (fun j hj => absurd hj (Nat.not_lt_zero _)))

section
variable {P : Program} {x : Ctx} {n : Nat} {Q : AX → AS → Prop} {id : Nat} {ops : Array Oper} {d : Code} {fr : List (Nat × AV)} {m : Mem} {c : Nat} {ds : List AD}
theorem T_region_nd (md : Nat → Bool) (hng : P.globals.size ≤ x.ng) (hok : ops.all (operOK n P.globals.size ops) = true)
    (h : Fresh x.p c m → evalN P md ops x.p c 0 ops.toList fr m (fun fr m => Q .normal ⟨fr, m, c + 1, ds⟩) (fun pv fr m => Q (.panic pv) ⟨fr, m, c + 1, ds⟩)) : T P x n (.region id ops false) ⟨fr, m, c, ds⟩ Q := by
  intro g a w hr
  refine wpIn_region ?_
  have hok' : ∀ (j : Nat) o, ops[j]? = some o → operOK n P.globals.size ops o = true := fun j o hj => by
    rw [Array.all_eq_true'] at hok
    exact hok o (Array.mem_of_getElem? hj)
  have := evalN_seq (ds := ds) (Q := fun e a' w' => ∃ g' ex s', Rel x n g' s' a' w' ∧ ex.fits g' e ∧ Q ex s') hng hok' (fun g fr m a w hr hy hq => ⟨g, .normal, ⟨fr, m, c + 1, ds⟩, hr.rel hy, trivial, hq⟩)
    (fun g fr m pv e a w hr hy hv h1 h2 hq => ⟨g, .panic pv, ⟨fr, m, c + 1, ds⟩, hr.rel hy, ⟨hv, h1, h2⟩, hq⟩)
    ops.toList 0 fr m g a w (fun j => by simp) (h hr.fresh) (RR.of hr) (fun k hk => hr.young k (hk.mono (Nat.le_succ _))) (fun j k _ hk => hr.young k ⟨c, j, Nat.le_refl _, hk⟩)
  simpa [List.range_eq_range'] using this

theorem evalN_mono {md : Nat → Bool} {p : Oid} {K K' : List (Nat × AV) → Mem → Prop} {Kp Kp' : AV → List (Nat × AV) → Mem → Prop} (hk : ∀ fr m, K fr m → K' fr m) (hp : ∀ v fr m, Kp v fr m → Kp' v fr m) :
    ∀ (rest : List Oper) (i : Nat) (fr : List (Nat × AV)) (m : Mem), evalN P md ops p c i rest fr m K Kp → evalN P md ops p c i rest fr m K' Kp'
  | [], _, _, _, h => hk _ _ h
  | o :: rest, i, fr, m, h => by
    simp only [evalN] at h ⊢
    split
    · rename_i hw
      simp only [hw] at h
      split
      · rename_i e he; simp only [he] at h; exact evalN_mono hk hp rest _ _ _ h
      · rename_i f xs he; simp only [he] at h
        rcases h with ⟨e, h1, h2, h3⟩ | ⟨need, R, Rp, h1, h2, h3, h4⟩
        · exact .inl ⟨e, h1, h2, evalN_mono hk hp rest _ _ _ h3⟩
        · exact .inr ⟨need, R, Rp, h1, h2, fun v u hR => evalN_mono hk hp rest _ _ _ (h3 v u hR), fun v u hR => hp _ _ _ (h4 v u hR)⟩
      · rename_i he; simp only [he] at h
        obtain ⟨need, R, Rp, h1, h2, h3, h4⟩ := h
        exact ⟨need, R, Rp, h1, h2, fun v u hR => evalN_mono hk hp rest _ _ _ (h3 v u hR), fun v u hR => hp _ _ _ (h4 v u hR)⟩
    · rename_i hw
      simp only [hw] at h
      exact evalN_mono hk hp rest _ _ _ h
    · rename_i hw
      simp only [hw] at h

theorem R_nd (ts : List Nat) (md : Nat → Bool) (hng : P.globals.size ≤ x.ng) (hok : textB n P.globals.size ops = true)
    (h : Fresh x.p c m → ∀ (K : List (Nat × AV) → Mem → Nat → Prop) (Kp : AV → List (Nat × AV) → Mem → Nat → Prop), (∀ fr m c, Q .normal ⟨fr, m, c, ds⟩ → K fr m c) → (∀ v fr m c, Q (.panic v) ⟨fr, m, c, ds⟩ → Kp v fr m c) →
      evalN P md ops x.p c 0 ops.toList fr m (fun fr m => K (keepF ts fr) m (c + 1)) (fun v fr m => Kp v (keepF ts fr) m (c + 1))) :
    T P x n (.region id ops false) ⟨fr, m, c, ds⟩ Q := by
  have := T_region_nd (P := P) (x := x) (n := n) (Q := fun e s => Q e ⟨keepF ts s.fr, s.mem, s.c, s.ds⟩) (id := id) (ds := ds) md hng hok fun hf =>
    h hf (fun fr m c => Q .normal ⟨fr, m, c, ds⟩) (fun v fr m c => Q (.panic v) ⟨fr, m, c, ds⟩) (fun _ _ _ h => h) (fun _ _ _ _ h => h)
  intro g a w hr
  refine wpIn_mono (this g a w hr) fun e a' w' ⟨g', ex, s', h1, h2, h3⟩ => ?_
  exact ⟨g', ex, ⟨keepF ts s'.fr, s'.mem, s'.c, s'.ds⟩, h1.forget _ (fun t _ => F_keepF ts s'.fr t), h2, h3⟩
theorem S_nd (ts : List Nat) (md : Nat → Bool) (hng : P.globals.size ≤ x.ng) (hok : textB n P.globals.size ops = true)
    (h : Fresh x.p c m → ∀ (K : List (Nat × AV) → Mem → Nat → Prop) (Kp : AV → List (Nat × AV) → Mem → Nat → Prop), (∀ fr m c, T P x n d ⟨fr, m, c, ds⟩ Q → K fr m c) → (∀ v fr m c, Q (.panic v) ⟨fr, m, c, ds⟩ → Kp v fr m c) →
      evalN P md ops x.p c 0 ops.toList fr m (fun fr m => K (keepF ts fr) m (c + 1)) (fun v fr m => Kp v (keepF ts fr) m (c + 1))) :
    T P x n (.seq (.region id ops false) d) ⟨fr, m, c, ds⟩ Q := T_seq (R_nd ts md hng hok h)

/-- What every map in memory keeps. -/
def WFm (m : Mem) : Prop := ∀ i ks ag es clock, m i = some (.map ks ag es clock) → (∀ e ∈ es, keyFits ks ag e.key = true ∧ e.born < clock) ∧ es.Pairwise fun e e' => e.born < e'.born
theorem T_wf {s : AS} {c : Code} (h : WFm s.mem → T P x n c s Q) : T P x n c s Q := fun g a w hr => h (fun i ks ag es clock hi => by
  obtain ⟨b, _, _, _, h4⟩ := hr.mr.obj i _ hi
  exact h4.2) g a w hr
end

/-! ### the step of a walk over a map -/
theorem MERs.mem {g : Gh} {es : List ME} {cs : List MapEntry} (h : MERs g es cs) : (∀ c ∈ cs, ∃ e ∈ es, VR g e.key c.key ∧ VR g e.val c.val ∧ c.born = e.born) ∧ ∀ e ∈ es, ∃ c ∈ cs, c.born = e.born := by
  induction h with
  | nil => exact ⟨(fun c h => by cases h), (fun e h => by cases h)⟩
  | cons hk hv hb t ih =>
    refine ⟨fun c hc => ?_, fun e he => ?_⟩
    · rcases List.mem_cons.1 hc with rfl | hc
      · exact ⟨_, by simp, hk, hv, hb⟩
      · obtain ⟨e, h1, h2⟩ := ih.1 c hc; exact ⟨e, by simp [h1], h2⟩
    · rcases List.mem_cons.1 he with rfl | he
      · exact ⟨_, by simp, hb⟩
      · obtain ⟨c, h1, h2⟩ := ih.2 e he; exact ⟨c, by simp [h1], h2⟩

theorem nd_next {P : Program} {o : Oper} {ρ : Operand → AV} {sp : Oid → Prop} {y : Operand} {it id : Oid} {since last : Nat} {seen : List Nat} {ks : List TyS} {ag : Bool} {es : List ME} {clock : Nat}
    (ho : o.op = .next y false) (hx : ρ y = .iter it) (hst : seen = [] ∨ es = [] ∨ ∃ e ∈ es, e.born < last) :
    EffND P o ρ sp [(it, .iter (some id) since seen last), (id, .map ks ag es clock)]
      (fun v u => (∃ e ∈ es, e.born ∉ seen ∧ v = .tuple [.bool true, e.key, e.val] ∧ u = [(it, some (.iter (some id) since (seen ++ [e.born]) clock))]) ∨ ((∀ e ∈ es, e.born < since → e.born ∈ seen) ∧ v = .tuple [.bool false] ∧ u = []))
      (fun _ _ => False) := by
  intro x g a w m hm hn hop hs hng next Q K _
  have hy := hop y (by simp [Op.operands, ho])
  rw [hx] at hy
  obtain ⟨b, hu, hb⟩ := hy.iter_inv
  have hmi := hn (it, .iter (some id) since seen last) (by simp)
  obtain ⟨b', k1, k2, k3, k4⟩ := hm.obj it _ hmi
  rw [hb] at k1; simp only [Option.some.injEq] at k1; subst k1
  obtain ⟨r, sa, c1, c2, kk, c3, rfl⟩ := k4
  obtain ⟨b', q1, q2, q3, q4⟩ := hm.obj id _ (hn (id, .map ks ag es clock) (by simp))
  rw [c3] at q1; simp only [Option.some.injEq] at q1; subst q1
  obtain ⟨⟨ents, d1, d2⟩, d3, d4⟩ := q4
  have htest : (!sa.isEmpty && !ents.isEmpty && ents.all (fun e => decide (e.born ≥ last))) = false := by
    rcases hst with h | h | ⟨e, he, hlt⟩
    · have : sa = #[] := by apply Array.ext'; rw [c2, h]
      simp [this]
    · subst h
      have hnil : ents.toList = [] := by have := d2.length; simpa using this
      have : ents = #[] := Array.ext' hnil
      simp [this]
    · obtain ⟨c, hc, hcb⟩ := d2.mem.2 e he
      have : ents.all (fun e => decide (e.born ≥ last)) = false := by
        rw [Array.all_eq_false]
        obtain ⟨j, hj, hje⟩ := List.mem_iff_getElem.1 hc
        exact ⟨j, by simpa using hj, by simp only [Array.getElem_toList] at hje; rw [hje]; simp; omega⟩
      simp [this]
  refine ⟨fun _ _ => trivial, ?_⟩
  rw [Oper.semAt_eq _ _ _ (fun c hc => by rw [ho] at hc; cases hc)]
  have hsz : b < w.heap.size := (Array.getElem?_eq_some_iff.1 c1).1
  simp only [execOp, ho, Instr.next, Sem.run_bind, hu, run_getObj' c1 rfl, MapKept.run_getObj_map d1, Result.andThen_ok, htest, Bool.false_eq_true, if_false]
  generalize hleft : ents.filter (fun e => !sa.contains e.born) = left
  generalize hcand : ((if (left.filter fun e => decide (e.born < since)).isEmpty then #[none] else #[]) ++ (left.filter (fun e => decide (e.born < since)) ++ left.filter fun e => decide (e.born ≥ since)).map some) = cand
  have hpos : 0 < cand.size := by
    rw [← hcand]
    by_cases h0 : (left.filter fun e => decide (e.born < since)).isEmpty = true
    · rw [if_pos h0, Array.size_append]; exact Nat.lt_of_lt_of_le Nat.zero_lt_one (Nat.le_add_right 1 _)
    · have h1 : 0 < (left.filter fun e => decide (e.born < since)).size := by
        rcases Nat.eq_zero_or_pos (left.filter fun e => decide (e.born < since)).size with h | h
        · exact absurd (by simp only [Array.isEmpty, h]; rfl) h0
        · exact h
      simp only [Array.size_append, Array.size_map]; omega
  have hch : ∃ j w1, j < cand.size ∧ (w1 = w ∨ w1 = w.drew) ∧ (choose (Question.mapNext cand.size)).run P w = .ok j w1 := by
    rw [run_choose_drew]
    by_cases hf : (Question.mapNext cand.size).forced = true
    · exact ⟨0, w, hpos, .inl rfl, by rw [if_pos hf]⟩
    · exact ⟨_, w.drew, Nat.mod_lt _ hpos, .inr rfl, by rw [if_neg hf]; rfl⟩
  obtain ⟨j, w1, hj, hw1, hrun⟩ := hch
  have hm1 : MemRel x g m w1 := by rcases hw1 with rfl | rfl; exact hm; exact hm.drew _ (Nat.le_succ _)
  have c1' : w1.heap[b]? = some (.mapIter (some kk) since sa last) := by rcases hw1 with rfl | rfl <;> exact c1
  simp only [hrun, Result.andThen_ok]
  have hget : cand[j]? = some cand[j] := by simp [hj]
  have hmem : cand[j] ∈ cand := Array.getElem_mem hj
  rw [hget]
  cases hcj : cand[j] with
  | none =>
    have hempty : (left.filter fun e => decide (e.born < since)).isEmpty = true := by
      rw [hcj, ← hcand] at hmem
      by_cases h0 : (left.filter fun e => decide (e.born < since)).isEmpty = true
      · exact h0
      · rw [if_neg h0] at hmem; simp at hmem
    simp only [Sem.run_pure, Result.andThen_ok]
    rw [Oper.uponIn_value]
    refine K (.tuple [.bool false]) [] (.inr ⟨fun e he hlt => ?_, rfl, rfl⟩) g _ w1 (Gh.le_refl g) (fun _ _ => rfl) (.tuple _ _ rfl (fun i hi => by match i, hi with | 0, _ => exact .bool _)) hm1
    obtain ⟨c, hc, hcb⟩ := d2.mem.2 e he
    apply Classical.byContradiction
    intro hns
    have hin : c ∈ left.filter fun e => decide (e.born < since) := by
      rw [← hleft]
      simp only [Array.mem_filter, decide_eq_true_eq, Bool.not_eq_true']
      refine ⟨⟨by simpa using hc, ?_⟩, by omega⟩
      rw [← Bool.not_eq_true, Array.contains_iff_mem, hcb]
      rw [← c2] at hns; simpa using hns
    simp only [Array.isEmpty_iff] at hempty
    rw [hempty] at hin
    simp at hin
  | some c =>
    have hin : c ∈ ents.toList ∧ sa.contains c.born = false := by
      rw [hcj, ← hcand] at hmem
      have : c ∈ left := by
        rcases Array.mem_append.1 hmem with h | h
        · split at h <;> simp at h
        · simp only [Array.mem_map, Option.some.injEq, Array.mem_append, Array.mem_filter] at h
          obtain ⟨c', h1, rfl⟩ := h
          rcases h1 with h1 | h1 <;> exact h1.1
      rw [← hleft] at this
      simp only [Array.mem_filter, Bool.not_eq_true'] at this
      exact ⟨by simpa using this.1, this.2⟩
    obtain ⟨e, he, h1, h2, h3⟩ := d2.mem.1 c hin.1
    have hset : (setObj b (.mapIter (some kk) since (sa.push c.born) clock)).run P w1 = .ok () { w1 with heap := w1.heap.setIfInBounds b (.mapIter (some kk) since (sa.push c.born) clock) } := by
      simp [setObj, Sem.run, c1']
    simp only [Sem.run_bind, hset, Result.andThen_ok, Sem.run_pure]
    rw [Oper.uponIn_value]
    have hlt1 : b < w1.heap.size := (Array.getElem?_eq_some_iff.1 c1').1
    have hnew : (w1.heap.setIfInBounds b (.mapIter (some kk) since (sa.push c.born) clock))[b]? = some (.mapIter (some kk) since (sa.push c.born) clock) := by simp [hlt1]
    have hturn := hm1.turn (o := .iter (some id) since (seen ++ [e.born]) clock) (w' := { w1 with heap := w1.heap.setIfInBounds b (.mapIter (some kk) since (sa.push c.born) clock) }) hmi hb rfl rfl ⟨rfl, Nat.le_refl _⟩ (by simp)
      (fun k hk _ => by simp [Array.getElem?_setIfInBounds, Ne.symm hk]) (fun r hr => by
        obtain ⟨cc, t, fz, h1, _⟩ := hm1.rows b r hr
        rw [c1'] at h1; cases h1) ⟨some kk, sa.push c.born, hnew, by rw [Array.toList_push, c2, h3], kk, c3, rfl⟩
    refine K (.tuple [.bool true, e.key, e.val]) [(it, some (.iter (some id) since (seen ++ [e.born]) clock))] (.inl ⟨e, he, ?_, rfl, rfl⟩) g _ _ (Gh.le_refl g) (fun _ _ => rfl) (.tuple _ _ rfl (fun i hi => ?_)) hturn
    · rw [← h3, ← c2]
      have := hin.2
      rw [← Bool.not_eq_true, Array.contains_iff_mem] at this
      simpa using this
    · match i, hi with
      | 0, _ => exact .bool _
      | 1, _ => exact h1
      | 2, _ => exact h2
end Go.Ab
