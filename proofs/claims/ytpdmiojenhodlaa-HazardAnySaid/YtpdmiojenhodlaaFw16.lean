/- A function's contract out of its text's triple; a row fixed for good in the middle of a text. -/
import Derived.Test.YtpdmiojenhodlaaFw15
set_option linter.unusedVariables false
set_option linter.unusedSimpArgs false
namespace Go.Ab

/-- A call's own view of the world: its arguments' objects are the only old blocks that it may write. -/
def Ctx.inner (x : Ctx) (g : Gh) (w : World) (need : List (Oid × AObj)) (p : Oid) : Ctx :=
  { ng := x.ng, g0 := g, w0 := w, may0 := fun b => ∃ q, q ∈ need ∧ g.loc q.1 = some (some b), p := p, rd := none }

theorem Mem.of_mem {l : List (Oid × AObj)} {i : Oid} {o : AObj} (h : Mem.of l i = some o) : ∃ q, q ∈ l ∧ q.1 = i ∧ q.2 = o := by
  induction l with
  | nil => cases h
  | cons q l ih =>
    simp only [Mem.of, Mem.set] at h
    split at h
    · rename_i e; simp only [Option.some.injEq] at h; exact ⟨q, List.mem_cons_self, e.symm, h⟩
    · obtain ⟨q', h1, h2, h3⟩ := ih h; exact ⟨q', List.mem_cons_of_mem _ h1, h2, h3⟩
theorem Mem.of_some {l : List (Oid × AObj)} {q : Oid × AObj} (h : q ∈ l) : ∃ o, Mem.of l q.1 = some o := by
  induction l with
  | nil => cases h
  | cons q' l ih =>
    simp only [Mem.of, Mem.set]
    split
    · exact ⟨_, rfl⟩
    · rename_i hne
      rcases List.mem_cons.1 h with rfl | h
      · exact absurd rfl hne
      · exact ih h

section
variable {x : Ctx} {g : Gh} {m : Mem} {w : World} {need : List (Oid × AObj)} {p : Oid}

theorem MemRel.enter (h : MemRel x g m w) (hn : ∀ q, q ∈ need → m q.1 = some q.2) : MemRel (x.inner g w need p) g (Mem.of need) w := by
  have sub : ∀ i o, Mem.of need i = some o → m i = some o := fun i o hi => by
    obtain ⟨q, h1, rfl, rfl⟩ := Mem.of_mem hi; exact hn q h1
  refine ⟨Gh.le_refl g, fun _ _ => rfl, h.glob, fun b o v hv => .inl hv, fun i o hi => ?_, fun i j o o' b hi hj => h.inj i j o o' b (sub i o hi) (sub j o' hj), h.com, h.one, h.rows, rfl, rfl, ⟨rfl, Nat.le_refl _⟩, Nat.le_refl _, fun _ _ _ => rfl⟩
  rcases h.obj0 i o (sub i o hi) with hv | ⟨b, h1, h2, h3, h4⟩
  · exact .inl hv
  obtain ⟨q, k1, rfl, rfl⟩ := Mem.of_mem hi
  exact .inr ⟨b, h1, h2, .inl ⟨q, k1, h1⟩, h4⟩

theorem MemRel.leave (h : MemRel x g m w) (hn : ∀ q, q ∈ need → m q.1 = some q.2) (hp : Oid.under x.p p) {g' : Gh} {m' : Mem} {w' : World} (h' : MemRel (x.inner g w need p) g' m' w') {upd : List (Oid × Option AObj)}
    (hm : ∀ i o, ((Mem.of need).upds upd) i = some o → m' i = some o) : MemRel x g' (m.upds upd) w' := by
  have hle : g.le g' := h'.le
  have may : ∀ b, (x.inner g w need p).may b → x.may b := fun b hb => by
    rcases hb with ⟨q, hq, hl⟩ | hb
    · obtain ⟨b', k1, _, k3, _⟩ := h.objL (hn q hq) hl
      rw [hl] at k1; simp only [Option.some.injEq] at k1; subst k1; exact k3
    · exact .inr (Nat.le_trans h.size hb)
  -- which objects are the call's, which are not
  have cases' : ∀ i o, (m.upds upd) i = some o → m' i = some o ∨ (m i = some o ∧ ∀ q, q ∈ need → q.1 ≠ i) := fun i o hi => by
    by_cases hk : ∃ q, q ∈ upd ∧ q.1 = i
    · exact .inl (hm i o (by rw [← hi]; exact upds_key hk))
    · have hno : ∀ q, q ∈ upd → q.1 ≠ i := fun q hq e => hk ⟨q, hq, e⟩
      rw [upds_nokey hno] at hi
      by_cases hq : ∃ q, q ∈ need ∧ q.1 = i
      · obtain ⟨q, hq, rfl⟩ := hq
        obtain ⟨o', ho'⟩ := Mem.of_some hq
        obtain ⟨q', k1, k2, k3⟩ := Mem.of_mem ho'
        have := hn q' k1
        rw [k2, hi, k3] at this
        simp only [Option.some.injEq] at this
        exact .inl (hm _ _ (by rw [upds_nokey hno, ho', this]))
      · exact .inr ⟨hi, fun q hq' e => hq ⟨q, hq', e⟩⟩
  have outer : ∀ i o, m i = some o → (∀ q, q ∈ need → q.1 ≠ i) → (o.void = true ∧ g.loc i = some none) ∨ ∃ b, g.loc i = some (some b) ∧ b < w.heap.size ∧ ¬ (x.inner g w need p).may b ∧ (∀ k, g.com b k = none) ∧ x.may b ∧ ObjAt g w b o := fun i o hi hq => by
    rcases h.obj0 i o hi with hv | ⟨b, k1, k2, k3, k4⟩
    · exact .inl hv
    refine .inr ⟨b, k1, k4.lt, fun hb => ?_, k2, k3, k4⟩
    rcases hb with ⟨q, hq', hl⟩ | hb
    · exact hq q hq' (h.inj q.1 i q.2 o b (hn q hq') hi hl k1)
    · have := k4.lt
      have hb' : w.heap.size ≤ b := hb
      omega
  refine ⟨Gh.le_trans h.le hle, fun i hi => ?_, h'.glob, fun b o v hv => ?_, fun i o hi => ?_, fun i j o o' b hi hj hb hb' => ?_, h'.com, h'.one, h'.rows, h'.os.trans h.os, h'.tape.trans h.tape, ⟨h'.output.1.trans h.output.1, Nat.le_trans h.output.2 h'.output.2⟩, Nat.le_trans h.size h'.size, fun b hb hmy => ?_⟩
  · exact (h'.locs i (fun hu => hi (Oid.under_trans hp hu))).trans (h.locs i hi)
  · rcases h'.coms b o v hv with h1 | h1
    · exact h.coms b o v h1
    · exact .inr (may b h1)
  · rcases cases' i o hi with h1 | ⟨h1, h2⟩
    · rcases h'.obj0 i o h1 with hv | ⟨b, k1, k2, k3, k4⟩
      · exact .inl hv
      exact .inr ⟨b, k1, k2, may b k3, k4⟩
    · rcases outer i o h1 h2 with hv | ⟨b, k1, k2, k3, k4, k5, k6⟩
      · exact .inl ⟨hv.1, hle.1 _ _ hv.2⟩
      refine .inr ⟨b, hle.1 _ _ k1, fun k => ?_, k5, (ObjAt.block (h'.kept b k2 (fun hh => k3 (.inl hh))) k6).mono hle⟩
      cases hc : g'.com b k with
      | none => rfl
      | some v =>
        rcases h'.coms b k v hc with h3 | h3
        · have h3' : g.com b k = some v := h3
          rw [k4 k] at h3'; cases h3'
        · exact absurd h3 k3
  · rcases cases' i o hi with h1 | ⟨h1, h2⟩ <;> rcases cases' j o' hj with h3 | ⟨h3, h4⟩
    · exact h'.inj i j o o' b h1 h3 hb hb'
    · rcases outer j o' h3 h4 with hv | ⟨c, k1, k2, k3, _⟩
      · rw [hle.1 _ _ hv.2] at hb'; cases hb'
      have := hle.1 _ _ k1
      rw [hb'] at this; simp only [Option.some.injEq] at this; subst this
      obtain ⟨c, q1, q2, q3, q4⟩ := h'.objL h1 hb
      rw [hb] at q1; simp only [Option.some.injEq] at q1; subst q1
      exact absurd q3 k3
    · rcases outer i o h1 h2 with hv | ⟨c, k1, k2, k3, _⟩
      · rw [hle.1 _ _ hv.2] at hb; cases hb
      have := hle.1 _ _ k1
      rw [hb] at this; simp only [Option.some.injEq] at this; subst this
      obtain ⟨c, q1, q2, q3, q4⟩ := h'.objL h3 hb'
      rw [hb'] at q1; simp only [Option.some.injEq] at q1; subst q1
      exact absurd q3 k3
    · rcases outer i o h1 h2 with hv | ⟨c, k1, _⟩
      · rw [hle.1 _ _ hv.2] at hb; cases hb
      rcases outer j o' h3 h4 with hv | ⟨c', k1', _⟩
      · rw [hle.1 _ _ hv.2] at hb'; cases hb'
      have e1 := hle.1 _ _ k1; have e2 := hle.1 _ _ k1'
      rw [hb] at e1; rw [hb'] at e2
      simp only [Option.some.injEq] at e1 e2; subst e1; subst e2
      exact h.inj i j o o' b h1 h3 k1 k1'
  · have hlt : b < w.heap.size := Nat.lt_of_lt_of_le hb h.size
    rw [h'.kept b hlt (fun ⟨q, hq, hl⟩ => ?_)]
    · exact h.kept b hb hmy
    · obtain ⟨b', k1, _, k3, _⟩ := h.objL (hn q hq) hl
      rw [hl] at k1; simp only [Option.some.injEq] at k1; subst k1
      rcases k3 with k3 | k3
      · exact hmy k3
      · omega
end

/-- The slots at the beginning: the arguments. -/
def slots : Nat → List AV → List (Nat × AV)
  | _, [] => []
  | k, x :: xs => (k, x) :: slots (k + 1) xs
theorem F_slots : ∀ (xs : List AV) (k t : Nat), F (slots k xs) t = if k ≤ t ∧ t < k + xs.length then xs.getD (t - k) .undef else .undef
  | [], k, t => by simp [slots, F]
  | x :: xs, k, t => by
    simp only [slots, F, F_slots xs (k + 1) t, List.length_cons]
    by_cases e : t = k
    · subst e; rw [if_pos rfl, if_pos (by omega)]; simp
    · rw [if_neg e]
      by_cases h : k + 1 ≤ t ∧ t < k + 1 + xs.length
      · rw [if_pos h, if_pos (by omega)]
        have : t - k = (t - (k + 1)) + 1 := by omega
        rw [this]; simp [List.getD_eq_getElem?_getD]
      · rw [if_neg h, if_neg (by omega)]

/-- The results, read off the slots. -/
def resA (fr : List (Nat × AV)) : List ResultVar → Option (List AV)
  | [] => some []
  | .tmp t :: r => (resA fr r).map (F fr t :: ·)
  | .cell .. :: _ => none
def retA (fr : List (Nat × AV)) (n : Nat) (rs : List ResultVar) : Option AV :=
  if rs.all (fun | .tmp t => decide (t < n) | _ => false) = true then match resA fr rs with
    | some [v] => some v
    | some vs => some (.tuple vs)
    | none => none
  else none

def rvF (tmps : Array Value) (r : ResultVar) : Sem Value := match r with
  | .tmp t => pure (tmps.getD t undef)
  | .cell a t => do loadVar t (← asAddr (tmps.getD a undef))
theorem rvF_tmp (P : Program) (tmps : Array Value) (t : Nat) (w : World) : (rvF tmps (.tmp t)).run P w = .ok (tmps.getD t undef) w := rfl
theorem results_rvF (fn : Func) (tmps : Array Value) : results fn tmps = (do let vs ← fn.results.mapM (rvF tmps); pure (if h : vs.size = 1 then vs[0] else .tuple vs)) := rfl
theorem results_spec {P : Program} {fn : Func} {g : Gh} {fr : List (Nat × AV)} {n : Nat} {tmps : Array Value} {y : AV} {w : World} (h : retA fr n fn.results.toList = some y) (hf : ∀ t, t < n → VR g (F fr t) (tmps.getD t undef)) :
    ∃ v, (results fn tmps).run P w = .ok v w ∧ VR g y v := by
  unfold retA at h
  split at h
  · rename_i hall
    have key : ∀ (rs : List ResultVar) (vs : List AV), rs.all (fun | .tmp t => decide (t < n) | _ => false) = true → resA fr rs = some vs →
        ∃ us : List Value, (rs.mapM (rvF tmps)).run P w = .ok us w ∧ us.length = vs.length ∧
          ∀ j, j < vs.length → VR g (vs.getD j .undef) (us.getD j undef) := by
      intro rs
      induction rs with
      | nil => intro vs _ hv; simp only [resA, Option.some.injEq] at hv; subst hv; exact ⟨[], by simp, rfl, fun j hj => absurd hj (Nat.not_lt_zero _)⟩
      | cons r rs ih =>
        intro vs ha hv
        cases r with
        | cell a t => cases hv
        | tmp t =>
          simp only [List.all_cons, Bool.and_eq_true, decide_eq_true_eq] at ha
          simp only [resA, Option.map_eq_some_iff] at hv
          obtain ⟨vs', hvs', rfl⟩ := hv
          obtain ⟨us, h1, h2, h3⟩ := ih vs' ha.2 hvs'
          refine ⟨tmps.getD t undef :: us, ?_, by simp [h2], fun j hj => ?_⟩
          · rw [List.mapM_cons]
            simp only [Sem.run_bind, rvF_tmp, Result.andThen_ok, h1, Sem.run_pure]
          · cases j with
            | zero => simpa using hf t ha.1
            | succ j => simpa using h3 j (by simpa using hj)
    cases hr : resA fr fn.results.toList with
    | none => rw [hr] at h; cases h
    | some vs =>
      rw [hr] at h
      obtain ⟨us, h1, h2, h3⟩ := key _ vs hall hr
      have hrun : (results fn tmps).run P w = .ok (if h : us.toArray.size = 1 then us.toArray[0] else .tuple us.toArray) w := by
        rw [results_rvF, Array.mapM_eq_mapM_toList]
        simp only [Sem.run_bind, Sem.run_map, h1, Result.andThen_ok, Sem.run_pure]
      refine ⟨_, hrun, ?_⟩
      match vs, us, h, h2, h3 with
      | [], [], h, _, _ => simp only [Option.some.injEq] at h; subst h; exact .tuple _ _ rfl (fun j hj => absurd hj (Nat.not_lt_zero _))
      | [a], [b], h, _, h3 => simp only [Option.some.injEq] at h; subst h; simpa using h3 0 (by simp)
      | a :: b :: l, c :: d :: l', h, h2, h3 =>
        simp only [Option.some.injEq] at h; subst h
        have : ¬ (c :: d :: l').toArray.size = 1 := by simp
        rw [dif_neg this]
        exact .tuple _ _ (by simpa using h2) (fun j hj => by simpa using h3 j hj)
  · cases h

/-- What a body's end has to show. -/
def Done (n : Nat) (rs : List ResultVar) (need : List (Oid × AObj)) (upd : List (Oid × Option AObj)) (y : AV) : AX → AS → Prop
  | .normal, s | .ret, s => s.ds = [] ∧ retA s.fr n rs = some y ∧ ∀ i o, ((Mem.of need).upds upd) i = some o → s.mem i = some o
  | _, _ => False

/-- A FUNCTION'S CONTRACT: its body's triple, at its arguments, in a memory that holds its objects alone. -/
theorem callOK_of {P : Program} {f : FuncId} {fn : Func} {c : Code} {xs : List AV} {p : Oid} {e : Eff} (hf : P.funcs[f]? = some fn) (hb : fn.body = some c) (hnm : (fn.name != "runtime.NumGoroutine") = true) (hn : xs.length ≤ fn.ntmps)
    (hT : ∀ x : Ctx, x.p = p → x.rd = none → P.globals.size ≤ x.ng → T P x fn.ntmps c ⟨slots 0 xs, Mem.of e.need, 0, []⟩ (Done fn.ntmps fn.results.toList e.need e.upd e.val)) : CallOK P f xs (Oid.under p) e := by
  refine ⟨by simp only [entersB, hf, hb, Option.isSome_some, Bool.true_and]; exact hnm, fun x g args w m hm hneed hargs hsp hng => ?_⟩
  refine calls_of_wp hf hb ?_
  have hin := hm.enter (p := p) hneed
  have hsz : (args ++ Array.replicate (fn.ntmps - args.size) undef).size = fn.ntmps := by simp [hargs.1]; omega
  have hrel : Rel (x.inner g w e.need p) fn.ntmps g ⟨slots 0 xs, Mem.of e.need, 0, []⟩ { tmps := args ++ Array.replicate (fn.ntmps - args.size) undef, defers := [] } w := by
    refine ⟨hin, hsz, .nil, fun t ht => ?_, fun i hi => (hsp i hi.under).1⟩
    simp only
    rw [F_slots]
    split
    · rename_i h
      rw [Nat.sub_zero, getD_append_left (by rw [hargs.1]; omega)]
      exact hargs.2 t (by omega)
    · exact .unk _
  refine (wpIn_wide (n := 0)).1 ?_
  refine wpIn_mono (hT (x.inner g w e.need p) rfl rfl hng g _ w hrel) fun en a' w' ⟨g', ex, s', h1, h2, h3⟩ => ?_
  have fin : (s'.ds = [] ∧ retA s'.fr fn.ntmps fn.results.toList = some e.val ∧ ∀ i o, ((Mem.of e.need).upds e.upd) i = some o → s'.mem i = some o) →
      a'.defers = [] ∧ ∃ v, (results fn a'.tmps).run P w' = .ok v w' ∧ ∃ g' u, Ending.returned v = .returned u ∧ g.le g' ∧ (∀ i, ¬ Oid.under p i → g'.loc i = g.loc i) ∧ VR g' e.val u ∧ MemRel x g' (m.upds e.upd) w' := by
    rintro ⟨k0, k1, k2⟩
    obtain ⟨v, r1, r2⟩ := results_spec (P := P) (w := w') k1 h1.fr
    have hpx : Oid.under x.p p := (hsp p (Oid.under_refl p)).2
    exact ⟨(k0 ▸ h1.df).nil_inv, v, r1, g', v, rfl, h1.mr.le, h1.mr.locs, r2, hm.leave hneed hpx h1.mr k2⟩
  cases ex with
  | normal => cases en <;> simp only [AX.fits] at h2; exact fin h3
  | ret => cases en <;> simp only [AX.fits] at h2; exact fin h3
  | exit i => exact h3.elim
  | panic v => exact h3.elim

/-- A row of a slot is fixed for good. -/
theorem T_freeze {P : Program} {x : Ctx} {n : Nat} {c : Code} {s : AS} {Q : AX → AS → Prop} (i : Oid) {sz : Nat} {xs : List AV} (fr : List (Nat × AV)) (hi : s.mem i = some (.arr sz xs))
    (hfr : ∀ t, t < n → F fr t = .undef ∨ F fr t = F s.fr t ∨ (F s.fr t = .sl i sz xs.length ∧ F fr t = .list sz xs)) (hT : T P x n c { s with fr := fr, mem := s.mem.set i none } Q) : T P x n c s Q := by
  refine T_ghost _ (fun g a w hr => ?_) hT
  obtain ⟨g', h1, h2, h3, h4⟩ := hr.mr.freeze hi
  refine ⟨g', h3, hr.tm, hr.df.mono h1, fun t ht => ?_, fun k hk => by rw [h2]; exact hr.young k hk⟩
  rcases hfr t ht with h | h | ⟨ha, hb⟩
  · simp only [h]; exact .unk _
  · simp only [h]; exact (hr.fr t ht).mono h1
  · simp only [hb]
    have := hr.fr t ht
    rw [ha] at this
    have := h4 _ _ this (Nat.le_refl _)
    rwa [List.take_length] at this
end Go.Ab
