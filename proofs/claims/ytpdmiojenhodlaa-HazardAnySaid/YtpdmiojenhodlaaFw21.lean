/- A range over a function: the rounds' contract, the iterator's contract, the statement. -/
import Derived.Test.YtpdmiojenhodlaaFw20
set_option linter.unusedVariables false
set_option linter.unusedSimpArgs false
namespace Go.Ab

def clr (L : List (Oid × AObj)) : List (Oid × Option AObj) := L.map fun q => (q.1, none)
def sets (L : List (Oid × AObj)) : List (Oid × Option AObj) := L.map fun q => (q.1, some q.2)

/-- What L becomes by 'upd': L'; nothing else but new names is touched. -/
structure UpdOK (L : List (Oid × AObj)) (sp : Oid → Prop) (upd : List (Oid × Option AObj)) (L' : List (Oid × AObj)) : Prop where
  got : ∀ q ∈ L', ((Mem.of L).upds upd) q.1 = some q.2
  tou : ∀ q ∈ upd, (∃ q' ∈ L, q'.1 = q.1) ∨ sp q.1
  nam : ∀ q ∈ L', (∃ q' ∈ L, q'.1 = q.1) ∨ sp q.1

theorem upds_append (m : Mem) (a b : List (Oid × Option AObj)) : m.upds (a ++ b) = (m.upds a).upds b := by
  induction a generalizing m with
  | nil => rfl
  | cons q a ih => simp only [List.cons_append, Mem.upds, ih]
theorem upds_mem {u : List (Oid × Option AObj)} {i : Oid} {m : Mem} (h : ∃ q ∈ u, q.1 = i) : ∃ q ∈ u, q.1 = i ∧ (m.upds u) i = q.2 := by
  induction u generalizing m with
  | nil => obtain ⟨_, h, _⟩ := h; cases h
  | cons q u ih =>
    by_cases h' : ∃ q ∈ u, q.1 = i
    · obtain ⟨q', h1, h2, h3⟩ := ih (m := m.set q.1 q.2) h'
      exact ⟨q', by simp [h1], h2, h3⟩
    · have hno : ∀ q', q' ∈ u → q'.1 ≠ i := fun q' hq e => h' ⟨q', hq, e⟩
      obtain ⟨q0, h0, rfl⟩ := h
      rcases List.mem_cons.1 h0 with rfl | h0
      · exact ⟨q0, by simp, rfl, by simp only [Mem.upds]; rw [upds_nokey hno]; simp [Mem.set]⟩
      · exact absurd rfl (hno q0 h0)
/-- A piece of memory is exchanged. -/
theorem swap_of {L L' : List (Oid × AObj)} {m : Mem} {sp : Oid → Prop} (hL' : ∀ q ∈ L', m q.1 = some q.2) (hn : ∀ q ∈ L', (∃ q' ∈ L, q'.1 = q.1) ∨ sp q.1) :
    UpdOK L sp (clr L ++ sets L') L' ∧ ∀ i o, ((Mem.of L).upds (clr L ++ sets L')) i = some o → m i = some o := by
  have key : ∀ (m0 : Mem) i, (∃ q ∈ L', q.1 = i) → (m0.upds (clr L ++ sets L')) i = m i := by
    intro m0 i hi
    rw [upds_append]
    obtain ⟨q, h1, rfl⟩ := hi
    obtain ⟨q', k1, k2, k3⟩ := upds_mem (m := m0.upds (clr L)) (u := sets L') (i := q.1) ⟨(q.1, some q.2), List.mem_map.2 ⟨q, h1, rfl⟩, rfl⟩
    rw [k3]
    obtain ⟨q2, h2, rfl⟩ := List.mem_map.1 k1
    simp only at k2 ⊢
    rw [← k2]; exact (hL' q2 h2).symm
  refine ⟨⟨fun q hq => by rw [key _ _ ⟨q, hq, rfl⟩]; exact hL' q hq, fun q hq => ?_, hn⟩, fun i o hio => ?_⟩
  · rcases List.mem_append.1 hq with h | h
    · obtain ⟨q', h1, rfl⟩ := List.mem_map.1 h; exact .inl ⟨q', h1, rfl⟩
    · obtain ⟨q', h1, rfl⟩ := List.mem_map.1 h; exact hn q' h1
  · by_cases hi : ∃ q ∈ L', q.1 = i
    · rw [key _ _ hi] at hio; exact hio
    · rw [upds_append, upds_nokey (fun q hq e => by obtain ⟨q', h1, rfl⟩ := List.mem_map.1 hq; exact hi ⟨q', h1, e⟩)] at hio
      by_cases hk : ∃ q ∈ clr L, q.1 = i
      · obtain ⟨q', k1, k2, k3⟩ := upds_mem (m := Mem.of L) hk
        rw [k3] at hio
        obtain ⟨q2, _, rfl⟩ := List.mem_map.1 k1
        cases hio
      · rw [upds_nokey (fun q hq e => hk ⟨q, hq, e⟩)] at hio
        obtain ⟨q, h1, h2, _⟩ := Mem.of_mem hio
        exact absurd ⟨(q.1, none), List.mem_map.2 ⟨q, h1, rfl⟩, h2⟩ hk

/-- A call of yield: its outcomes. -/
def YieldND (P : Program) (l : Nat) (xs : List AV) (sp : Oid → Prop) (need : List (Oid × AObj)) (R : AV → List (Oid × Option AObj) → Prop) : Prop :=
  ∀ (x : Ctx) (g : Gh) (args : Array Value) (w : World) (m : Mem), MemRel x g m w → (∀ q, q ∈ need → m q.1 = some q.2) → VRs g xs args → (∀ i, sp i → g.loc i = none ∧ Oid.under x.p i) → P.globals.size ≤ x.ng →
    ∃ f tmps assign body, (Instr.yield l args).run P w = .ok (.round l f tmps assign body) w ∧
      RoundIn (Fc x.rd) 0 P l f tmps assign body w fun en w' => ∃ g' v val upd, en = .returned v ∧ R val upd ∧ g.le g' ∧ (∀ i, ¬ sp i → g'.loc i = g.loc i) ∧ VR g' val v ∧ MemRel x g' (m.upds upd) w'

theorem eff_yield {P : Program} {o : Oper} {ρ : Operand → AV} {sp : Oid → Prop} {need : List (Oid × AObj)} {R : AV → List (Oid × Option AObj) → Prop} {f : Operand} {args : Array Operand} {ts : Array TypeId} {l : Nat}
    (ho : o.op = .call ⟨.value f, args, ts⟩) (hf : ρ f = .fn (.yield l) [] []) (h : YieldND P l (args.toList.map ρ) sp need R) : EffND P o ρ sp need R (fun _ _ => False) := by
  intro x g a w m hm hn hop hs hng next Q K _
  have hfv := hop f (by simp [Op.operands, Call.operands, ho])
  rw [hf] at hfv
  obtain ⟨fa, ca, hu, h1, h2, h3, h4⟩ := hfv.fn_inv
  have hargs : VRs g (args.toList.map ρ) (args.map a.eval) := VRs.map fun t ht => hop t (by
    have : t ∈ args := by simpa using ht
    simp [Op.operands, Call.operands, ho, this])
  have e1 : fa = #[] := Array.eq_empty_of_size_eq_zero (by simpa using h1)
  have e2 : ca = #[] := Array.eq_empty_of_size_eq_zero (by simpa using h2)
  subst e1; subst e2
  obtain ⟨fn, tmps, assign, body, hy, hr⟩ := h x g _ w m hm hn hargs hs hng
  refine ⟨fun _ _ => trivial, ?_⟩
  rw [Oper.semAt_eq _ _ _ (fun c hc => by rw [ho] at hc; cases hc)]
  have hrun : (execOp a.eval o).run P w = .ok (.round l fn tmps assign body) w := by
    simp only [execOp, ho, resolve, Sem.run_bind, hu, Deferred.ofValue, Sem.run_pure, Result.andThen_ok, invoke]
    simpa using hy
  rw [hrun, Oper.uponIn_round]
  refine ⟨fun hd => absurd hd (by simp [Fc]), hr.1, fun c cs hroom => ?_⟩
  obtain ⟨en, w', ⟨g', v, val, upd, rfl, k1, k2, k3, k4, k5⟩, hc⟩ := hr.2 c cs hroom
  exact ⟨.returned v, w', K val upd k1 g' v w' k2 k3 k4 k5, hc⟩

/-- An iterator's contract: what it needs, what it yields behind what (V), which runs of elements it yields (true: to the end; false: till a round said no). -/
def SeqND (P : Program) (f : FuncId) (cap : List AV) (p : Oid) (need : List (Oid × AObj)) (k : Nat) (V : List (List AV) → List AV → Prop) (S : Bool → List (List AV) → Prop) : Prop :=
  ∀ (l : Nat) (J : Bool → List (List AV) → List (Oid × AObj) → Prop) (L0 : List (Oid × AObj)), J true [] L0 → (∀ q ∈ L0, ∀ q' ∈ need, q.1 ≠ q'.1) → (∀ q ∈ L0, ¬ Oid.under p q.1) →
    (∀ pre xs L p', J true pre L → xs.length = k → V pre xs → YieldND P l xs (Oid.under p') L (fun val upd => ∃ b L', val = .bool b ∧ J b (pre ++ [xs]) L' ∧ UpdOK L (Oid.under p') upd L')) →
    CallND P f (.fn (.yield l) [] [] :: cap) (Oid.under p) (need ++ L0) (fun _ upd => ∃ b pre L', S b pre ∧ J b pre L' ∧ UpdOK (need ++ L0) (Oid.under p) upd (need ++ L')) (fun _ _ => False)

/-- The record's block turned: nothing else is. -/
theorem MemRel.turnLoop {x : Ctx} {g : Gh} {m : Mem} {w : World} (hm : MemRel x g m w) {id : Oid} {l n : Nat} {fr : List (Nat × AV)} {r r' : Loop} (hi : m id = some (.loop l n fr r)) (hr : r'.tmps = r.tmps) :
    w.heap[l]? = some (.loop r) ∧ g.loc id = some (some l) ∧ g.row l = none ∧ (∀ k, g.com l k = none) ∧ r.tmps.size = n ∧ (∀ t, t < n → VR g (F fr t) (r.tmps.getD t undef)) ∧ MemRel x g (m.set id (some (.loop l n fr r'))) (w.putObj l (.loop r')) := by
  obtain ⟨b, h1, h2, h3, h4⟩ := hm.obj id _ hi
  obtain ⟨rfl, c1, c2, c3⟩ := h4
  have hrow : g.row b = none := by
    cases hc : g.row b with
    | none => rfl
    | some r => obtain ⟨c, t, fz, h1, _⟩ := hm.rows b r hc; rw [c1] at h1; cases h1
  have hlt := (Array.getElem?_eq_some_iff.1 c1).1
  refine ⟨c1, h1, hrow, h2, c2, c3, hm.turn hi h1 rfl rfl ⟨rfl, Nat.le_refl _⟩ (by simp [World.putObj]) (fun k hk _ => World.putObj_heap_other hk) (fun r hr => by rw [hrow] at hr; cases hr) ⟨rfl, World.putObj_heap_same hlt, by rw [hr]; exact c2, fun t ht => by rw [hr]; exact c3 t ht⟩⟩

/-- A block that is nobody's turns, at the beginning and now. -/
theorem MemRel.both {x : Ctx} {g g0 : Gh} {m : Mem} {w w0 : World} {p : Oid} {need : List (Oid × AObj)} (h : MemRel (x.inner g0 w0 need p) g m w) {l : Nat} {ob : Obj} (hl : l < w0.heap.size) (hnot : ∀ q ∈ need, g0.loc q.1 ≠ some (some l)) (hcom : ∀ k, g0.com l k = none)
    (hrow : ∀ r, g.row l ≠ some r) : MemRel (x.inner g0 (w0.putObj l ob) need p) g m (w.putObj l ob) ∧ w.heap[l]? = w0.heap[l]? := by
  have hmay : ¬ (x.inner g0 w0 need p).may l := by
    rintro (⟨q, hq, hloc⟩ | hb)
    · exact hnot q hq hloc
    · have hb' : w0.heap.size ≤ l := hb
      omega
  have hc : ∀ k, g.com l k = none := fun k => by
    cases hv : g.com l k with
    | none => rfl
    | some v =>
      rcases h.coms l k v hv with h1 | h1
      · have h1' : g0.com l k = some v := h1
        rw [hcom k] at h1'; cases h1'
      · exact absurd h1 hmay
  have hother : ∀ k, k ≠ l → (w.putObj l ob).heap[k]? = w.heap[k]? := fun k hk => World.putObj_heap_other hk
  have may' : ∀ b, (x.inner g0 (w0.putObj l ob) need p).may b ↔ (x.inner g0 w0 need p).may b := fun b => by
    simp only [Ctx.may, Ctx.inner, World.putObj, Array.size_setIfInBounds]
  refine ⟨⟨h.le, h.locs, h.glob, fun b o v hv => by rw [may']; exact h.coms b o v hv, fun i o hi => ?_, h.inj, fun b k v hv => ?_, h.one, fun b r hr => ?_, h.os, h.tape, h.output, ?_, fun b hb hm => ?_⟩, h.kept l hl (fun hh => hmay (.inl hh))⟩
  · rcases h.obj0 i o hi with hv | ⟨b, h1, h2, h3, h4⟩
    · exact .inl hv
    exact .inr ⟨b, h1, h2, by rw [may']; exact h3, ObjAt.block (hother b (fun e => hmay (by rw [← e]; exact h3))) h4⟩
  · have hcell := h.com b k v hv
    have hne : b ≠ l := fun e => by subst e; rw [hc k] at hv; cases hv
    simp only [World.cell?] at hcell ⊢
    rw [hother b hne]; exact hcell
  · have hne : b ≠ l := fun e => by subst e; exact hrow r hr
    rw [hother b hne]; exact h.rows b r hr
  · have := h.size
    simp only [Ctx.inner, World.putObj, Array.size_setIfInBounds] at this ⊢; exact this
  · have hb' : b < w0.heap.size := by simpa [Ctx.inner, World.putObj] using hb
    by_cases e : b = l
    · subst e
      rw [World.putObj_heap_same (Nat.lt_of_lt_of_le hl h.size)]
      exact (World.putObj_heap_same hl).symm
    · rw [hother b e, h.kept b hb' hm]
      exact (World.putObj_heap_other e).symm
end Go.Ab
