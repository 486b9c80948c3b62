/- What single operations do: helpers; values alone; loads, stores, new objects. -/
import Derived.Test.YtpdmiojenhodlaaFw5
import Derived.Laws.Append
import Derived.Laws.StructEq
import Derived.Laws.Tables
set_option linter.unusedVariables false
set_option linter.unusedSimpArgs false
namespace Go.Ab

section
variable {P : Program} {o : Oper} {ρ : Operand → AV} {sp : Oid → Prop} {e : Eff}

theorem EffOK.of (h : ∀ (x : Ctx) (g : Gh) (a : Act) (w : World) (m : Mem), MemRel x g m w → (∀ q, q ∈ e.need → m q.1 = some q.2) →
    (∀ t, t ∈ o.op.operands.toList → VR g (ρ t) (a.eval t)) → (∀ i, sp i → g.loc i = none ∧ Oid.under x.p i) →
    ∃ g' nx v w', (execOp a.eval o).run P w = .ok nx w' ∧ (nx = .value v ∨ nx = .skip ∧ v = undef) ∧ g.le g' ∧ (∀ i, ¬ sp i → g'.loc i = g.loc i) ∧ VR g' e.val v ∧ MemRel x g' (m.upds e.upd) w') :
    EffOK P o ρ sp e := by
  intro x g a w m hm hn ho hs _ next Q K
  obtain ⟨g', nx, v, w', hrun, hnx, h1, h2, h3, h4⟩ := h x g a w m hm hn ho hs
  refine ⟨fun _ _ => trivial, ?_⟩
  have hsem : (o.semAt (Fc x.rd).round a.eval).run P w = .ok nx w' := by
    rw [← hrun]
    by_cases hd : ∃ c, o.op = .defer c
    · obtain ⟨c, hd⟩ := hd
      exfalso
      simp only [execOp, hd, Sem.run_bind] at hrun
      cases hres : (resolve a.eval c o.type).run P w with
      | ok d w1 => rw [hres] at hrun; simp only [Result.andThen_ok, Sem.run_pure, Result.ok.injEq] at hrun; rcases hnx with h | ⟨h, _⟩ <;> (rw [h] at hrun; cases hrun.1)
      | halt k w1 => rw [hres] at hrun; cases hrun
    · rw [Oper.semAt_eq _ _ _ (fun c hc => hd ⟨c, hc⟩)]
  rw [hsem]
  rcases hnx with rfl | ⟨rfl, rfl⟩
  · exact K g' v w' h1 h2 h3 h4
  · exact K g' undef w' h1 h2 h3 h4

/-- An operation that asks its operands alone. -/
theorem EffOK.plain {val : AV} (h : ∀ (g : Gh) (a : Act) (w : World), (∀ t, t ∈ o.op.operands.toList → VR g (ρ t) (a.eval t)) →
    ∃ v, (execOp a.eval o).run P w = .ok (.value v) w ∧ VR g val v) : EffOK P o ρ sp ⟨[], val, []⟩ :=
  EffOK.of fun _ g a w m hm _ ho _ => let ⟨v, h1, h2⟩ := h g a w ho; ⟨g, .value v, v, w, h1, .inl rfl, Gh.le_refl g, fun _ _ => rfl, h2, hm⟩
end

/-! ### Types in short -/
def aggD : TypeDesc → Bool
  | .struct _ | .array _ _ => true
  | _ => false
/-- Is the type's value made of parts, and of how many cells is it? -/
def shp (P : Program) (t : TypeId) : Option (Bool × Nat) :=
  match P.underlying t, P.info? t with
  | some d, some i => some (aggD d, i.size)
  | _, _ => none
inductive TyK where
  | bool
  | int (k : IntKind)
  | str
  | slice (elem : TypeId) (agg : Bool) (sz bytes : Nat)
  | arr (n : Nat) (elem : TypeId) (agg : Bool) (sz : Nat)
  | struct (fs : List (Nat × Bool × Nat))
  | map (key elem : TypeId)
  | ptr (elem : TypeId)
  | func
  | iface (ms : Nat)
  | other
def tyk (P : Program) (t : TypeId) : Option TyK :=
  match P.underlying t with
  | some .bool => some .bool
  | some (.int k) => some (.int k)
  | some .string => some .str
  | some (.slice e) => match shp P e, P.info? e with
    | some q, some i => some (.slice e q.1 q.2 i.bytes)
    | _, _ => none
  | some (.array n e) => (shp P e).map fun q => .arr n e q.1 q.2
  | some (.struct fs) => (fs.toList.mapM fun f => (shp P f.type).map fun q => (f.offset, q.1, q.2)).map .struct
  | some (.map k e) => some (.map k e)
  | some (.pointer e) => some (.ptr e)
  | some (.func ..) => some .func
  | some (.interface ms) => some (.iface ms.size)
  | some _ => some .other
  | none => none
def zer (P : Program) (t : TypeId) : Option (List AV) := ((P.info? t).bind (·.zero)).map fun z => (constA z).cells

section
variable {P : Program} {w : World} {t : TypeId}
theorem shp_spec {b : Bool} {n : Nat} (h : shp P t = some (b, n)) : ∃ d i, P.underlying t = some d ∧ P.info? t = some i ∧ aggD d = b ∧ i.size = n := by
  unfold shp at h
  split at h
  · rename_i d i hd hi; simp only [Option.some.injEq, Prod.mk.injEq] at h; exact ⟨d, i, hd, hi, h.1, h.2⟩
  · cases h
theorem run_isAgg {b : Bool} {n : Nat} (h : shp P t = some (b, n)) : (isAgg t).run P w = .ok b w := by
  obtain ⟨d, i, hd, hi, hb, hn⟩ := shp_spec h
  have hu : (underlying t).run P w = .ok d w := by simp [underlying, hd]
  simp only [isAgg, Sem.run_bind, hu, Result.andThen_ok]
  cases d <;> simp_all [aggD]
theorem run_sizeOf {b : Bool} {n : Nat} (h : shp P t = some (b, n)) : (sizeOf t).run P w = .ok n w := by
  obtain ⟨d, i, hd, hi, hb, hn⟩ := shp_spec h
  simp [sizeOf, typeInfo, hi, hn]
theorem run_underlying' {d : TypeDesc} (h : P.underlying t = some d) : (underlying t).run P w = .ok d w := by simp [underlying, h]
end

/-! ### Cells of values -/
def AV.known : AV → Bool
  | .undef => false
  | _ => true
theorem VR.cells {g : Gh} {v : AV} {u : Value} (h : VR g v u) (hk : v.known = true) : u.cells.size = v.cells.length ∧ ∀ j, j < v.cells.length → VR g (v.cells.getD j .undef) (u.cells.getD j undef) := by
  cases v with
  | undef => cases hk
  | agg cs =>
    obtain ⟨a, rfl, h1, h2⟩ := h.agg_inv
    exact ⟨h1, h2⟩
  | _ =>
    have hc : u.cells = #[u] := by cases h <;> rfl
    rw [hc]
    refine ⟨rfl, fun j hj => ?_⟩
    have : j = 0 := by simp [AV.cells] at hj; exact hj
    subst this
    exact h
theorem constS_cells (v : Value) : (constS v).cells.length = 1 := by
  unfold constS; split <;> rfl
theorem constA_cells (v : Value) : (constA v).cells.length = v.cells.size := by
  cases v <;> first | rfl | exact constS_cells _ | (simp [constA, AV.cells, Value.cells]; done)
theorem constA_cell (g : Gh) (v : Value) (j : Nat) (hj : j < (constA v).cells.length) : VR g ((constA v).cells.getD j .undef) (v.cells.getD j undef) := by
  by_cases hk : (constA v).known = true
  · exact ((constA_vr g v).cells hk).2 j hj
  · have : constA v = .undef := by cases h : constA v <;> simp_all [AV.known]
    rw [this] at hj ⊢
    simp only [AV.cells, List.length_cons, List.length_nil] at hj
    have : j = 0 := by omega
    subst this
    exact .unk _

/-! ### New objects, changed objects -/
def Gh.bind (g : Gh) (i : Oid) (b : Nat) : Gh := { g with loc := fun j => if j = i then some (some b) else g.loc j }
theorem Gh.le_bind {g : Gh} {i : Oid} {b : Nat} (h : g.loc i = none) : g.le (g.bind i b) :=
  ⟨fun j c hj => by simp only [Gh.bind]; split
                    · rename_i e; subst e; rw [h] at hj; cases hj
                    · exact hj, fun _ _ _ h => h, fun _ _ h => h⟩
/-- A row of cells that holds for good. -/
def Gh.fix (g : Gh) (b : Nat) (c : Array Value) : Gh := { g with com := fun b' k => if b' = b then c[k]? else g.com b' k }
theorem Gh.le_fix {g : Gh} {b : Nat} {c : Array Value} (h : ∀ k, g.com b k = none) : g.le (g.fix b c) :=
  ⟨fun _ _ h => h, fun b' k v hv => by simp only [Gh.fix]; split
                                       · rename_i e; subst e; rw [h] at hv; cases hv
                                       · exact hv, fun _ _ h => h⟩
/-- A row's length is noted. -/
def Gh.measure (g : Gh) (b r : Nat) : Gh := { g with row := fun b' => if b' = b then some r else g.row b' }
theorem Gh.le_measure {g : Gh} {b r : Nat} (h : g.row b = none ∨ g.row b = some r) : g.le (g.measure b r) :=
  ⟨fun _ _ h => h, fun _ _ _ h => h, fun b' r' hr => by
    simp only [Gh.measure]; split
    · rename_i e; subst e; rcases h with h | h <;> rw [h] at hr
      · cases hr
      · exact hr
    · exact hr⟩

section
variable {x : Ctx} {g : Gh} {m : Mem} {w : World}
theorem MemRel.com_lt (h : MemRel x g m w) {b k : Nat} {v : Value} (hc : g.com b k = some v) : b < w.heap.size := World.block_lt_of_cell? w _ (h.com b k v hc)
theorem MemRel.com_new (h : MemRel x g m w) {b : Nat} (hb : w.heap.size ≤ b) (k : Nat) : g.com b k = none := by
  cases hc : g.com b k with
  | none => rfl
  | some v => have := h.com_lt hc; omega

theorem MemRel.row_new (h : MemRel x g m w) {b : Nat} (hb : w.heap.size ≤ b) : g.row b = none := by
  cases hc : g.row b with
  | none => rfl
  | some r => obtain ⟨c, t, fz, h1, _⟩ := h.rows b r hc; simp [Array.getElem?_eq_none hb] at h1
theorem MemRel.measure (h : MemRel x g m w) {b r : Nat} (hr : ∃ c t fz, w.heap[b]? = some (.cells c t fz) ∧ c.size = r) (hg : g.row b = none ∨ g.row b = some r) : MemRel x (g.measure b r) m w :=
  ⟨Gh.le_trans h.le (Gh.le_measure hg), h.locs, h.glob, h.coms, fun i o hi => (h.obj0 i o hi).imp id fun ⟨b', h1, h2, h3, h4⟩ => ⟨b', h1, h2, h3, h4.mono (Gh.le_measure hg)⟩, h.inj, h.com, h.one,
    fun b' r' hr' => by
      simp only [Gh.measure] at hr'; split at hr'
      · rename_i e; subst e; simp only [Option.some.injEq] at hr'; subst hr'; exact hr
      · exact h.rows b' r' hr', h.os, h.tape, h.output, h.size, h.kept⟩

/-- A new object. -/
theorem MemRel.new (h : MemRel x g m w) {i : Oid} (hi : g.loc i = none) (hu : Oid.under x.p i) {o : AObj} {ob : Obj} (ho : ObjAt (g.bind i w.heap.size) (w.alloc ob) w.heap.size o) :
    MemRel x (g.bind i w.heap.size) (m.set i (some o)) (w.alloc ob) := by
  have hle : g.le (g.bind i w.heap.size) := Gh.le_bind hi
  have hold : ∀ b, b < w.heap.size → (w.alloc ob).heap[b]? = w.heap[b]? := fun b hb => by
    show (w.heap.push ob)[b]? = _
    rw [Array.getElem?_push, if_neg (by omega)]
  refine ⟨Gh.le_trans h.le hle, fun j hj => ?_, fun k hk => hle.1 _ _ (h.glob k hk), h.coms, fun j o' hj => ?_, fun j j' o1 o2 b h1 h2 h3 h4 => ?_, fun b k v hv => ?_, h.one, fun b r hr => ?_, h.os, h.tape, h.output, ?_, fun b hb hm => ?_⟩
  · simp only [Gh.bind]
    rw [if_neg (fun e => hj (by rw [e]; exact hu))]; exact h.locs j hj
  · by_cases e : j = i
    · subst e
      simp only [Mem.set, if_true, Option.some.injEq] at hj
      subst hj
      exact .inr ⟨w.heap.size, by simp [Gh.bind], fun k => h.com_new (Nat.le_refl _) k, .inr h.size, ho⟩
    · simp only [Mem.set, e, if_false] at hj
      rcases h.obj0 j o' hj with ⟨v1, v2⟩ | ⟨b, h1, h2, h3, h4⟩
      · exact .inl ⟨v1, hle.1 _ _ v2⟩
      · exact .inr ⟨b, hle.1 _ _ h1, h2, h3, (ObjAt.block (hold b h4.lt) h4).mono hle⟩
  · have key : ∀ j o', (m.set i (some o)) j = some o' → j ≠ i → (∀ b', g.loc j = some (some b') → b' < w.heap.size) ∧ m j = some o' := fun j o' hj e => by
      simp only [Mem.set, e, if_false] at hj
      refine ⟨fun b' hb' => ?_, hj⟩
      rcases h.obj0 j o' hj with ⟨_, v2⟩ | ⟨b, h1, _, _, h4⟩
      · rw [hb'] at v2; cases v2
      · rw [hb'] at h1; simp only [Option.some.injEq] at h1; subst h1; exact h4.lt
    simp only [Gh.bind] at h3 h4
    by_cases e1 : j = i <;> by_cases e2 : j' = i
    · rw [e1, e2]
    · rw [if_pos e1] at h3; rw [if_neg e2] at h4
      have hlt := (key j' o2 h2 e2).1 b h4
      simp only [Option.some.injEq] at h3; omega
    · rw [if_neg e1] at h3; rw [if_pos e2] at h4
      have hlt := (key j o1 h1 e1).1 b h3
      simp only [Option.some.injEq] at h4; omega
    · rw [if_neg e1] at h3; rw [if_neg e2] at h4
      obtain ⟨_, g1⟩ := key j o1 h1 e1
      obtain ⟨_, g2⟩ := key j' o2 h2 e2
      exact h.inj j j' o1 o2 b g1 g2 h3 h4
  · have := h.com b k v hv
    rw [World.cell?_alloc_lt w ob _ (World.block_lt_of_cell? w _ this)]; exact this
  · obtain ⟨c, t, fz, h1, h2⟩ := h.rows b r hr
    have hlt : b < w.heap.size := by
      rcases Nat.lt_or_ge b w.heap.size with h' | h'
      · exact h'
      · simp [Array.getElem?_eq_none h'] at h1
    exact ⟨c, t, fz, by rw [hold b hlt]; exact h1, h2⟩
  · simp only [World.size_alloc]; have := h.size; omega
  · rw [hold b (by have := h.size; omega)]; exact h.kept b hb hm

/-- A new row that holds for good. -/
theorem MemRel.newFix (h : MemRel x g m w) (c : Array Value) (t : TypeId) (h1 : ∀ j (hj : j < c.size), c[j].oneCell' = true) : MemRel x (g.fix w.heap.size c) m (w.alloc (.cells c t)) ∧ g.le (g.fix w.heap.size c) := by
  have hle : g.le (g.fix w.heap.size c) := Gh.le_fix fun k => h.com_new (Nat.le_refl _) k
  have hold : ∀ b, b < w.heap.size → (w.alloc (.cells c t)).heap[b]? = w.heap[b]? := fun b hb => by
    show (w.heap.push _)[b]? = _
    rw [Array.getElem?_push, if_neg (by omega)]
  refine ⟨⟨Gh.le_trans h.le hle, h.locs, h.glob, fun b k v hv => ?_, fun j o' hj => ?_, h.inj, fun b k v hv => ?_, fun b k v hv => ?_, fun b r hr => ?_, h.os, h.tape, h.output, ?_, fun b hb hm => ?_⟩, hle⟩
  · simp only [Gh.fix] at hv
    split at hv
    · rename_i e; subst e; exact .inr (.inr h.size)
    · exact h.coms b k v hv
  · rcases h.obj0 j o' hj with hv | ⟨b, h1, h2, h3, h4⟩
    · exact .inl hv
    refine .inr ⟨b, h1, fun k => ?_, h3, (ObjAt.block (hold b h4.lt) h4).mono hle⟩
    simp only [Gh.fix]
    rw [if_neg (by have := h4.lt; omega)]; exact h2 k
  · simp only [Gh.fix] at hv
    split at hv
    · rename_i e; subst e; rw [World.cell?_alloc_new]; exact hv
    · have := h.com b k v hv
      rw [World.cell?_alloc_lt w _ _ (World.block_lt_of_cell? w _ this)]; exact this
  · simp only [Gh.fix] at hv
    split at hv
    · have hk : k < c.size := by
        rcases Nat.lt_or_ge k c.size with h' | h'
        · exact h'
        · simp [Array.getElem?_eq_none h'] at hv
      simp only [Array.getElem?_eq_getElem hk, Option.some.injEq] at hv
      subst hv; exact h1 k hk
    · exact h.one b k v hv
  · obtain ⟨c', t', fz, k1, k2⟩ := h.rows b r hr
    have hlt : b < w.heap.size := by
      rcases Nat.lt_or_ge b w.heap.size with h' | h'
      · exact h'
      · simp [Array.getElem?_eq_none h'] at k1
    exact ⟨c', t', fz, by rw [hold b hlt]; exact k1, k2⟩
  · simp only [World.size_alloc]; have := h.size; omega
  · rw [hold b (by have := h.size; omega)]; exact h.kept b hb hm

/-- One block has turned: the one of an object. -/
theorem MemRel.turn (h : MemRel x g m w) {i : Oid} {o0 o : AObj} {b : Nat} {w' : World} (hi : m i = some o0) (hb : g.loc i = some (some b)) (hos : w'.os = w.os) (htape : w'.tape = w.tape) (hout : w'.output = w.output ∧ w.drawn ≤ w'.drawn)
    (hsize : w.heap.size ≤ w'.heap.size) (hother : ∀ b', b' ≠ b → b' < w.heap.size → w'.heap[b']? = w.heap[b']?) (hrow : ∀ r, g.row b = some r → ∃ c t fz, w'.heap[b]? = some (.cells c t fz) ∧ c.size = r) (ho : ObjAt g w' b o) : MemRel x g (m.set i (some o)) w' := by
  obtain ⟨b0, hb0, hcom, hmay, hobj⟩ := h.objL hi hb
  rw [hb] at hb0
  simp only [Option.some.injEq] at hb0
  subst hb0
  refine ⟨h.le, h.locs, h.glob, h.coms, fun j o' hj => ?_, fun j j' o1 o2 c h1 h2 h3 h4 => ?_, fun c k v hv => ?_, h.one, fun c r hr => ?_, hos.trans h.os, htape.trans h.tape, ⟨hout.1.trans h.output.1, Nat.le_trans h.output.2 hout.2⟩, Nat.le_trans h.size hsize, fun c hc hm => ?_⟩
  · by_cases e : j = i
    · subst e
      simp only [Mem.set, if_true, Option.some.injEq] at hj
      subst hj
      exact .inr ⟨b, hb, hcom, hmay, ho⟩
    · simp only [Mem.set, e, if_false] at hj
      rcases h.obj0 j o' hj with hv | ⟨c, h1, h2, h3, h4⟩
      · exact .inl hv
      refine .inr ⟨c, h1, h2, h3, ObjAt.block (hother c (fun ec => e ?_) h4.lt) h4⟩
      subst ec; exact h.inj j i o' o0 c hj hi h1 hb
  · have key : ∀ j o', (m.set i (some o)) j = some o' → ∃ o'', m j = some o'' := fun j o' hj => by
      by_cases e : j = i
      · subst e; exact ⟨o0, hi⟩
      · simp only [Mem.set, e, if_false] at hj; exact ⟨o', hj⟩
    obtain ⟨_, g1⟩ := key j o1 h1
    obtain ⟨_, g2⟩ := key j' o2 h2
    exact h.inj j j' _ _ c g1 g2 h3 h4
  · have hcell := h.com c k v hv
    have hne : c ≠ b := fun e => by subst e; rw [hcom k] at hv; cases hv
    have := hother c hne (World.block_lt_of_cell? w _ hcell)
    simp only [World.cell?] at hcell ⊢
    rw [this]; exact hcell
  · by_cases e : c = b
    · subst e; exact hrow r hr
    · obtain ⟨c', t', fz, k1, k2⟩ := h.rows c r hr
      have hlt : c < w.heap.size := by
        rcases Nat.lt_or_ge c w.heap.size with h' | h'
        · exact h'
        · simp [Array.getElem?_eq_none h'] at k1
      exact ⟨c', t', fz, by rw [hother c e hlt]; exact k1, k2⟩
  · by_cases e : c = b
    · subst e
      rcases hmay with hm' | hm'
      · exact absurd hm' hm
      · omega
    · rw [hother c e (by have := h.size; omega)]; exact h.kept c hc hm
end
end Go.Ab
