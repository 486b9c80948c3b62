/- One operation's effect; a region in the order of the text; a region that draws its order. -/
import Derived.Test.YtpdmiojenhodlaaFw2
set_option linter.unusedVariables false
set_option linter.unusedSimpArgs false
namespace Go.Ab

theorem Oid.under_trans {a b x : Oid} (h : Oid.under a b) (k : Oid.under b x) : Oid.under a x := by
  induction x with
  | root n => simp only [Oid.under] at k; subst k; exact h
  | sub c i q ih =>
    simp only [Oid.under] at k ⊢
    rcases k with k | k
    · subst k; simpa only [Oid.under] using h
    · exact .inr (ih k)
def Oid.depth : Oid → Nat
  | .root _ => 0
  | .sub _ _ p => p.depth + 1
theorem Oid.under_depth {a x : Oid} (h : Oid.under a x) : a.depth ≤ x.depth := by
  induction x with
  | root n => simp only [Oid.under] at h; subst h; exact Nat.le_refl _
  | sub c i q ih =>
    simp only [Oid.under] at h
    rcases h with h | h
    · subst h; exact Nat.le_refl _
    · exact Nat.le_succ_of_le (ih h)
theorem Oid.under_eq {a b x : Oid} (h : Oid.under a x) (k : Oid.under b x) (hd : a.depth = b.depth) : a = b := by
  induction x with
  | root n => simp only [Oid.under] at h k; rw [h, k]
  | sub c i q ih =>
    simp only [Oid.under] at h k
    rcases h with h | h <;> rcases k with k | k
    · rw [h, k]
    · have := Oid.under_depth k; rw [h] at hd; simp only [Oid.depth] at hd; omega
    · have := Oid.under_depth h; rw [k] at hd; simp only [Oid.depth] at hd; omega
    · exact ih h k
theorem Oid.apart {p x : Oid} {c i c' i' : Nat} (h : Oid.under (.sub c i p) x) (k : Oid.under (.sub c' i' p) x) : c = c' ∧ i = i' := by
  have := Oid.under_eq h k rfl
  injection this with h1 h2; exact ⟨h1, h2⟩

/-- An operation's effect: what it finds in memory, its value, what becomes of memory. -/
structure Eff where
  need : List (Oid × AObj)
  val : AV
  upd : List (Oid × Option AObj)

/-- Constants. -/
def constS : Value → AV
  | .bool b => .bool b
  | .int k n => .int k n
  | .string s => .str s.data.toList
  | .pointer none => .nilPtr
  | .slice none 0 0 => .nilSl
  | .map none => .nilMap
  | .nilFunc => .nilFn
  | .nilIface => .nilIface
  | _ => .undef
def constA : Value → AV
  | .agg cs => .agg (cs.toList.map constS)
  | .tuple cs => .tuple (cs.toList.map constS)
  | .iface t v => .iface t (constS v)
  | v => constS v
theorem constS_vr (g : Gh) (v : Value) : VR g (constS v) v := by
  unfold constS
  split
  · exact .bool _
  · exact .int _ _
  · exact .str _ _ rfl
  · exact .nilPtr
  · exact .nilSl
  · exact .nilMap
  · exact .nilFn
  · exact .nilIface
  · exact .unk _
theorem constA_vr (g : Gh) (v : Value) : VR g (constA v) v := by
  unfold constA
  split
  · refine .agg _ _ (by simp) fun j hj => ?_
    simp only [List.length_map, Array.length_toList] at hj
    simp only [List.getD_eq_getElem?_getD, List.getElem?_map, Array.getElem?_toList, Array.getElem?_eq_getElem hj, Option.map_some, Option.getD_some, Array.getD_eq_getD_getElem?]
    exact constS_vr g _
  · refine .tuple _ _ (by simp) fun j hj => ?_
    simp only [List.length_map, Array.length_toList] at hj
    simp only [List.getD_eq_getElem?_getD, List.getElem?_map, Array.getElem?_toList, Array.getElem?_eq_getElem hj, Option.map_some, Option.getD_some, Array.getD_eq_getD_getElem?]
    exact constS_vr g _
  · exact .iface _ _ _ (constS_vr g _)
  · exact constS_vr g _

def evF (f : Nat → AV) : Operand → AV
  | .tmp t => f t
  | .const v => constA v
  | .global k => .ptr (.root k) 0
  | .func f => .fn (.func f) [] []
def evA (fr : List (Nat × AV)) (t : Operand) : AV := evF (F fr) t

/-- The operation, at operands of these values, has this effect; what it makes bears names of 'sp'. -/
def EffOK (P : Program) (o : Oper) (ρ : Operand → AV) (sp : Oid → Prop) (e : Eff) : Prop :=
  ∀ (x : Ctx) (g : Gh) (a : Act) (w : World) (m : Mem), MemRel x g m w → (∀ q, q ∈ e.need → m q.1 = some q.2) →
    (∀ t, t ∈ o.op.operands.toList → VR g (ρ t) (a.eval t)) → (∀ i, sp i → g.loc i = none ∧ Oid.under x.p i) → (P.globals.size ≤ x.ng) →
    ∀ (next : Act → World → Prop) (Q : Exit → Act → World → Prop),
      (∀ g' v w', g.le g' → (∀ i, ¬ sp i → g'.loc i = g.loc i) → VR g' e.val v → MemRel x g' (m.upds e.upd) w' → next (a.put o.dst v) w') →
      o.wpIn (Fc x.rd) 0 P a w next Q

/-- Is the operation carried out? none: that is not known. -/
def wantA (ops : Array Oper) (o : Oper) (f : Nat → AV) : Option Bool :=
  match o.guard with
  | none => some true
  | some (j, want) =>
    match (ops[j]?).bind (·.dst) with
    | none => none
    | some d => match f d with
      | .bool b => some (b == want)
      | .tuple [] => some false
      | _ => none

def tmpOK (n : Nat) : Operand → Bool
  | .tmp t => t < n
  | _ => true
def gloOK (ng : Nat) : Operand → Bool
  | .global k => k < ng
  | _ => true
def guardOK (n : Nat) (ops : Array Oper) (o : Oper) : Bool :=
  match o.guard with
  | none => true
  | some (j, _) => match (ops[j]?).bind (·.dst) with
    | some d => d < n
    | none => false
/-- The slots and variables that it names are there. -/
def operOK (n ng : Nat) (ops : Array Oper) (o : Oper) : Bool :=
  (match o.dst with | some d => decide (d < n) | none => true) && o.op.operands.toList.all (fun t => tmpOK n t && gloOK ng t) && guardOK n ops o

theorem VR.wanted {g : Gh} {n : Nat} {ops : Array Oper} {o : Oper} {f : Nat → AV} {a : Act} {b : Bool} (hg : guardOK n ops o = true)
    (hf : ∀ t, t < n → (o.guard = none ∨ ∃ j w, o.guard = some (j, w) ∧ (ops[j]?).bind (·.dst) = some t) → VR g (f t) (a.tmps.getD t undef)) (h : wantA ops o f = some b) :
    Region.wanted o (yielded ops a.tmps) = b := by
  unfold wantA at h
  unfold Region.wanted
  unfold guardOK at hg
  cases hgd : o.guard with
  | none => simp only [hgd] at h ⊢; simpa using h
  | some q =>
    obtain ⟨j, want⟩ := q
    simp only [hgd] at h hg ⊢
    cases hd : (ops[j]?).bind (·.dst) with
    | none => simp only [hd] at h; cases h
    | some d =>
      simp only [hd, decide_eq_true_eq] at h hg
      have hv := hf d hg (.inr ⟨j, want, hgd, hd⟩)
      have hy : yielded ops a.tmps j = match a.tmps.getD d undef with | .bool b => some b | _ => none := by
        simp only [yielded, hd, Option.bind_some, Array.getD_eq_getD_getElem?]
        cases a.tmps[d]? with
        | none => rfl
        | some u => cases u <;> rfl
      rw [hy]
      split at h
      · rename_i b' hb'; rw [hb'] at hv; rw [hv.bool_inv]; simpa using h
      · rename_i hb'; rw [hb'] at hv
        obtain ⟨arr, harr, _⟩ := hv.tuple_inv
        rw [harr]; simpa using h
      · cases h

/-- The text's order, one operation behind the other. -/
def evalOps (P : Program) (ops : Array Oper) (p : Oid) (c : Nat) : Nat → List Oper → List (Nat × AV) → Mem → List Eff → (List (Nat × AV) → Mem → List Eff → Prop) → Prop
  | _, [], fr, m, log, K => K fr m log
  | i, o :: rest, fr, m, log, K =>
    match wantA ops o (F fr) with
    | some true => ∃ e, EffOK P o (evA fr) (Oid.under (.sub c i p)) e ∧ (∀ q, q ∈ e.need → m q.1 = some q.2) ∧
        evalOps P ops p c (i + 1) rest (put o.dst e.val fr) (m.upds e.upd) (e :: log) K
    | some false => evalOps P ops p c (i + 1) rest (put o.dst (.tuple []) fr) m (⟨[], .tuple [], []⟩ :: log) K
    | none => False

/-- The relation without the names to come. -/
structure RR (x : Ctx) (n : Nat) (ds : List AD) (g : Gh) (f : Nat → AV) (m : Mem) (a : Act) (w : World) : Prop where
  mr : MemRel x g m w
  tm : a.tmps.size = n
  df : DRs g ds a.defers
  fr : ∀ t, t < n → VR g (f t) (a.tmps.getD t undef)

def upd1 (d : Option Nat) (v : AV) (f : Nat → AV) : Nat → AV := fun t => if d = some t then v else f t
theorem F_put (d : Option Nat) (v : AV) (l : List (Nat × AV)) : F (put d v l) = upd1 d v (F l) := by
  funext t
  cases d with
  | none => simp [put, upd1]
  | some d => simp only [put, F, upd1, Option.some.injEq]; by_cases h : t = d <;> simp [h, eq_comm]

theorem put_getD {a : Act} {d : Nat} {v : Value} {t : Nat} (ht : t < a.tmps.size) : ((a.put (some d) v).tmps.getD t undef) = if d = t then v else a.tmps.getD t undef := by
  simp only [Act.put, Array.getD_eq_getD_getElem?, Array.getElem?_setIfInBounds]
  by_cases h : d = t
  · subst h; simp [ht]
  · simp [h]

theorem RR.put {x : Ctx} {n : Nat} {ds : List AD} {g g' : Gh} {f : Nat → AV} {m m' : Mem} {a : Act} {w w' : World} (h : RR x n ds g f m a w) (hg : g.le g') (hm : MemRel x g' m' w') (d : Option Nat) {u : AV} {v : Value} (hv : VR g' u v) :
    RR x n ds g' (upd1 d u f) m' (a.put d v) w' := by
  cases d with
  | none =>
    refine ⟨hm, h.tm, h.df.mono hg, fun t ht => ?_⟩
    simpa [upd1, Act.put] using (h.fr t ht).mono hg
  | some d =>
    refine ⟨hm, by simp [Act.put, h.tm], by simpa [Act.put] using h.df.mono hg, fun t ht => ?_⟩
    rw [put_getD (by rw [h.tm]; exact ht)]
    simp only [upd1, Option.some.injEq]
    by_cases hd : d = t
    · simpa [hd] using hv
    · simpa [hd] using (h.fr t ht).mono hg

theorem operOK_spec {n ng : Nat} {ops : Array Oper} {o : Oper} (h : operOK n ng ops o = true) :
    (∀ d, o.dst = some d → d < n) ∧ (∀ t, .tmp t ∈ o.op.operands.toList → t < n) ∧ (∀ k, .global k ∈ o.op.operands.toList → k < ng) ∧ guardOK n ops o = true := by
  simp only [operOK, Bool.and_eq_true, List.all_eq_true] at h
  obtain ⟨⟨h1, h2⟩, h3⟩ := h
  refine ⟨fun d hd => by rw [hd] at h1; simpa using h1, fun t ht => by simpa [tmpOK] using (h2 _ ht).1, fun k hk => by simpa [gloOK] using (h2 _ hk).2, h3⟩

theorem RR.operands {x : Ctx} {n : Nat} {ds : List AD} {g : Gh} {f : Nat → AV} {m : Mem} {a : Act} {w : World} (h : RR x n ds g f m a w) {ng : Nat} (hng : ng ≤ x.ng) {ops : Array Oper} {o : Oper} (ho : operOK n ng ops o = true)
    {f' : Nat → AV} (hf : ∀ t, .tmp t ∈ o.op.operands.toList → f' t = f t) : ∀ t, t ∈ o.op.operands.toList → VR g (evF f' t) (a.eval t) := by
  obtain ⟨_, h2, h3, _⟩ := operOK_spec ho
  intro t ht
  cases t with
  | tmp t => simp only [evF, Act.eval, hf t ht]; exact h.fr t (h2 t ht)
  | const v => exact constA_vr g v
  | global k => exact .ptr _ _ _ (h.mr.glob k (Nat.lt_of_lt_of_le (h3 k ht) hng))
  | func f => exact .fn _ _ _ _ _ rfl rfl (fun j hj => absurd hj (Nat.not_lt_zero _)) (fun j hj => absurd hj (Nat.not_lt_zero _))

theorem evalOps_seq {P : Program} {x : Ctx} {n c : Nat} {ds : List AD} {ops : Array Oper} {K : List (Nat × AV) → Mem → List Eff → Prop} {Q : Exit → Act → World → Prop} (hng : P.globals.size ≤ x.ng)
    (hok : ∀ (j : Nat) o, ops[j]? = some o → operOK n P.globals.size ops o = true)
    (hK : ∀ g fr m log a w, RR x n ds g (F fr) m a w → (∀ i, Young x.p (c + 1) i → g.loc i = none) → K fr m log → Q .normal a w) :
    ∀ (rest : List Oper) (i : Nat) (fr : List (Nat × AV)) (m : Mem) (log : List Eff) (g : Gh) (a : Act) (w : World), (∀ j, rest[j]? = ops[i + j]?) →
      evalOps P ops x.p c i rest fr m log K → RR x n ds g (F fr) m a w → (∀ k, Young x.p (c + 1) k → g.loc k = none) → (∀ j k, i ≤ j → Oid.under (.sub c j x.p) k → g.loc k = none) →
      wpOpsIn (Fc x.rd) 0 P ops Q (List.range' i rest.length) a w
  | [], i, fr, m, log, g, a, w, _, h, hr, hy, _ => by simp only [List.length_nil, List.range'_zero, wpOpsIn]; exact hK g fr m log a w hr hy h
  | o :: rest, i, fr, m, log, g, a, w, hl, h, hr, hy, hs => by
    have h0 : ops[i]? = some o := by simpa using (hl 0).symm
    have hl' : ∀ j, rest[j]? = ops[i + 1 + j]? := fun j => by have := hl (j + 1); simpa [Nat.add_assoc, Nat.add_comm 1 j] using this
    have ho := hok i o h0
    obtain ⟨o1, o2, o3, o4⟩ := operOK_spec ho
    simp only [List.length_cons, List.range'_succ, wpOpsIn, h0]
    simp only [evalOps] at h
    cases hw : wantA ops o (F fr) with
    | none => simp only [hw] at h
    | some b =>
      rw [VR.wanted o4 (fun t ht _ => hr.fr t ht) hw]
      cases b with
      | true =>
        simp only [hw] at h
        obtain ⟨e, he, hn, hK'⟩ := h
        simp only [if_true]
        refine (he x g a w m hr.mr hn (hr.operands hng ho (fun _ _ => rfl)) (fun k hk => ⟨hs i k (Nat.le_refl _) hk, Oid.under_sub hk⟩) hng _ _ fun g' v w' hle hloc hv hm => ?_)
        refine evalOps_seq hng hok hK rest (i + 1) _ _ _ g' _ w' hl' hK' ?_ ?_ ?_
        · rw [F_put]; exact hr.put hle hm _ hv
        · intro k hk
          rw [hloc k (fun hu => ?_)]; exact hy k hk
          obtain ⟨c', i', hc', hk'⟩ := hk
          have := (Oid.apart hu hk').1; omega
        · intro j k hj hk
          rw [hloc k (fun hu => ?_)]; exact hs j k (by omega) hk
          have := (Oid.apart hu hk).2; omega
      | false =>
        simp only [hw] at h
        simp only [Bool.false_eq_true, if_false]
        refine ⟨fun _ _ => trivial, ?_⟩
        refine evalOps_seq hng hok hK rest (i + 1) _ _ _ g _ w hl' h ?_ hy (fun j k hj hk => hs j k (by omega) hk)
        rw [F_put]; exact hr.put (Gh.le_refl g) hr.mr _ (.tuple _ _ rfl (fun j hj => absurd hj (Nat.not_lt_zero _)))

theorem RR.of {x : Ctx} {n : Nat} {g : Gh} {s : AS} {a : Act} {w : World} (h : Rel x n g s a w) : RR x n s.ds g (F s.fr) s.mem a w := ⟨h.mr, h.tm, h.df, h.fr⟩
theorem RR.rel {x : Ctx} {n : Nat} {ds : List AD} {g : Gh} {fr : List (Nat × AV)} {m : Mem} {c : Nat} {a : Act} {w : World} (h : RR x n ds g (F fr) m a w) (hy : ∀ i, Young x.p c i → g.loc i = none) : Rel x n g ⟨fr, m, c, ds⟩ a w := ⟨h.mr, h.tm, h.df, h.fr, hy⟩

/-- No name that is to come stands for an object. -/
def Fresh (p : Oid) (c : Nat) (m : Mem) : Prop := ∀ i, Young p c i → m i = none
theorem Rel.fresh {x : Ctx} {n : Nat} {g : Gh} {s : AS} {a : Act} {w : World} (h : Rel x n g s a w) : Fresh x.p s.c s.mem := fun i hi => by
  cases hm : s.mem i with
  | none => rfl
  | some o => exact absurd (h.young i hi) (h.mr.taken hm)

theorem T_region_text {P : Program} {x : Ctx} {n : Nat} {s : AS} {Q : AX → AS → Prop} {id : Nat} {ops : Array Oper} (hng : P.globals.size ≤ x.ng) (hok : ops.all (operOK n P.globals.size ops) = true)
    (h : Fresh x.p s.c s.mem → evalOps P ops x.p s.c 0 ops.toList s.fr s.mem [] (fun fr m _ => Q .normal ⟨fr, m, s.c + 1, s.ds⟩)) : T P x n (.region id ops false) s Q := by
  intro g a w hr
  refine wpIn_region ?_
  have hok' : ∀ (j : Nat) o, ops[j]? = some o → operOK n P.globals.size ops o = true := fun j o hj => by
    rw [Array.all_eq_true'] at hok
    exact hok o (Array.mem_of_getElem? hj)
  have := evalOps_seq (Q := fun e a' w' => ∃ g' ex s', Rel x n g' s' a' w' ∧ ex.fits g' e ∧ Q ex s') hng hok' (fun g fr m log a w hr hy hq => ⟨g, .normal, ⟨fr, m, s.c + 1, s.ds⟩, hr.rel hy, trivial, hq⟩)
    ops.toList 0 s.fr s.mem [] g a w (fun j => by simp) (h hr.fresh) (RR.of hr) (fun k hk => hr.young k (hk.mono (Nat.le_succ _))) (fun j k _ hk => hr.young k ⟨s.c, j, Nat.le_refl _, hk⟩)
  simpa [List.range_eq_range'] using this
end Go.Ab
