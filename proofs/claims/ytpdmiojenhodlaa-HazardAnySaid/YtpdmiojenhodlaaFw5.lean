/- A region that draws its order: the theorem. -/
import Derived.Test.YtpdmiojenhodlaaFw4
set_option linter.unusedVariables false
set_option linter.unusedSimpArgs false
namespace Go.Ab

def Eff.none : Eff := ⟨[], .tuple [], []⟩

def Just (P : Program) (ops : Array Oper) (p : Oid) (c i : Nat) (o : Oper) (e : Eff) (f : Nat → AV) (m : Mem) : Prop :=
  (wantA ops o f = some true ∧ EffOK P o (evF f) (Oid.under (.sub c i p)) e ∧ ∀ q, q ∈ e.need → m q.1 = some q.2) ∨ (wantA ops o f = some false ∧ e = Eff.none)

def dstOf (l : List Oper) (k : Nat) : Option Nat := (l[k]?).bind (·.dst)
def valOf (E : List Eff) (k : Nat) : AV := (E.getD k Eff.none).val
def updOf (E : List Eff) (k : Nat) : List (Oid × Option AObj) := (E.getD k Eff.none).upd
def all1 : Nat → Bool := fun _ => true

theorem slotK_shift (o : Oper) (l : List Oper) (e : Eff) (E : List Eff) (f0 : Nat → AV) : ∀ k, slotK (dstOf (o :: l)) (valOf (e :: E)) all1 f0 (k + 1) = slotK (dstOf l) (valOf E) all1 (upd1 o.dst e.val f0) k
  | 0 => by simp [slotK, all1, dstOf, valOf]
  | k + 1 => by
    rw [slotK, slotK_shift o l e E f0 k]
    simp [slotK, all1, dstOf, valOf]
theorem memK_shift (e : Eff) (E : List Eff) (m0 : Mem) : ∀ k, memK (updOf (e :: E)) all1 m0 (k + 1) = memK (updOf E) all1 (m0.upds e.upd) k
  | 0 => by simp [memK, all1, updOf]
  | k + 1 => by
    rw [memK, memK_shift e E m0 k]
    simp [memK, all1, updOf]

theorem evalOps_effs {P : Program} {ops : Array Oper} {p : Oid} {c : Nat} {K : List (Nat × AV) → Mem → List Eff → Prop} :
    ∀ (rest : List Oper) (i : Nat) (fr : List (Nat × AV)) (m : Mem) (log : List Eff), evalOps P ops p c i rest fr m log K →
      ∃ E : List Eff, E.length = rest.length ∧ (∃ fr', F fr' = slotK (dstOf rest) (valOf E) all1 (F fr) rest.length ∧ K fr' (memK (updOf E) all1 m rest.length) (E.reverse ++ log)) ∧
        ∀ k o e, rest[k]? = some o → E[k]? = some e → Just P ops p c (i + k) o e (slotK (dstOf rest) (valOf E) all1 (F fr) k) (memK (updOf E) all1 m k)
  | [], _, fr, m, log, h => ⟨[], rfl, ⟨fr, rfl, h⟩, fun k o e hk => by simp at hk⟩
  | o :: rest, i, fr, m, log, h => by
    have step : ∀ e : Eff, Just P ops p c i o e (F fr) m → evalOps P ops p c (i + 1) rest (put o.dst e.val fr) (m.upds e.upd) (e :: log) K →
        ∃ E : List Eff, E.length = (o :: rest).length ∧ (∃ fr', F fr' = slotK (dstOf (o :: rest)) (valOf E) all1 (F fr) (o :: rest).length ∧ K fr' (memK (updOf E) all1 m (o :: rest).length) (E.reverse ++ log)) ∧
        ∀ k o' e, (o :: rest)[k]? = some o' → E[k]? = some e → Just P ops p c (i + k) o' e (slotK (dstOf (o :: rest)) (valOf E) all1 (F fr) k) (memK (updOf E) all1 m k) := by
      intro e hj hK
      obtain ⟨E, h1, ⟨fr', h2, h3⟩, h4⟩ := evalOps_effs rest (i + 1) _ _ _ hK
      refine ⟨e :: E, by simp [h1], ⟨fr', ?_, ?_⟩, ?_⟩
      · rw [h2, List.length_cons, slotK_shift, F_put]
      · rw [List.length_cons, memK_shift]; simpa using h3
      · intro k o' e' hk he
        cases k with
        | zero =>
          simp only [List.getElem?_cons_zero, Option.some.injEq] at hk he
          subst hk; subst he; exact hj
        | succ k =>
          rw [slotK_shift, memK_shift]
          have := h4 k o' e' (by simpa using hk) (by simpa using he)
          rw [F_put] at this
          rwa [show i + (k + 1) = i + 1 + k from by omega]
    simp only [evalOps] at h
    cases hw : wantA ops o (F fr) with
    | none => simp only [hw] at h
    | some b =>
      cases b with
      | true => simp only [hw] at h; obtain ⟨e, he, hn, hK⟩ := h; exact step e (.inl ⟨hw, he, hn⟩) hK
      | false => simp only [hw] at h; exact step Eff.none (.inr ⟨hw, rfl⟩) h

/-- Two effects that do not meet. -/
def disjE (a b : Eff) : Prop := (∀ q, q ∈ a.upd → ∀ q', q' ∈ b.need → q.1 ≠ q'.1) ∧ (∀ q, q ∈ a.upd → ∀ q', q' ∈ b.upd → q.1 ≠ q'.1) ∧ (∀ q, q ∈ a.need → ∀ q', q' ∈ b.upd → q.1 ≠ q'.1)
def compatE (B : List Nat) (E : List Eff) : Prop := ∀ i j ei ej, i < j → E[i]? = some ei → E[j]? = some ej → (B.getD j 0).testBit i = false → disjE ei ej

theorem looksAt_op {ops : Array Oper} {o : Oper} {t : Nat} (h : .tmp t ∈ o.op.operands.toList) : t ∈ o.looksAt ops := by
  unfold Oper.looksAt
  refine List.mem_append.2 (.inl (List.mem_filterMap.2 ⟨.tmp t, h, rfl⟩))
theorem looksAt_guard {ops : Array Oper} {o : Oper} {t j : Nat} {w : Bool} (h : o.guard = some (j, w)) (hd : (ops[j]?).bind (·.dst) = some t) : t ∈ o.looksAt ops := by
  unfold Oper.looksAt
  refine List.mem_append.2 (.inr ?_)
  rw [h]; simp only []; rw [hd]; simp

theorem wantA_congr {ops : Array Oper} {o : Oper} {f f' : Nat → AV} (h : ∀ t, t ∈ o.looksAt ops → f t = f' t) : wantA ops o f = wantA ops o f' := by
  unfold wantA
  cases hg : o.guard with
  | none => rfl
  | some q =>
    obtain ⟨j, w⟩ := q
    simp only []
    cases hd : (ops[j]?).bind (·.dst) with
    | none => rfl
    | some d => simp only []; rw [h d (looksAt_guard hg hd)]

theorem MemRel.drew {x : Ctx} {g : Gh} {m : Mem} {w : World} (h : MemRel x g m w) (k : Nat) (hk : w.drawn ≤ k) : MemRel x g m { w with drawn := k } :=
  ⟨h.le, h.locs, h.glob, h.coms, fun i o hi => (h.obj0 i o hi).imp id fun ⟨b, h1, h2, h3, h4⟩ => ⟨b, h1, h2, h3, ObjAt.block rfl h4⟩, h.inj, h.com, h.one, h.rows, h.os, h.tape, ⟨h.output.1, Nat.le_trans h.output.2 hk⟩, h.size, h.kept⟩

section
variable {P : Program} {x : Ctx} {n c : Nat} {ds : List AD} {ops : Array Oper} {E : List Eff} {f0 : Nat → AV} {m0 : Mem} {Q : Exit → Act → World → Prop}

structure Inv (x : Ctx) (n : Nat) (ds : List AD) (c : Nat) (ops : Array Oper) (E : List Eff) (f0 : Nat → AV) (m0 : Mem) (listed : Array Bool) (a : Act) (w : World) : Prop where
  size : listed.size = ops.size
  closed : ∀ j, listed.getD j false = true → ∀ k, ((befs ops.toList []).getD j 0).testBit k = true → listed.getD k false = true
  rr : ∃ g, RR x n ds g (slotK (dstOf ops.toList) (valOf E) (fun j => listed.getD j false) f0 ops.size) (memK (updOf E) (fun j => listed.getD j false) m0 ops.size) a w ∧
    (∀ k, Young x.p (c + 1) k → g.loc k = none) ∧ (∀ j k, listed.getD j false = false → Oid.under (.sub c j x.p) k → g.loc k = none)

theorem region_any (hng : P.globals.size ≤ x.ng) (hok : ∀ (j : Nat) o, ops[j]? = some o → operOK n P.globals.size ops o = true) (hd : drawOK ops = true) (hE : E.length = ops.size)
    (hj : ∀ k o e, ops[k]? = some o → E[k]? = some e → Just P ops x.p c k o e (slotK (dstOf ops.toList) (valOf E) all1 f0 k) (memK (updOf E) all1 m0 k))
    (hc : compatE (befs ops.toList []) E)
    (hQ : ∀ g a w, RR x n ds g (slotK (dstOf ops.toList) (valOf E) all1 f0 ops.size) (memK (updOf E) all1 m0 ops.size) a w → (∀ k, Young x.p (c + 1) k → g.loc k = none) → Q .normal a w) :
    ∀ (fuel : Nat) (listed : Array Bool) (a : Act) (w : World), listed.toList.count false = fuel → Inv x n ds c ops E f0 m0 listed a w → wpAnyIn (Fc x.rd) 0 P .any ops Q fuel listed a w := by
  simp only [drawOK, Bool.and_eq_true] at hd
  obtain ⟨hback, hap⟩ := hd
  -- the edges lead back
  have back : ∀ i o, ops[i]? = some o → ∀ e, e ∈ o.after → Region.binds .any e = true → e.on < i := by
    intro i o ho e he hb
    have hi : i < ops.size := by
      rcases Nat.lt_or_ge i ops.size with h | h
      · exact h
      · simp [Array.getElem?_eq_none h] at ho
    simp only [backOK, List.all_eq_true, List.mem_range] at hback
    have := hback i hi
    rw [ho] at this
    simp only [Array.all_eq_true'] at this
    have := this e he
    simpa [hb] using this
  have apart : ∀ i j oi oj, i < j → ops[i]? = some oi → ops[j]? = some oj → ((befs ops.toList []).getD j 0).testBit i = false → oi.apart ops oj = true := by
    intro i j oi oj hij hi hj' hb
    have hlt : j < ops.size := by
      rcases Nat.lt_or_ge j ops.size with h | h
      · exact h
      · simp [Array.getElem?_eq_none h] at hj'
    simp only [apartOK, List.all_eq_true, List.mem_range] at hap
    have := hap j hlt i hij
    rw [hb, hi, hj'] at this
    simpa using this
  -- what an operation waits for, all of it
  have bit : ∀ i o k, ops[i]? = some o → ((befs ops.toList []).getD i 0).testBit k = true → ∃ e, e ∈ o.after ∧ Region.binds .any e = true ∧ (k = e.on ∨ ((befs ops.toList []).getD e.on 0).testBit k = true) := by
    intro i o k ho hk
    obtain ⟨acc, h1, h2, h3⟩ := befs_at ops.toList [] i o (by simpa using ho)
    simp only [List.length_nil, Nat.zero_add] at h1 h2 h3
    rw [h2] at hk
    obtain ⟨e, he, hb, hk'⟩ := bits_spec acc o k hk
    exact ⟨e, he, hb, hk'.imp id (fun h => by rw [h3 _ (back i o ho e he hb)] at h; exact h)⟩
  intro fuel
  induction fuel with
  | zero =>
    intro listed a w hf hI
    have hall : ∀ j, j < ops.size → listed.getD j false = true := by
      intro j hlt
      have hlt' : j < listed.size := by rw [hI.size]; exact hlt
      cases hv : listed.getD j false with
      | true => rfl
      | false =>
        have hm : false ∈ listed.toList := by
          have : listed[j] = false := by simpa [hlt'] using hv
          rw [← this]; simp
        have := List.count_pos_iff.2 hm
        omega
    obtain ⟨g, hr, hy, _⟩ := hI.rr
    refine ⟨?_, hQ g a w ?_ hy⟩
    · refine List.eq_nil_iff_forall_not_mem.2 fun j hm => ?_
      obtain ⟨h0, o, ho, _⟩ := mem_ready.1 hm
      have hlt : j < ops.size := by
        rcases Nat.lt_or_ge j ops.size with h | h
        · exact h
        · simp [Array.getElem?_eq_none h] at ho
      have := hall j hlt
      have hlt' : j < listed.size := by rw [hI.size]; exact hlt
      simp [hlt'] at h0 this
      rw [h0] at this; cases this
    · have e1 : slotK (dstOf ops.toList) (valOf E) (fun j => listed.getD j false) f0 ops.size = slotK (dstOf ops.toList) (valOf E) all1 f0 ops.size := by
        funext t; exact slotK_agree _ fun j hlt _ => hall j hlt
      have e2 : memK (updOf E) (fun j => listed.getD j false) m0 ops.size = memK (updOf E) all1 m0 ops.size := by
        funext t; exact memK_agree _ fun j hlt _ => hall j hlt
      rwa [e1, e2] at hr
  | succ fuel ih =>
    intro listed a w hf hI
    refine ⟨fun hnil => ?_, fun i hi => ?_⟩
    · -- the least that has not been carried out is ready
      exfalso
      have hm : false ∈ listed.toList := List.count_pos_iff.1 (by omega)
      obtain ⟨j, hj1, hj2⟩ := List.mem_iff_getElem.1 hm
      have hp : ∃ j, j < ops.size ∧ listed.getD j false = false := ⟨j, by rw [← hI.size]; simpa using hj1, by
        have : j < listed.size := by simpa using hj1
        simp only [Array.getElem_toList] at hj2
        simp [this, hj2]⟩
      obtain ⟨j, ⟨hlt, hv⟩, hmin⟩ := least _ hp
      have hmem : j ∈ Region.ready .any ops listed := by
        refine mem_ready.2 ⟨by have : j < listed.size := by rw [hI.size]; exact hlt
                               simp [this] at hv ⊢; exact hv, ops[j], by simp [hlt], fun e he hb => ?_⟩
        have h1 := back j ops[j] (by simp [hlt]) e he hb
        cases hv' : listed.getD e.on false with
        | true => rfl
        | false => have := hmin e.on ⟨by omega, hv'⟩; omega
      rw [hnil] at hmem; cases hmem
    · obtain ⟨h0, o, ho, hall⟩ := mem_ready.1 hi
      have hlt : i < ops.size := by
        rcases Nat.lt_or_ge i ops.size with h | h
        · exact h
        · simp [Array.getElem?_eq_none h] at ho
      have hlt' : i < listed.size := by rw [hI.size]; exact hlt
      have hun : listed.getD i false = false := by simpa [hlt'] using h0
      obtain ⟨e, he⟩ : ∃ e, E[i]? = some e := ⟨E[i]'(by rw [hE]; exact hlt), by simp [hE, hlt]⟩
      obtain ⟨g, hr, hy, hs⟩ := hI.rr
      -- all that it waits for has been carried out
      have pre : ∀ k, ((befs ops.toList []).getD i 0).testBit k = true → listed.getD k false = true := by
        intro k hk
        obtain ⟨ed, h1, h2, h3⟩ := bit i o k ho hk
        rcases h3 with h3 | h3
        · rw [h3]; exact hall ed h1 h2
        · exact hI.closed _ (hall ed h1 h2) k h3
      -- what stands behind it in the text and has been carried out does not wait for it
      have post : ∀ j, listed.getD j false = true → ((befs ops.toList []).getD j 0).testBit i = false := by
        intro j hjl
        cases hb : ((befs ops.toList []).getD j 0).testBit i with
        | false => rfl
        | true => have := hI.closed j hjl i hb; rw [hun] at this; cases this
      have hops : ∀ j, listed.getD j false = true → ∃ oj, ops[j]? = some oj := by
        intro j hjl
        have : j < listed.size := by
          rcases Nat.lt_or_ge j listed.size with h | h
          · exact h
          · simp [Array.getElem?_eq_none h] at hjl
        exact ⟨ops[j]'(by rw [← hI.size]; exact this), by simp [← hI.size, this]⟩
      have hdst : ∀ j oj, ops[j]? = some oj → dstOf ops.toList j = oj.dst := fun j oj h => by simp [dstOf, h]
      -- the slots that it looks at hold what they hold in the text's order
      have slots : ∀ t, t ∈ o.looksAt ops → slotK (dstOf ops.toList) (valOf E) all1 f0 i t = slotK (dstOf ops.toList) (valOf E) (fun j => listed.getD j false) f0 ops.size t := by
        intro t ht
        rw [slotK_tail (i := i) (L := fun j => listed.getD j false) ops.size (by omega) (fun j h1 h2 hl hd => ?_)]
        · refine slotK_agree i fun j hji hd => ?_
          obtain ⟨oj, hoj⟩ : ∃ oj, ops[j]? = some oj := ⟨ops[j]'(by omega), by simp⟩
          rw [hdst j oj hoj] at hd
          simp only [all1]
          cases hb : ((befs ops.toList []).getD i 0).testBit j with
          | true => exact (pre j hb).symm
          | false => exact absurd ht ((Oper.apart_spec (apart j i oj o hji hoj ho hb)).1 t hd)
        · obtain ⟨oj, hoj⟩ := hops j hl
          rw [hdst j oj hoj] at hd
          by_cases hji : j = i
          · subst hji; rw [hun] at hl; cases hl
          · exact absurd ht ((Oper.apart_spec (apart i j o oj (by omega) ho hoj (post j hl))).2.2 t hd)
      have hE' : ∀ j, j < ops.size → ∃ ej, E[j]? = some ej ∧ updOf E j = ej.upd := fun j hj => ⟨E[j]'(by rw [hE]; exact hj), by simp [hE, hj], by simp [updOf, hE, hj, List.getD_eq_getElem?_getD]⟩
      have mems : ∀ q, q ∈ e.need → memK (updOf E) all1 m0 i q.1 = memK (updOf E) (fun j => listed.getD j false) m0 ops.size q.1 := by
        intro q hq
        rw [memK_tail (i := i) (L := fun j => listed.getD j false) ops.size (by omega) (fun j h1 h2 hl q' hq' => ?_)]
        · refine memK_agree i fun j hji ⟨q', hq', hid⟩ => ?_
          simp only [all1]
          cases hb : ((befs ops.toList []).getD i 0).testBit j with
          | true => exact (pre j hb).symm
          | false =>
            obtain ⟨ej, hej, huj⟩ := hE' j (by omega)
            rw [huj] at hq'
            exact absurd hid ((hc j i ej e hji hej he hb).1 q' hq' q hq)
        · by_cases hji : j = i
          · subst hji; simp only [hun] at hl; cases hl
          · obtain ⟨ej, hej, huj⟩ := hE' j h2
            rw [huj] at hq'
            exact ((hc i j e ej (by omega) he hej (post j hl)).2.2 q hq q' hq').symm
      have hval : valOf E i = e.val := by simp [valOf, List.getD_eq_getElem?_getD, he]
      have hupd : updOf E i = e.upd := by simp [updOf, List.getD_eq_getElem?_getD, he]
      -- the new state
      have hset : ∀ j, (listed.setIfInBounds i true).getD j false = (listed.getD j false || (j == i)) := by
        intro j
        by_cases hji : i = j
        · subst hji; simp [hlt']
        · rw [getD_set_ne false hji]; simp [Ne.symm hji]
      have eslot : slotK (dstOf ops.toList) (valOf E) (fun j => (listed.setIfInBounds i true).getD j false) f0 ops.size = upd1 o.dst e.val (slotK (dstOf ops.toList) (valOf E) (fun j => listed.getD j false) f0 ops.size) := by
        rw [slotK_add (L := fun j => listed.getD j false) hlt hun hset (fun j d h1 h2 hl hd hd' => ?_), hdst i o ho, hval]
        obtain ⟨oj, hoj⟩ := hops j hl
        rw [hdst i o ho] at hd
        rw [hdst j oj hoj] at hd'
        exact (Oper.apart_spec (apart i j o oj h1 ho hoj (post j hl))).2.1 d hd hd'
      have emem : memK (updOf E) (fun j => (listed.setIfInBounds i true).getD j false) m0 ops.size = (memK (updOf E) (fun j => listed.getD j false) m0 ops.size).upds e.upd := by
        rw [memK_add (L := fun j => listed.getD j false) hlt hun hset (fun j h1 h2 hl q hq q' hq' => ?_), hupd]
        rw [hupd] at hq
        obtain ⟨ej, hej, huj⟩ := hE' j h2
        rw [huj] at hq'
        exact (hc i j e ej h1 he hej (post j hl)).2.1 q hq q' hq'
      have hcnt : (listed.setIfInBounds i true).toList.count false = fuel := by
        have hv : listed[i] = false := by simpa [hlt'] using hun
        rw [Array.toList_setIfInBounds, List.count_set (by simpa using hlt')]
        simp [hv]
        have : listed.toList.count false = fuel + 1 := hf
        simp at this
        omega
      have hclosed : ∀ j, (listed.setIfInBounds i true).getD j false = true → ∀ k, ((befs ops.toList []).getD j 0).testBit k = true → (listed.setIfInBounds i true).getD k false = true := by
        intro j hj k hk
        rw [hset] at hj ⊢
        simp only [Bool.or_eq_true, beq_iff_eq] at hj
        rcases hj with hj | hj
        · rw [hI.closed j hj k hk]; rfl
        · subst hj; rw [pre k hk]; rfl
      obtain ⟨o1, o2, o3, o4⟩ := operOK_spec (hok i o ho)
      unfold wpOpIn
      rw [ho]
      simp only []
      rcases hj i o e ho he with ⟨hw, hok', hneed⟩ | ⟨hw, hno⟩
      · rw [VR.wanted o4 (fun t ht _ => hr.fr t ht) (by rw [← wantA_congr slots]; exact hw)]
        simp only [if_true]
        refine (hok' x g a w _ hr.mr (fun q hq => by rw [← mems q hq]; exact hneed q hq) (hr.operands hng (hok i o ho) (fun t ht => slots t (looksAt_op ht)))
          (fun k hk => ⟨hs i k hun hk, Oid.under_sub hk⟩) hng _ _ fun g' v w' hle hloc hv hm => ?_)
        refine ih _ _ _ hcnt ⟨by simp [hI.size], hclosed, g', ?_, ?_, ?_⟩
        · rw [eslot, emem]; exact hr.put hle hm _ hv
        · intro k hk
          rw [hloc k (fun hu => ?_)]; exact hy k hk
          obtain ⟨c', i', hc', hk'⟩ := hk
          have := (Oid.apart hu hk').1; omega
        · intro j k hj hk
          rw [hset] at hj
          simp only [Bool.or_eq_false_iff, beq_eq_false_iff_ne] at hj
          rw [hloc k (fun hu => hj.2 (Oid.apart hu hk).2.symm)]; exact hs j k hj.1 hk
      · rw [VR.wanted o4 (fun t ht _ => hr.fr t ht) (by rw [← wantA_congr slots]; exact hw)]
        simp only [Bool.false_eq_true, if_false]
        refine ⟨fun _ _ => trivial, ?_⟩
        refine ih _ _ _ hcnt ⟨by simp [hI.size], hclosed, g, ?_, hy, ?_⟩
        · rw [eslot, emem]
          subst hno
          exact hr.put (Gh.le_refl g) hr.mr _ (.tuple _ _ rfl (fun j hj => absurd hj (Nat.not_lt_zero _)))
        · intro j k hj hk
          rw [hset] at hj
          simp only [Bool.or_eq_false_iff, beq_eq_false_iff_ne] at hj
          exact hs j k hj.1 hk
end

theorem T_region_draw {P : Program} {x : Ctx} {n : Nat} {s : AS} {Q : AX → AS → Prop} {id : Nat} {ops : Array Oper} (hmx : P.follows .mixedOrders = true) (hng : P.globals.size ≤ x.ng)
    (hok : ops.all (operOK n P.globals.size ops) = true) (hd : drawOK ops = true)
    (h : Fresh x.p s.c s.mem → evalOps P ops x.p s.c 0 ops.toList s.fr s.mem [] (fun fr m log => compatE (befs ops.toList []) log.reverse ∧ ∀ fr', F fr' = F fr → Q .normal ⟨fr', m, s.c + 1, s.ds⟩)) :
    T P x n (.region id ops true) s Q := by
  intro g a w hr
  have hok' : ∀ (j : Nat) o, ops[j]? = some o → operOK n P.globals.size ops o = true := fun j o hj => by
    rw [Array.all_eq_true'] at hok
    exact hok o (Array.mem_of_getElem? hj)
  obtain ⟨E, h1, ⟨fr', h2, h3, h4⟩, h5⟩ := evalOps_effs _ _ _ _ _ (h hr.fresh)
  simp only [List.append_nil, List.reverse_reverse] at h3
  simp only [Array.length_toList] at h1 h2 h4
  refine wpIn_region_any hmx (region_any (E := E) (ds := s.ds) (f0 := F s.fr) (m0 := s.mem) (x := x) (n := n) (c := s.c) hng hok' hd h1 (fun k o e hk he => ?_) h3 (fun g a w hrr hy => ?_) _ _ _ _ ?_ ?_)
  · have := h5 k o e (by simpa using hk) he
    simpa using this
  · rw [← h2] at hrr
    exact ⟨g, .normal, _, hrr.rel hy, trivial, h4 fr' rfl⟩
  · simp [List.count_replicate]
  · have hL : ∀ j, (Array.replicate ops.size false).getD j false = false := fun j => by simp [Array.getElem?_replicate]; split <;> rfl
    refine ⟨by simp, fun j hj => absurd hj (by rw [hL j]; simp), g, ?_, fun k hk => hr.young k (hk.mono (Nat.le_succ _)), fun j k _ hk => hr.young k ⟨s.c, j, Nat.le_refl _, hk⟩⟩
    have e1 : ∀ k, slotK (dstOf ops.toList) (valOf E) (fun j => (Array.replicate ops.size false).getD j false) (F s.fr) k = F s.fr := by
      intro k; induction k with
      | zero => rfl
      | succ k ih => simp only [slotK, hL, Bool.false_eq_true, if_false]; simpa only [hL] using ih
    have e2 : ∀ k, memK (updOf E) (fun j => (Array.replicate ops.size false).getD j false) s.mem k = s.mem := by
      intro k; induction k with
      | zero => rfl
      | succ k ih => simp only [memK, hL, Bool.false_eq_true, if_false]; simpa only [hL] using ih
    rw [e1, e2]
    exact ⟨hr.mr.drew _ (Nat.le_add_right _ _), hr.tm, hr.df, hr.fr⟩
end Go.Ab
