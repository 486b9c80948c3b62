/- Code as a stack of pieces: the rules of the walk. -/
import Derived.Test.YtpdmiojenhodlaaFw23
set_option linter.unusedVariables false
set_option linter.unusedSimpArgs false
namespace Go.Ab

inductive Pc where
  | code (c : Code)
  | bend (id : Nat)
  | lend (ts : List Nat) (I : Nat → AS → Prop) (k : Nat)

/-- What is still to come behind a piece of code. -/
def after (P : Program) (x : Ctx) (n : Nat) (Q : AX → AS → Prop) : List Pc → AX → AS → Prop
  | [], e, s => Q e s
  | k :: ks, e, s => match k, e with
    | .code c, .normal => T P x n c s (after P x n Q ks)
    | .lend ts I k, .normal => ∃ k' m', k' < k ∧ (∀ i o, m' i = some o → s.mem i = some o) ∧ I k' ⟨keepF ts s.fr, m', s.c, s.ds⟩
    | .bend j, .exit i => if i = j then after P x n Q ks .normal s else after P x n Q ks (.exit i) s
    | _, e => after P x n Q ks e s

section
variable {P : Program} {x : Ctx} {n : Nat} {Q : AX → AS → Prop} {ks : List Pc} {s : AS} {fr : List (Nat × AV)} {m : Mem} {c : Nat} {ds : List AD}

theorem K_next {a : Code} (h : T P x n a s (after P x n Q ks)) : after P x n Q (.code a :: ks) .normal s := h
theorem K_bend {j : Nat} (h : after P x n Q ks .normal s) : after P x n Q (.bend j :: ks) .normal s := h
theorem K_lendL {ts : List Nat} {I : Nat → AS → Prop} {k : Nat} (h : ∃ k' m', k' < k ∧ (∀ i o, m' i = some o → m i = some o) ∧ I k' ⟨keepF ts fr, m', c, ds⟩) :
    after P x n Q (.lend ts I k :: ks) .normal ⟨fr, m, c, ds⟩ := h
theorem K_nil {e : AX} (h : Q e s) : after P x n Q [] e s := h
theorem X_code {a : Code} {i : Nat} (h : after P x n Q ks (.exit i) s) : after P x n Q (.code a :: ks) (.exit i) s := h
theorem X_lend {ts : List Nat} {I : Nat → AS → Prop} {k i : Nat} (h : after P x n Q ks (.exit i) s) : after P x n Q (.lend ts I k :: ks) (.exit i) s := h
theorem X_here {i : Nat} (h : after P x n Q ks .normal s) : after P x n Q (.bend i :: ks) (.exit i) s := by simp only [after, if_true]; exact h
theorem X_on {i j : Nat} (hj : (Nat.beq i j) = false) (h : after P x n Q ks (.exit i) s) : after P x n Q (.bend j :: ks) (.exit i) s := by
  have : ¬ i = j := fun e => by subst e; simp at hj
  simp only [after, if_neg this]; exact h
theorem after_ret : ∀ {ks : List Pc}, Q .ret s → after P x n Q ks .ret s
  | [], h => h
  | .code _ :: ks, h => after_ret (ks := ks) h
  | .bend _ :: ks, h => after_ret (ks := ks) h
  | .lend .. :: ks, h => after_ret (ks := ks) h
theorem after_panic {v : AV} : ∀ {ks : List Pc}, Q (.panic v) s → after P x n Q ks (.panic v) s
  | [], h => h
  | .code _ :: ks, h => after_panic (ks := ks) h
  | .bend _ :: ks, h => after_panic (ks := ks) h
  | .lend .. :: ks, h => after_panic (ks := ks) h

theorem K_seq {a b : Code} (h : T P x n a s (after P x n Q (.code b :: ks))) : T P x n (.seq a b) s (after P x n Q ks) :=
  T_seq (T_mono h fun e s h => by cases e <;> exact h)
theorem K_skip (h : after P x n Q ks .normal s) : T P x n .skip s (after P x n Q ks) := T_skip h
theorem K_ret (h : Q .ret s) : T P x n .ret s (after P x n Q ks) := T_ret (after_ret h)
theorem K_exit {i : Nat} (h : after P x n Q ks (.exit i) s) : T P x n (.exit i) s (after P x n Q ks) := T_exit h
theorem K_block {id : Nat} {a : Code} (h : T P x n a s (after P x n Q (.bend id :: ks))) : T P x n (.block id a) s (after P x n Q ks) :=
  T_block (T_mono h fun e s h => by cases e <;> first | exact h | (simp only [after] at h; simp only [AX.inBlock]; split <;> simp_all))
/-- A loop. ts: the slots that its invariant speaks of; what else is known is forgotten at each round's head. -/
theorem K_loop (ts : List Nat) {a : Code} (I : Nat → AS → Prop) (k : Nat) (h0 : I k ⟨keepF ts fr, m, c, ds⟩)
    (round : ∀ k s, I k s → T P x n a s (after P x n Q (.lend ts I k :: ks))) : T P x n (.loop a) ⟨fr, m, c, ds⟩ (after P x n Q ks) := by
  refine T_loop (fun k s => ∃ m', (∀ i o, m' i = some o → s.mem i = some o) ∧ I k ⟨keepF ts s.fr, m', s.c, s.ds⟩) k ⟨m, fun _ _ h => h, h0⟩ ?_
  rintro k ⟨fr', m1, c', ds'⟩ ⟨m', hm, hi⟩
  refine T_forget (s := ⟨fr', m1, c', ds'⟩) (keepF ts fr') (fun t _ => F_keepF ts fr' t) ?_
  refine T_drop (s := ⟨keepF ts fr', m1, c', ds'⟩) m' hm ?_
  refine T_mono (round k _ hi) fun e s h => ?_
  cases e with
  | normal => obtain ⟨k', m', h1, h2, h3⟩ := h; exact ⟨k', h1, m', h2, h3⟩
  | _ => exact h
/-- A test. -/
theorem K_if {t : Nat} {a b : Code} {v : Bool} (ht : (decide (t < n)) = true) (hv : F fr t = .bool v) (h1 : v = true → T P x n a ⟨fr, m, c, ds⟩ (after P x n Q ks)) (h2 : v = false → T P x n b ⟨fr, m, c, ds⟩ (after P x n Q ks)) :
    T P x n (.cond (.tmp t) a b) ⟨fr, m, c, ds⟩ (after P x n Q ks) := R_if ht hv h1 h2
theorem K_ifd {t : Nat} {a b : Code} {p : Prop} {i : Decidable p} (ht : (decide (t < n)) = true) (hv : F fr t = .bool (decide p)) (h1 : p → T P x n a ⟨fr, m, c, ds⟩ (after P x n Q ks)) (h2 : ¬ p → T P x n b ⟨fr, m, c, ds⟩ (after P x n Q ks)) :
    T P x n (.cond (.tmp t) a b) ⟨fr, m, c, ds⟩ (after P x n Q ks) := R_if ht hv (fun h => h1 (of_decide_eq_true h)) (fun h => h2 (of_decide_eq_false h))

theorem K_ifT {t : Nat} {a b : Code} (ht : (decide (t < n)) = true) (hv : F fr t = .bool true) (h1 : T P x n a ⟨fr, m, c, ds⟩ (after P x n Q ks)) : T P x n (.cond (.tmp t) a b) ⟨fr, m, c, ds⟩ (after P x n Q ks) := K_if ht hv (fun _ => h1) (fun h => by cases h)
theorem K_ifF {t : Nat} {a b : Code} (ht : (decide (t < n)) = true) (hv : F fr t = .bool false) (h1 : T P x n b ⟨fr, m, c, ds⟩ (after P x n Q ks)) : T P x n (.cond (.tmp t) a b) ⟨fr, m, c, ds⟩ (after P x n Q ks) := K_if ht hv (fun h => by cases h) (fun _ => h1)
/-- A cut: what holds behind a piece; ts: the slots that it speaks of. -/
def Cut (P : Program) (x : Ctx) (n : Nat) (Q : AX → AS → Prop) (ks : List Pc) (ts : List Nat) (R : AS → Prop) : AX → AS → Prop
  | .normal, s => ∃ m', (∀ i o, m' i = some o → s.mem i = some o) ∧ R ⟨keepF ts s.fr, m', s.c, s.ds⟩
  | e, s => after P x n Q ks e s
theorem K_cut {a b : Code} (ts : List Nat) (R : AS → Prop) (h : T P x n a s (after P x n (Cut P x n Q ks ts R) [])) (h2 : ∀ s, R s → T P x n b s (after P x n Q ks)) : T P x n a s (after P x n Q (.code b :: ks)) :=
  T_mono h fun e s h => by
    cases e with
    | normal =>
      obtain ⟨m', h1, h3⟩ := h
      obtain ⟨fr', m1, c', ds'⟩ := s
      refine T_forget (s := ⟨fr', m1, c', ds'⟩) (keepF ts fr') (fun t _ => F_keepF ts fr' t) ?_
      exact T_drop (s := ⟨keepF ts fr', m1, c', ds'⟩) m' h1 (h2 _ h3)
    | _ => exact h
theorem K_cutB {a b : Code} {j : Nat} (ts : List Nat) (R : AS → Prop) (h : T P x n a s (after P x n (Cut P x n Q (.bend j :: .code b :: ks) ts R) [])) (h2 : ∀ s, R s → T P x n b s (after P x n Q ks)) : T P x n a s (after P x n Q (.bend j :: .code b :: ks)) :=
  T_mono h fun e s h => by
    cases e with
    | normal =>
      obtain ⟨m', h1, h3⟩ := h
      obtain ⟨fr', m1, c', ds'⟩ := s
      refine T_forget (s := ⟨fr', m1, c', ds'⟩) (keepF ts fr') (fun t _ => F_keepF ts fr' t) ?_
      exact T_drop (s := ⟨keepF ts fr', m1, c', ds'⟩) m' h1 (h2 _ h3)
    | _ => exact h
theorem K_cutN {ts : List Nat} {R : AS → Prop} (h : R ⟨keepF ts fr, m, c, ds⟩) : after P x n (Cut P x n Q ks ts R) [] .normal ⟨fr, m, c, ds⟩ := ⟨m, fun _ _ h => h, h⟩
theorem K_cutM {ts : List Nat} {R : AS → Prop} (m' : Mem) (hm : ∀ i o, m' i = some o → m i = some o) (h : R ⟨keepF ts fr, m', c, ds⟩) : after P x n (Cut P x n Q ks ts R) [] .normal ⟨fr, m, c, ds⟩ := ⟨m', hm, h⟩
theorem Cut_ret {ts : List Nat} {R : AS → Prop} (h : Q .ret s) : Cut P x n Q ks ts R .ret s := after_ret h
theorem Cut_exit {ts : List Nat} {R : AS → Prop} {i : Nat} (h : after P x n Q ks (.exit i) s) : after P x n (Cut P x n Q ks ts R) [] (.exit i) s := h
theorem Cut_panic {ts : List Nat} {R : AS → Prop} {v : AV} (h : Q (.panic v) s) : Cut P x n Q ks ts R (.panic v) s := after_panic h

/-- What is forgotten. -/
theorem K_keep {a : Code} (ts : List Nat) (h : T P x n a ⟨keepF ts fr, m, c, ds⟩ Q) : T P x n a ⟨fr, m, c, ds⟩ Q :=
  T_forget (s := ⟨fr, m, c, ds⟩) (keepF ts fr) (fun t _ => F_keepF ts fr t) h
theorem K_fr {a : Code} (fr' : List (Nat × AV)) (hk : fr'.all (fun q => decide (q.1 < n)) = true) (hv : ∀ q, q ∈ fr' → q.2 = F fr q.1) (h : T P x n a ⟨fr', m, c, ds⟩ Q) : T P x n a ⟨fr, m, c, ds⟩ Q := by
  refine T_forget (s := ⟨fr, m, c, ds⟩) fr' (fun t _ => ?_) h
  clear hk h
  induction fr' with
  | nil => exact .inl rfl
  | cons q l ih =>
    simp only [F]
    split
    · rename_i h; right; rw [hv q List.mem_cons_self, h]
    · exact ih fun q' hq' => hv q' (List.mem_cons_of_mem _ hq')
/-- A slot that holds a nil slice: a list without elements. -/
theorem K_nilList {a : Code} (t sz : Nat) (ht : F fr t = .nilSl) (h : T P x n a ⟨(t, .list sz []) :: fr, m, c, ds⟩ Q) : T P x n a ⟨fr, m, c, ds⟩ Q := by
  refine T_ghost (s := ⟨fr, m, c, ds⟩) (s' := ⟨(t, .list sz []) :: fr, m, c, ds⟩) (fun g b w hr => ⟨g, hr.mr, hr.tm, hr.df, fun u hu => ?_, hr.young⟩) h
  simp only [F]
  split
  · rename_i e; subst e
    have := hr.fr u hu
    simp only [ht] at this
    rw [this.nilSl_inv]; exact .listNil _
  · exact hr.fr u hu
/-- A slot that holds a nil slice: a row without elements, under a name of its own. -/
theorem K_void {a : Code} (t sz : Nat) (ht : F fr t = .nilSl) (h : T P x n a ⟨(t, .sl (.sub c 0 x.p) sz 0) :: fr, m.set (.sub c 0 x.p) (some (.arr sz [])), c + 1, ds⟩ Q) : T P x n a ⟨fr, m, c, ds⟩ Q := by
  refine T_ghost (s := ⟨fr, m, c, ds⟩) _ (fun g b w hr => ?_) h
  have hl : g.loc (.sub c 0 x.p) = none := hr.young _ ⟨c, 0, Nat.le_refl _, Oid.under_refl _⟩
  have hle := Gh.le_nowhere hl
  refine ⟨g.nowhere (.sub c 0 x.p), hr.mr.newVoid sz hl (Oid.under_sub (Oid.under_refl _)), hr.tm, hr.df.mono hle, fun u hu => ?_, fun i hi => ?_⟩
  · simp only [F]
    split
    · rename_i e; subst e
      have := hr.fr u hu
      simp only [ht] at this
      rw [this.nilSl_inv]
      exact .slNil _ _ (by simp [Gh.nowhere])
    · exact (hr.fr u hu).mono hle
  · simp only [Gh.nowhere]
    split
    · rename_i e; subst e
      obtain ⟨c', i', h1, h2⟩ := hi
      have := (Oid.apart (Oid.under_refl _) h2).1
      simp only at h1
      omega
    · exact hr.young i (hi.mono (Nat.le_succ _))
/-- A row is fixed for good. -/
def frzV (i : Oid) (sz : Nat) (xs : List AV) : AV → AV
  | .sl j s n => if j = i ∧ s = sz ∧ n = xs.length then .list sz xs else .sl j s n
  | v => v
def frz (i : Oid) (sz : Nat) (xs : List AV) : List (Nat × AV) → List (Nat × AV)
  | [] => []
  | q :: l => (q.1, frzV i sz xs q.2) :: frz i sz xs l
theorem F_frz (i : Oid) (sz : Nat) (xs : List AV) (t : Nat) : ∀ fr, F (frz i sz xs fr) t = frzV i sz xs (F fr t)
  | [] => rfl
  | q :: l => by
    simp only [frz, F]
    split
    · rfl
    · exact F_frz i sz xs t l
theorem K_freeze {a : Code} (i : Oid) (sz : Nat) (xs : List AV) (hi : m i = some (.arr sz xs)) (h : T P x n a ⟨frz i sz xs fr, m.set i none, c, ds⟩ Q) : T P x n a ⟨fr, m, c, ds⟩ Q := by
  refine T_freeze (s := ⟨fr, m, c, ds⟩) i (frz i sz xs fr) hi (fun t _ => ?_) h
  rw [F_frz]
  generalize F fr t = v
  unfold frzV
  split
  · split
    · rename_i h; obtain ⟨rfl, rfl, rfl⟩ := h; exact .inr (.inr ⟨rfl, rfl⟩)
    · exact .inr (.inl rfl)
  · exact .inr (.inl rfl)
theorem K_drop {a : Code} (m' : Mem) (hm : ∀ i o, m' i = some o → m i = some o) (h : T P x n a ⟨fr, m', c, ds⟩ Q) : T P x n a ⟨fr, m, c, ds⟩ Q := T_drop (s := ⟨fr, m, c, ds⟩) m' hm h

/-- A region in the order of the text. -/
theorem K_ev {id : Nat} {ops : Array Oper} (md : Nat → Bool) (gl : List (Nat × Nat)) (hng : P.globals.size ≤ x.ng) (hok : (textB n P.globals.size ops && glOK ops gl) = true)
    (h : Fresh x.p c m → ∀ C S (K : List (Nat × AV) → Mem → List LE → Prop),
      (∀ {i o rest f xs fr m log} e, CallOK P f xs (Oid.under (.sub c i x.p)) e → (∀ q, q ∈ e.need → m q.1 = some q.2) → ev P md gl x.p c false C S K (i + 1) rest (put o.dst e.val fr) (m.upds e.upd) log → C i (o :: rest) f xs fr m log) →
      (∀ {i o rest f xs fr m log} need R Rp, CallND P f xs (Oid.under (.sub c i x.p)) need R Rp → (∀ q, q ∈ need → m q.1 = some q.2) → (∀ val upd, R val upd → ev P md gl x.p c false C S K (i + 1) rest (put o.dst val fr) (m.upds upd) log) →
        (∀ pv upd, Rp pv upd → Q (.panic pv) ⟨fr, m.upds upd, c + 1, ds⟩) → C i (o :: rest) f xs fr m log) →
      (∀ {i o rest fr m log} need R Rp, OpND P o.dst o.op (evA fr) (Oid.under (.sub c i x.p)) need R Rp → (∀ q, q ∈ need → m q.1 = some q.2) → (∀ val upd, R val upd → ev P md gl x.p c false C S K (i + 1) rest (put o.dst val fr) (m.upds upd) log) →
        (∀ pv upd, Rp pv upd → Q (.panic pv) ⟨fr, m.upds upd, c + 1, ds⟩) → S i (o :: rest) fr m log) →
      (∀ {fr m log}, after P x n Q ks .normal ⟨fr, m, c + 1, ds⟩ → K fr m log) →
      ev P md gl x.p c false C S K 0 (lights ops.toList) fr m []) : T P x n (.region id ops false) ⟨fr, m, c, ds⟩ (after P x n Q ks) := by
  simp only [Bool.and_eq_true] at hok
  obtain ⟨hok, hgl⟩ := hok
  refine T_region_nd md hng hok fun hf => ?_
  let K0 : List (Nat × AV) → Mem → Prop := fun fr m => after P x n Q ks .normal ⟨fr, m, c + 1, ds⟩
  let Kp : AV → List (Nat × AV) → Mem → Prop := fun pv fr m => after P x n Q ks (.panic pv) ⟨fr, m, c + 1, ds⟩
  refine ev_evalN (md := md) (lg := false) (K := K0) (Kp := Kp) hgl _ _ _ _ [] (by simp) ?_
  refine h hf _ _ _ ?_ ?_ ?_ ?_
  · intro i o rest f xs fr m log e h1 h2 h3 o' rest' hd hl
    simp only [lights, List.cons.injEq] at hl
    obtain ⟨rfl, rfl⟩ := hl
    exact ⟨_, _, _, h1.nd, h2, fun val upd ⟨hv, hu⟩ => by subst hv; subst hu; exact ev_evalN hgl _ _ _ _ log (drop_next hd) h3, fun _ _ h => h.elim⟩
  · intro i o rest f xs fr m log need R Rp h1 h2 h3 h4 o' rest' hd hl
    simp only [lights, List.cons.injEq] at hl
    obtain ⟨rfl, rfl⟩ := hl
    exact ⟨need, R, Rp, h1, h2, fun val upd hr => ev_evalN hgl _ _ _ _ log (drop_next hd) (h3 val upd hr), fun pv upd hr => after_panic (h4 pv upd hr)⟩
  · intro i o rest fr m log need R Rp h1 h2 h3 h4 o' rest' hd hl
    simp only [lights, List.cons.injEq] at hl
    obtain ⟨rfl, rfl⟩ := hl
    exact ⟨need, R, Rp, h1 o' rfl rfl, h2, fun val upd hr => ev_evalN hgl _ _ _ _ log (drop_next hd) (h3 val upd hr), fun pv upd hr => after_panic (h4 pv upd hr)⟩
  · intro fr m log h
    exact h

/-- A region that draws its order. U: the pairs that must not meet. -/
theorem K_evd {id : Nat} {ops : Array Oper} (md : Nat → Bool) (gl : List (Nat × Nat)) (U : List (Nat × Nat)) (hmx : P.follows .mixedOrders = true) (hng : P.globals.size ≤ x.ng) (hok : (drawB n P.globals.size ops U && glOK ops gl) = true) (ts : List Nat)
    (h : Fresh x.p c m → ∀ C S (K : List (Nat × AV) → Mem → List LE → Prop),
      (∀ {i o rest f xs fr m log} e, CallOK P f xs (Oid.under (.sub c i x.p)) e → (∀ q, q ∈ e.need → m q.1 = some q.2) → ev P md gl x.p c true C S (fun fr m log => K (keepF ts fr) m log) (i + 1) rest (put o.dst e.val fr) (m.upds e.upd) (leOf e :: log) → C i (o :: rest) f xs fr m log) →
      (∀ {i o rest fr m log} e, OpOK P o.dst o.op (evA fr) (Oid.under (.sub c i x.p)) e → idleOp o.op = false → readOp o.op = false → (∀ q, q ∈ e.need → m q.1 = some q.2) → ev P md gl x.p c true C S (fun fr m log => K (keepF ts fr) m log) (i + 1) rest (put o.dst e.val fr) (m.upds e.upd) (leOf e :: log) → S i (o :: rest) fr m log) →
      (∀ {fr m log}, dynN log.reverse U → after P x n Q ks .normal ⟨fr, m, c + 1, ds⟩ → K fr m log) →
      ev P md gl x.p c true C S (fun fr m log => K (keepF ts fr) m log) 0 (lights ops.toList) fr m []) : T P x n (.region id ops true) ⟨fr, m, c, ds⟩ (after P x n Q ks) := by
  simp only [Bool.and_eq_true] at hok
  obtain ⟨hok, hgl⟩ := hok
  simp only [drawB, Bool.and_eq_true] at hok
  obtain ⟨⟨k1, k2⟩, k3⟩ := hok
  have key := T_region_draw (P := P) (x := x) (n := n) (s := ⟨fr, m, c, ds⟩) (Q := fun e s => e = .normal ∧ after P x n Q ks .normal ⟨keepF ts s.fr, s.mem, s.c, s.ds⟩) (id := id) hmx hng k1 k2 fun hf => by
    have h1 := ev_evalOps (P := P) (md := md) (ops := ops) (p := x.p) (c := c) (K := fun fr m log => dynN log.reverse U ∧ after P x n Q ks .normal ⟨keepF ts fr, m, c + 1, ds⟩) hgl ops.toList 0 fr m [] ⟨fun j => by simp, rfl, fun k o e _ he => by simp at he⟩
      (h hf (atCallD P ops x.p c _) (atOpD P ops x.p c _) (fun fr m log => dynN log.reverse U ∧ after P x n Q ks .normal ⟨fr, m, c + 1, ds⟩)
        (fun {i o rest f xs fr m log} e h1 h2 h3 => fun o' rest' log' hL hlg hl hi => by
          simp only [lights, List.cons.injEq] at hl
          obtain ⟨rfl, rfl⟩ := hl
          subst hlg
          exact ⟨e, h1, h2, ev_evalOps hgl _ _ _ _ (e :: log') (hL.step (show Tame o' e from ⟨fun h => absurd h (by simp [hi.1]), fun h => absurd h (by simp [hi.2])⟩)) h3⟩)
        (fun {i o rest fr m log} e h1 i1 i2 h2 h3 => fun o' rest' log' hL hlg hl => by
          simp only [lights, List.cons.injEq] at hl
          obtain ⟨rfl, rfl⟩ := hl
          subst hlg
          simp only [light] at i1 i2
          exact ⟨e, h1 o' rfl rfl, h2, ev_evalOps hgl _ _ _ _ (e :: log') (hL.step (show Tame o' e from ⟨fun h => absurd h (by simp [i1]), fun h => absurd h (by simp [i2])⟩)) h3⟩)
        (fun {fr m log} h1 h2 => ⟨h1, h2⟩))
    refine evalOps_mono' (N := ops.size) ?_ _ _ _ _ _ (by simp) h1
    rintro fr1 m1 log hlen ⟨⟨hd, hq⟩, ht⟩
    refine ⟨compat_of k3 (by simpa using hlen) ht (dynN_dynU (by rw [List.map_reverse]; exact hd)), fun fr' hF => ⟨rfl, ?_⟩⟩
    have : keepF ts fr' = keepF ts fr1 := by simp only [keepF_map, hF]
    rw [this]; exact hq
  intro g a w hr
  refine wpIn_mono (key g a w hr) fun e a' w' ⟨g', ex, s', h1, h2, h4, h5⟩ => ?_
  subst h4
  exact ⟨g', .normal, ⟨keepF ts s'.fr, s'.mem, s'.c, s'.ds⟩, h1.forget _ (fun t _ => F_keepF ts s'.fr t), h2, h5⟩
end

/-- A function's contract with more than one outcome. -/
theorem fnND {P : Program} {f : FuncId} {fn : Func} {n : Nat} {rs : List ResultVar} {c : Code} {xs : List AV} {p : Oid} {need : List (Oid × AObj)} {R Rp : AV → List (Oid × Option AObj) → Prop} (hf : P.funcs[f]? = some fn) (hn : fn.ntmps = n) (hr : fn.results.toList = rs)
    (hnm : (fn.name != "runtime.NumGoroutine") = true) (hl : (Nat.ble xs.length n) = true) (hok : resOKs n rs = true) (hb : fn.body = some c)
    (hT : ∀ x : Ctx, x.p = p → x.rd = none → P.globals.size ≤ x.ng → T P x n c ⟨slots 0 xs, Mem.of need, 0, []⟩ (after P x n (DoneN P rs need R Rp) [])) : CallND P f xs (Oid.under p) need R Rp :=
  callND_of hf hn hr hnm hl hok hb fun x h1 h2 h3 => T_mono (hT x h1 h2 h3) fun _ _ h => h
theorem fnOK {P : Program} {f : FuncId} {fn : Func} {n : Nat} {rs : List ResultVar} {c : Code} {xs : List AV} {p : Oid} {e : Eff} (hf : P.funcs[f]? = some fn) (hn : fn.ntmps = n) (hr : fn.results.toList = rs)
    (hnm : (fn.name != "runtime.NumGoroutine") = true) (hl : (Nat.ble xs.length n) = true) (hok : resOKs n rs = true) (hb : fn.body = some c)
    (hT : ∀ x : Ctx, x.p = p → x.rd = none → P.globals.size ≤ x.ng → T P x n c ⟨slots 0 xs, Mem.of e.need, 0, []⟩ (after P x n (DoneN P rs e.need (fun v u => v = e.val ∧ u = e.upd) fun _ _ => False) [])) : CallOK P f xs (Oid.under p) e :=
  (fnND hf hn hr hnm hl hok hb hT).ok

/-- The end of a body, nothing deferred. -/
theorem done_ret {P : Program} {rs : List ResultVar} {need : List (Oid × AObj)} {R Rp : AV → List (Oid × Option AObj) → Prop} {fr : List (Nat × AV)} {m : Mem} {c : Nat} (val : AV) (upd : List (Oid × Option AObj)) (h1 : retM P m fr rs = some val) (h2 : R val upd)
    (h3 : ∀ i o, ((Mem.of need).upds upd) i = some o → m i = some o) : DoneN P rs need R Rp .ret ⟨fr, m, c, []⟩ := ⟨val, upd, h1, h2, h3⟩
theorem done_normal {P : Program} {rs : List ResultVar} {need : List (Oid × AObj)} {R Rp : AV → List (Oid × Option AObj) → Prop} {fr : List (Nat × AV)} {m : Mem} {c : Nat} (val : AV) (upd : List (Oid × Option AObj)) (h1 : retM P m fr rs = some val) (h2 : R val upd)
    (h3 : ∀ i o, ((Mem.of need).upds upd) i = some o → m i = some o) : DoneN P rs need R Rp .normal ⟨fr, m, c, []⟩ := ⟨val, upd, h1, h2, h3⟩
theorem done_plain {P : Program} {rs : List ResultVar} {val : AV} {fr : List (Nat × AV)} {m : Mem} {c : Nat} (h1 : retM P m fr rs = some val) : DoneN P rs [] (fun v u => v = val ∧ u = []) (fun _ _ => False) .ret ⟨fr, m, c, []⟩ :=
  done_ret val [] h1 ⟨rfl, rfl⟩ fun i o h => by cases h
theorem done1 {P : Program} {t : Nat} {val : AV} {fr : List (Nat × AV)} {m : Mem} {c : Nat} (h1 : F fr t = val) : DoneN P [.tmp t] [] (fun v u => v = val ∧ u = []) (fun _ _ => False) .ret ⟨fr, m, c, []⟩ :=
  done_plain (by simp only [retM, resM, h1, tupA])
/-- The end of a body that hands back a row of its own. -/
theorem K_retl {P : Program} {x : Ctx} {n : Nat} {ks : List Pc} {t sz k c : Nat} {id : Oid} {xs ys : List AV} {fr : List (Nat × AV)} {m : Mem} (hv : F fr t = .sl id sz k) (hi : m id = some (.arr sz xs)) (hk : k = xs.length) (hx : xs = ys) :
    T P x n .ret ⟨fr, m, c, []⟩ (after P x n (DoneN P [.tmp t] [] (fun v u => v = .list sz ys ∧ u = []) (fun _ _ => False)) ks) := by
  subst hx
  refine K_freeze id sz xs hi (K_ret (done1 ?_))
  rw [F_frz, hv, frzV, if_pos ⟨rfl, rfl, hk⟩]
end Go.Ab
