/- One evaluation of a region's text for all outcomes; code as a stack of pieces. -/
import Derived.Test.YtpdmiojenhodlaaFw22
set_option linter.unusedVariables false
set_option linter.unusedSimpArgs false
namespace Go.Ab
universe u

/-- Both ways of a guard. -/
def both (b : Bool) (A B : Prop) : Prop := (b = true → A) ∧ (b = false → B)
theorem both_true (A B : Prop) : both true A B = A := by simp [both]
theorem both_false (A B : Prop) : both false A B = B := by simp [both]

/-! ### an operation without its edges -/
structure LOp where
  dst : Option Nat
  op : Op
  guard : Option (Nat × Bool)
def light (o : Oper) : LOp := ⟨o.dst, o.op, o.guard⟩
def lights : List Oper → List LOp
  | [] => []
  | o :: l => light o :: lights l
def prs (ρ : Operand → AV) : List (Nat × Operand) → List (Nat × AV)
  | [] => []
  | q :: l => (q.1, ρ q.2) :: prs ρ l
theorem prs_map (ρ : Operand → AV) (l : List (Nat × Operand)) : l.map (fun q => (q.1, ρ q.2)) = prs ρ l := by
  induction l with
  | nil => rfl
  | cons q l ih => simp only [List.map_cons, prs, ih]
def opL (P : Program) (m : Mem) (nid : Oid) (md : Nat → Bool) (ρ : Operand → AV) (dst : Option Nat) (op : Op) : OpR :=
  match op with
  | .move x => pureR (ρ x)
  | .assign x => pureR (ρ x)
  | .pick c a b => match ρ c with
    | .bool v => pureR (if v then ρ a else ρ b)
    | _ => .no
  | .alloc t => match zer P t with
    | some z => .eff ⟨[], .ptr nid 0, [(nid, some (.cells z))]⟩
    | none => .no
  | .box _ x => if (ρ x).known = true then .eff ⟨[], .ptr nid 0, [(nid, some (.cells (ρ x).cells))]⟩ else .no
  | .build t ps => optR (buildA P t (prs ρ ps.toList))
  | .buildSlice t n ps => match litOK P (tyk P t) n (prs ρ ps.toList) with
    | some (sz, vs) => if (match dst with | some d => md d | none => false) = true then .eff ⟨[], .sl nid sz n, [(nid, some (.arr sz vs))]⟩ else pureR (.list sz vs)
    | none => .no
  | .load t a => loadA (shp P t) m (ρ a)
  | .store t a v => storeA (shp P t) m (ρ a) (ρ v)
  | .nilCheck x => if nonNil (ρ x) = true then pureR (ρ x) else .no
  | .binOp op t x y _ => optR (binX P op t (ρ x) (ρ y))
  | .unOp op _ x => optR (unA op (ρ x))
  | .convert s d x => optR (convA P s d (ρ x))
  | .fieldAddr t x k => optR (fieldAddrA (fldOf P t k) (ρ x))
  | .field t x k => optR (fieldA (fldOf P t k) (ρ x))
  | .indexAddr t x i => optR (indexAddrA (tyk P t) (ρ x) (ρ i))
  | .index t x i => optR (indexA (tyk P t) (ρ x) (ρ i))
  | .extract x i => optR (extractA (ρ x) i)
  | .makeFunc f xs ys => pureR (.fn f (xs.toList.map ρ) (ys.toList.map ρ))
  | .makeInterface t x => optR (ifaceA (tyk P t) t (ρ x))
  | .slice t x lo hi none => optR (pieceA (tyk P t) (ρ x) (lo.map ρ) (hi.map ρ))
  | .makeMap t none => match keyShape P t with
    | some (ks, ag) => .eff ⟨[], .map nid, [(nid, some (.map ks ag [] 0))]⟩
    | none => .no
  | .lookup t x k ok => lookupA P m t (ρ x) (ρ k) ok
  | .mapUpdate t x k v => mapUpdateA P m t (ρ x) (ρ k) (ρ v)
  | .mapEntry t x k => mapEntryA P m t (ρ x) (ρ k)
  | .entryStore _ x k v => entryStoreA m (ρ x) (ρ k) (ρ v)
  | .range t x => rangeA (tyk P t) m nid (ρ x)
  | .entry x => entryA m (ρ x)
  | .call c => callF P m nid ρ c
  | _ => .no
theorem opF_eq (P : Program) (m : Mem) (nid : Oid) (md : Nat → Bool) (ρ : Operand → AV) (o : Oper) : opF P m nid md ρ o = opL P m nid md ρ o.dst o.op := by
  unfold opF opL; simp only [prs_map]; rfl
def lookN : List (Nat × Nat) → Nat → Option Nat
  | [], _ => none
  | q :: l, j => if j = q.1 then some q.2 else lookN l j
def wantL (gl : List (Nat × Nat)) (g : Option (Nat × Bool)) (f : Nat → AV) : Option Bool :=
  match g with
  | none => some true
  | some (j, want) => match lookN gl j with
    | none => none
    | some d => match f d with
      | .bool b => some (b == want)
      | .tuple [] => some false
      | _ => none
def glOK (ops : Array Oper) (gl : List (Nat × Nat)) : Bool := gl.all fun q => match ops[q.1]? with
  | some o => o.dst == some q.2
  | none => false
theorem lookN_ok {ops : Array Oper} : ∀ {gl : List (Nat × Nat)}, glOK ops gl = true → ∀ {j d : Nat}, lookN gl j = some d → (ops[j]?).bind (·.dst) = some d
  | [], _, _, _, h => by cases h
  | q :: l, hg, j, d, h => by
    simp only [glOK, List.all_cons, Bool.and_eq_true] at hg
    simp only [lookN] at h
    split at h
    · rename_i e
      simp only [Option.some.injEq] at h; subst h; subst e
      have := hg.1
      split at this
      · rename_i o ho; rw [ho]; simpa using this
      · cases this
    · exact lookN_ok (by simpa [glOK] using hg.2) h
theorem wantL_ok {ops : Array Oper} {gl : List (Nat × Nat)} (hg : glOK ops gl = true) {o : Oper} {f : Nat → AV} {b : Bool} (h : wantL gl o.guard f = some b) : wantA ops o f = some b := by
  unfold wantL at h
  unfold wantA
  split at h
  · rename_i e; rw [e]; exact h
  · rename_i j want e
    rw [e]; simp only
    cases hl : lookN gl j with
    | none => rw [hl] at h; cases h
    | some d =>
      rw [hl] at h
      rw [lookN_ok hg hl]
      exact h

/-- The names that an operation met. -/
structure LE where
  need : List Oid
  upd : List Oid
def LE.none : LE := ⟨[], []⟩
def fsts {α β : Type} : List (α × β) → List α
  | [] => []
  | q :: l => q.1 :: fsts l
theorem mem_fsts {α β : Type} {l : List (α × β)} {q : α × β} (h : q ∈ l) : q.1 ∈ fsts l := by
  induction l with
  | nil => cases h
  | cons a l ih =>
    rcases List.mem_cons.1 h with rfl | h
    · exact List.mem_cons_self
    · exact List.mem_cons_of_mem _ (ih h)
def leOf (e : Eff) : LE := ⟨fsts e.need, fsts e.upd⟩
def logE (lg : Bool) (e : LE) (log : List LE) : List LE := if lg then e :: log else log

/-- The text's order: C: where a call stands, S: where an operation stands that has more than one outcome, K: behind the last one. -/
def ev (P : Program) (md : Nat → Bool) (gl : List (Nat × Nat)) (p : Oid) (c : Nat) (lg : Bool) (C : Nat → List LOp → FuncId → List AV → List (Nat × AV) → Mem → List LE → Prop) (S : Nat → List LOp → List (Nat × AV) → Mem → List LE → Prop)
    (K : List (Nat × AV) → Mem → List LE → Prop) : Nat → List LOp → List (Nat × AV) → Mem → List LE → Prop
  | _, [], fr, m, log => K fr m log
  | i, o :: rest, fr, m, log =>
    match wantL gl o.guard (F fr) with
    | some b => both b
        (match opL P m (.sub c i p) md (evA fr) o.dst o.op with
          | .eff e => ev P md gl p c lg C S K (i + 1) rest (put o.dst e.val fr) (m.upds e.upd) (logE lg (leOf e) log)
          | .call f xs => C i (o :: rest) f xs fr m log
          | .no => S i (o :: rest) fr m log)
        (ev P md gl p c lg C S K (i + 1) rest (put o.dst (.tuple []) fr) m (logE lg LE.none log))
    | none => False

/-! the same, step by step: none of these is met by unfolding -/
section
variable (P : Program) (md : Nat → Bool) (gl : List (Nat × Nat)) (p : Oid) (c : Nat) (lg : Bool) (C : Nat → List LOp → FuncId → List AV → List (Nat × AV) → Mem → List LE → Prop) (S : Nat → List LOp → List (Nat × AV) → Mem → List LE → Prop)
    (K : List (Nat × AV) → Mem → List LE → Prop) (i : Nat) (o : LOp) (rest : List LOp) (fr : List (Nat × AV)) (m : Mem) (log : List LE)
def evR (r : OpR) : Prop := match r with
  | .eff e => ev P md gl p c lg C S K (i + 1) rest (put o.dst e.val fr) (m.upds e.upd) (logE lg (leOf e) log)
  | .call f xs => C i (o :: rest) f xs fr m log
  | .no => S i (o :: rest) fr m log
def evG (b : Option Bool) : Prop := match b with
  | some b => both b (evR P md gl p c lg C S K i o rest fr m log (opL P m (.sub c i p) md (evA fr) o.dst o.op)) (ev P md gl p c lg C S K (i + 1) rest (put o.dst (.tuple []) fr) m (logE lg LE.none log))
  | none => False
theorem nr {α : Sort u} {a b : α} (h : a = b) : a = b := h
theorem ev_nil : ev P md gl p c lg C S K i [] fr m log = K fr m log := nr (by rw [ev])
theorem ev_one (dst : Option Nat) (op : Op) : ev P md gl p c lg C S K i (⟨dst, op, none⟩ :: rest) fr m log = evR P md gl p c lg C S K i ⟨dst, op, none⟩ rest fr m log (opL P m (.sub c i p) md (evA fr) dst op) := nr (by
  rw [ev]; simp only [wantL, both_true]; rfl)
theorem ev_guard (dst : Option Nat) (op : Op) (j : Nat) (w : Bool) : ev P md gl p c lg C S K i (⟨dst, op, some (j, w)⟩ :: rest) fr m log = evG P md gl p c lg C S K i ⟨dst, op, some (j, w)⟩ rest fr m log (wantL gl (some (j, w)) (F fr)) := nr (by
  rw [ev]; rfl)
theorem evR_eff (e : Eff) : evR P md gl p c lg C S K i o rest fr m log (.eff e) = ev P md gl p c lg C S K (i + 1) rest (put o.dst e.val fr) (m.upds e.upd) (logE lg (leOf e) log) := nr (by rw [evR])
theorem evR_call (f : FuncId) (xs : List AV) : evR P md gl p c lg C S K i o rest fr m log (.call f xs) = C i (o :: rest) f xs fr m log := nr (by rw [evR])
theorem evR_no : evR P md gl p c lg C S K i o rest fr m log .no = S i (o :: rest) fr m log := nr (by rw [evR])
theorem evG_true : evG P md gl p c lg C S K i o rest fr m log (some true) = evR P md gl p c lg C S K i o rest fr m log (opL P m (.sub c i p) md (evA fr) o.dst o.op) := nr (by rw [evG]; simp only [both_true])
theorem evG_false : evG P md gl p c lg C S K i o rest fr m log (some false) = ev P md gl p c lg C S K (i + 1) rest (put o.dst (.tuple []) fr) m (logE lg LE.none log) := nr (by rw [evG]; simp only [both_false])
variable {P md gl p c lg C S K i o rest fr m log}
theorem evG_split {b : Bool} (h1 : b = true → evR P md gl p c lg C S K i o rest fr m log (opL P m (.sub c i p) md (evA fr) o.dst o.op)) (h2 : b = false → ev P md gl p c lg C S K (i + 1) rest (put o.dst (.tuple []) fr) m (logE lg LE.none log)) :
    evG P md gl p c lg C S K i o rest fr m log (some b) := ⟨h1, h2⟩
end

section
variable {P : Program} {md : Nat → Bool} {ops : Array Oper} {p : Oid} {c : Nat} {gl : List (Nat × Nat)}

theorem drop_next {i : Nat} {o : Oper} {rest : List Oper} (h : ops.toList.drop i = o :: rest) : ops.toList.drop (i + 1) = rest := by
  have : (ops.toList.drop i).drop 1 = rest := by rw [h]; rfl
  rwa [List.drop_drop] at this

/-- Where a call stands, as evalN has it. -/
def atCallN (P : Program) (md : Nat → Bool) (ops : Array Oper) (p : Oid) (c : Nat) (K : List (Nat × AV) → Mem → Prop) (Kp : AV → List (Nat × AV) → Mem → Prop) : Nat → List LOp → FuncId → List AV → List (Nat × AV) → Mem → List LE → Prop :=
  fun i L f xs fr m _ => ∀ o rest, ops.toList.drop i = o :: rest → lights (o :: rest) = L → ∃ need R Rp, CallND P f xs (Oid.under (.sub c i p)) need R Rp ∧ (∀ q, q ∈ need → m q.1 = some q.2) ∧ (∀ val upd, R val upd → evalN P md ops p c (i + 1) rest (put o.dst val fr) (m.upds upd) K Kp) ∧ ∀ pv upd, Rp pv upd → Kp pv fr (m.upds upd)
/-- What an operation that has more than one outcome is asked for. -/
def OpND (P : Program) (dst : Option Nat) (op : Op) (ρ : Operand → AV) (sp : Oid → Prop) (need : List (Oid × AObj)) (R Rp : AV → List (Oid × Option AObj) → Prop) : Prop :=
  ∀ o : Oper, o.dst = dst → o.op = op → EffND P o ρ sp need R Rp
def OpOK (P : Program) (dst : Option Nat) (op : Op) (ρ : Operand → AV) (sp : Oid → Prop) (e : Eff) : Prop := ∀ o : Oper, o.dst = dst → o.op = op → EffOK P o ρ sp e
def atOpN (P : Program) (md : Nat → Bool) (ops : Array Oper) (p : Oid) (c : Nat) (K : List (Nat × AV) → Mem → Prop) (Kp : AV → List (Nat × AV) → Mem → Prop) : Nat → List LOp → List (Nat × AV) → Mem → List LE → Prop :=
  fun i L fr m _ => ∀ o rest, ops.toList.drop i = o :: rest → lights (o :: rest) = L → ∃ need R Rp, EffND P o (evA fr) (Oid.under (.sub c i p)) need R Rp ∧ (∀ q, q ∈ need → m q.1 = some q.2) ∧ (∀ val upd, R val upd → evalN P md ops p c (i + 1) rest (put o.dst val fr) (m.upds upd) K Kp) ∧ ∀ pv upd, Rp pv upd → Kp pv fr (m.upds upd)

theorem ev_evalN {K : List (Nat × AV) → Mem → Prop} {Kp : AV → List (Nat × AV) → Mem → Prop} {lg : Bool} (hg : glOK ops gl = true) : ∀ (rest : List Oper) (i : Nat) (fr : List (Nat × AV)) (m : Mem) (log : List LE), ops.toList.drop i = rest →
    ev P md gl p c lg (atCallN P md ops p c K Kp) (atOpN P md ops p c K Kp) (fun fr m _ => K fr m) i (lights rest) fr m log → evalN P md ops p c i rest fr m K Kp
  | [], _, _, _, _, _, h => h
  | o :: rest, i, fr, m, log, hd, h => by
    simp only [lights, ev] at h
    simp only [evalN]
    cases hw : wantL gl (light o).guard (F fr) with
    | none => simp only [hw] at h
    | some b =>
      simp only [hw] at h
      rw [wantL_ok (o := o) hg hw]
      cases b with
      | true =>
        have h := h.1 rfl
        rw [opF_eq]
        simp only [light] at h
        simp only
        cases ho : opL P m (.sub c i p) md (evA fr) o.dst o.op with
        | eff e => simp only [ho] at h; exact ev_evalN hg rest _ _ _ _ (drop_next hd) h
        | call f xs => simp only [ho] at h; exact .inr (h o rest hd rfl)
        | no => simp only [ho] at h; exact h o rest hd rfl
      | false => exact ev_evalN hg rest _ _ _ _ (drop_next hd) (h.2 rfl)

/-- The log fits the text so far. -/
def LogOK (ops : Array Oper) (i : Nat) (rest : List Oper) (log : List Eff) : Prop := (∀ j, rest[j]? = ops[i + j]?) ∧ log.length = i ∧ ∀ (k : Nat) o e, ops[k]? = some o → log.reverse[k]? = some e → Tame o e
def KT (ops : Array Oper) (K : List (Nat × AV) → Mem → List Eff → Prop) (fr : List (Nat × AV)) (m : Mem) (log : List Eff) : Prop := K fr m log ∧ ∀ (k : Nat) o e, ops[k]? = some o → log.reverse[k]? = some e → Tame o e
theorem LogOK.step {i : Nat} {o : Oper} {rest : List Oper} {log : List Eff} (h : LogOK ops i (o :: rest) log) {e : Eff} (he : Tame o e) : LogOK ops (i + 1) rest (e :: log) := by
  obtain ⟨hl, hn, ht⟩ := h
  have h0 : ops[i]? = some o := by simpa using (hl 0).symm
  refine ⟨fun j => by have := hl (j + 1); simpa [Nat.add_assoc, Nat.add_comm 1 j] using this, by simp [hn], ?_⟩
  intro k o' e' ho' he'
  rw [List.reverse_cons] at he'
  by_cases hk : k < log.reverse.length
  · rw [List.getElem?_append_left hk] at he'; exact ht k o' e' ho' he'
  · rw [List.getElem?_append_right (by omega)] at he'
    have hk0 : k - log.reverse.length = 0 := by
      cases hz : k - log.reverse.length with
      | zero => rfl
      | succ z => rw [hz] at he'; simp at he'
    have hki : k = i := by rw [List.length_reverse, hn] at hk0 hk; omega
    subst hki
    rw [hk0] at he'
    simp only [List.getElem?_cons_zero, Option.some.injEq] at he'
    rw [h0] at ho'; simp only [Option.some.injEq] at ho'
    subst ho'; subst he'; exact he
theorem LogOK.drop {i : Nat} {rest : List Oper} {log : List Eff} (h : LogOK ops i rest log) : ops.toList.drop i = rest := by
  apply List.ext_getElem?
  intro j
  rw [List.getElem?_drop, h.1 j]; simp

def atCallD (P : Program) (ops : Array Oper) (p : Oid) (c : Nat) (K : List (Nat × AV) → Mem → List LE → Prop) : Nat → List LOp → FuncId → List AV → List (Nat × AV) → Mem → List LE → Prop :=
  fun i L f xs fr m lg => ∀ o rest log, LogOK ops i (o :: rest) log → log.map leOf = lg → lights (o :: rest) = L → (idleOp o.op = false ∧ readOp o.op = false) → ∃ e, CallOK P f xs (Oid.under (.sub c i p)) e ∧ (∀ q, q ∈ e.need → m q.1 = some q.2) ∧
      evalOps P ops p c (i + 1) rest (put o.dst e.val fr) (m.upds e.upd) (e :: log) (KT ops fun fr m log => K fr m (log.map leOf))
def atOpD (P : Program) (ops : Array Oper) (p : Oid) (c : Nat) (K : List (Nat × AV) → Mem → List LE → Prop) : Nat → List LOp → List (Nat × AV) → Mem → List LE → Prop :=
  fun i L fr m lg => ∀ o rest log, LogOK ops i (o :: rest) log → log.map leOf = lg → lights (o :: rest) = L → ∃ e, EffOK P o (evA fr) (Oid.under (.sub c i p)) e ∧ (∀ q, q ∈ e.need → m q.1 = some q.2) ∧
      evalOps P ops p c (i + 1) rest (put o.dst e.val fr) (m.upds e.upd) (e :: log) (KT ops fun fr m log => K fr m (log.map leOf))

theorem ev_evalOps {K : List (Nat × AV) → Mem → List LE → Prop} (hg : glOK ops gl = true) : ∀ (rest : List Oper) (i : Nat) (fr : List (Nat × AV)) (m : Mem) (log : List Eff), LogOK ops i rest log →
    ev P md gl p c true (atCallD P ops p c K) (atOpD P ops p c K) K i (lights rest) fr m (log.map leOf) → evalOps P ops p c i rest fr m log (KT ops fun fr m log => K fr m (log.map leOf))
  | [], _, _, _, _, hL, h => ⟨h, hL.2.2⟩
  | o :: rest, i, fr, m, log, hL, h => by
    simp only [lights, ev] at h
    simp only [evalOps]
    cases hw : wantL gl (light o).guard (F fr) with
    | none => simp only [hw] at h
    | some b =>
      simp only [hw] at h
      rw [wantL_ok (o := o) hg hw]
      cases b with
      | true =>
        have h := h.1 rfl
        simp only [light] at h
        simp only
        cases ho : opL P m (.sub c i p) md (evA fr) o.dst o.op with
        | eff e =>
          simp only [ho] at h
          rw [← opF_eq] at ho
          obtain ⟨h1, h2⟩ := opF_ok (sp := Oid.under (.sub c i p)) (Oid.under_refl _) ho
          exact ⟨e, h1, h2, ev_evalOps hg rest _ _ _ (e :: log) (hL.step ⟨fun hi => opF_idle hi ho, fun hi => opF_read hi ho⟩) h⟩
        | call f xs =>
          simp only [ho] at h
          rw [← opF_eq] at ho
          have i1 : idleOp o.op = false := by
            cases hi : idleOp o.op with
            | false => rfl
            | true => exact (opF_idle_call hi ho).elim
          have i2 : readOp o.op = false := by
            cases hi : readOp o.op with
            | false => rfl
            | true => exact (opF_read_call hi ho).elim
          obtain ⟨e, h1, h2, h3⟩ := h o rest log hL rfl rfl ⟨i1, i2⟩
          exact ⟨e, opF_call ho h1, h2, h3⟩
        | no =>
          simp only [ho] at h
          exact h o rest log hL rfl rfl
      | false => exact ev_evalOps hg rest _ _ _ (Eff.none :: log) (hL.step ⟨fun _ => ⟨rfl, rfl⟩, fun _ => rfl⟩) (h.2 rfl)

/-- What must not meet, by names. -/
def disjN (a b : LE) : Prop := (∀ i, i ∈ a.upd → ∀ j, j ∈ b.need → i ≠ j) ∧ (∀ i, i ∈ a.upd → ∀ j, j ∈ b.upd → i ≠ j) ∧ (∀ i, i ∈ a.need → ∀ j, j ∈ b.upd → i ≠ j)
def dynN (E : List LE) : List (Nat × Nat) → Prop
  | [] => True
  | (i, j) :: r => disjN (E.getD i LE.none) (E.getD j LE.none) ∧ dynN E r
theorem disjN_quiet {a b : LE} (ha : a.upd = []) (hb : b.upd = []) : disjN a b := by
  unfold disjN; rw [ha, hb]
  refine ⟨?_, ?_, ?_⟩ <;> intro i h j k <;> first | (cases h; done) | (cases k; done)
theorem dynN_quiet {E : List LE} (h : (E.all fun e => e.upd.isEmpty) = true) : ∀ {U : List (Nat × Nat)}, dynN E U
  | [] => trivial
  | (i, j) :: r => by
    have hget : ∀ k, (E.getD k LE.none).upd = [] := fun k => by
      rw [List.getD_eq_getElem?_getD]
      cases hk : E[k]? with
      | none => rfl
      | some e =>
        rw [List.all_eq_true] at h
        exact List.isEmpty_iff.1 (h e (List.mem_of_getElem? hk))
    exact ⟨disjN_quiet (hget i) (hget j), dynN_quiet h⟩
theorem dynN_dynU {E : List Eff} : ∀ {U : List (Nat × Nat)}, dynN (E.map leOf) U → dynU E U
  | [], _ => trivial
  | (i, j) :: r, h => by
    have hget : ∀ k, (E.map leOf).getD k LE.none = leOf (E.getD k Eff.none) := fun k => by
      simp only [List.getD_eq_getElem?_getD, List.getElem?_map]
      cases E[k]? <;> rfl
    simp only [dynN, hget] at h
    obtain ⟨⟨h1, h2, h3⟩, h4⟩ := h
    exact ⟨⟨fun q hq q' hq' => h1 _ (mem_fsts hq) _ (mem_fsts hq'), fun q hq q' hq' => h2 _ (mem_fsts hq) _ (mem_fsts hq'), fun q hq q' hq' => h3 _ (mem_fsts hq) _ (mem_fsts hq')⟩, dynN_dynU h4⟩
end
end Go.Ab
