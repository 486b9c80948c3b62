/- The framework, fourth part: the rules of the walk, maps as lists, from a reading of arguments to abstract values and from a contract to a row. -/
import Derived.Test.YtiaiggbimlbkfaaGreatDoorFwC
import Derived.ProofKit
import Derived.SizedLaws
import Derived.ReadAgain
set_option linter.unusedVariables false
set_option linter.unusedSimpArgs false
set_option linter.unusedSectionVars false
/- One evaluation of a region's text for all outcomes; code as a stack of pieces. -/
namespace Go.Ab
universe u

/-- Both ways of a guard. -/
def both (b : Bool) (A B : Prop) : Prop := (b = true → A) ∧ (b = false → B)
theorem both_true (A B : Prop) : both true A B = A := by simp [both]
theorem both_false (A B : Prop) : both false A B = B := by simp [both]

/-! ### an operation without its edges -/
structure LOp where
  dst : Option Nat
  op : Op
  guard : Option (Nat × Bool)
def light (o : Oper) : LOp := ⟨o.dst, o.op, o.guard⟩
def lights : List Oper → List LOp
  | [] => []
  | o :: l => light o :: lights l
def prs (ρ : Operand → AV) : List (Nat × Operand) → List (Nat × AV)
  | [] => []
  | q :: l => (q.1, ρ q.2) :: prs ρ l
theorem prs_map (ρ : Operand → AV) (l : List (Nat × Operand)) : l.map (fun q => (q.1, ρ q.2)) = prs ρ l := by
  induction l with
  | nil => rfl
  | cons q l ih => simp only [List.map_cons, prs, ih]
def opL (P : Program) (m : Mem) (nid : Oid) (md : Nat → Bool) (ρ : Operand → AV) (dst : Option Nat) (op : Op) : OpR :=
  match op with
  | .move x => pureR (ρ x)
  | .assign x => pureR (ρ x)
  | .pick c a b => match ρ c with
    | .bool v => pureR (if v then ρ a else ρ b)
    | _ => .no
  | .alloc t => match zer P t with
    | some z => .eff ⟨[], .ptr (nameB P t nid) 0, [(nameB P t nid, some (.cells z))]⟩
    | none => .no
  | .box t x => if (ρ x).known = true then .eff ⟨[], .ptr (nameB P t nid) 0, [(nameB P t nid, some (.cells (ρ x).cells))]⟩ else .no
  | .build t ps => optR (buildA P t (prs ρ ps.toList))
  | .buildSlice t n ps => match litOK P (tyk P t) n (prs ρ ps.toList) with
    | some (sz, vs) => if (match dst with | some d => md d | none => false) = true then .eff ⟨[], .sl nid sz n, [(nid, some (.arr sz vs))]⟩ else pureR (.list sz vs)
    | none => .no
  | .load t a => loadA (shp P t) m (ρ a)
  | .store t a v => storeA (shp P t) m (ρ a) (ρ v)
  | .nilCheck x => if nonNil (ρ x) = true then pureR (ρ x) else .no
  | .binOp op t x y _ => optR (binX P op t (isC y) (ρ x) (ρ y))
  | .unOp op _ x => optR (unA op (ρ x))
  | .convert s d x => optR (convX P s d (ρ x))
  | .fieldAddr t x k => optR (fieldAddrA (fldOf P t k) (ρ x))
  | .field t x k => optR (fieldA (fldOf P t k) (ρ x))
  | .indexAddr t x i => optR (indexAddrA (tyk P t) (ρ x) (ρ i))
  | .index t x i => optR (indexA (tyk P t) (ρ x) (ρ i))
  | .extract x i => optR (extractA (ρ x) i)
  | .makeFunc f xs ys => pureR (.fn f (xs.toList.map ρ) (ys.toList.map ρ))
  | .makeInterface t x => optR (ifaceA (tyk P t) t (ρ x))
  | .slice t x lo hi none => optR (pieceA (tyk P t) (ρ x) (lo.map ρ) (hi.map ρ))
  | .makeMap t none => match keyShape P t with
    | some (ks, ag) => .eff ⟨[], .map nid, [(nid, some (.map ks ag [] 0))]⟩
    | none => .no
  | .lookup t x k ok => lookupA P m t (ρ x) (ρ k) ok
  | .mapUpdate t x k v => mapUpdateA P m t (ρ x) (ρ k) (ρ v)
  | .insert t x k v => mapUpdateA P m t (ρ x) (ρ k) (ρ v)
  | .mapEntry t x k => mapEntryA P m t (ρ x) (ρ k)
  | .entryStore _ x k v => entryStoreA m (ρ x) (ρ k) (ρ v)
  | .range t x => rangeA (tyk P t) m nid (ρ x)
  | .entry x => entryA m (ρ x)
  | .call c => callF P m nid ρ c
  | _ => .no
theorem opF_eq (P : Program) (m : Mem) (nid : Oid) (md : Nat → Bool) (ρ : Operand → AV) (o : Oper) : opF P m nid md ρ o = opL P m nid md ρ o.dst o.op := by
  unfold opF opL; simp only [prs_map]; rfl
def lookN : List (Nat × Nat) → Nat → Option Nat
  | [], _ => none
  | q :: l, j => if j = q.1 then some q.2 else lookN l j
def wantL (gl : List (Nat × Nat)) (g : Option (Nat × Bool)) (f : Nat → AV) : Option Bool :=
  match g with
  | none => some true
  | some (j, want) => match lookN gl j with
    | none => none
    | some d => match f d with
      | .bool b => some (b == want)
      | .tuple [] => some false
      | _ => none
def glOK (ops : Array Oper) (gl : List (Nat × Nat)) : Bool := gl.all fun q => match ops[q.1]? with
  | some o => o.dst == some q.2
  | none => false
theorem lookN_ok {ops : Array Oper} : ∀ {gl : List (Nat × Nat)}, glOK ops gl = true → ∀ {j d : Nat}, lookN gl j = some d → (ops[j]?).bind (·.dst) = some d
  | [], _, _, _, h => by cases h
  | q :: l, hg, j, d, h => by
    simp only [glOK, List.all_cons, Bool.and_eq_true] at hg
    simp only [lookN] at h
    split at h
    · rename_i e
      simp only [Option.some.injEq] at h; subst h; subst e
      have := hg.1
      split at this
      · rename_i o ho; rw [ho]; simpa using this
      · cases this
    · exact lookN_ok (by simpa [glOK] using hg.2) h
theorem wantL_ok {ops : Array Oper} {gl : List (Nat × Nat)} (hg : glOK ops gl = true) {o : Oper} {f : Nat → AV} {b : Bool} (h : wantL gl o.guard f = some b) : wantA ops o f = some b := by
  unfold wantL at h
  unfold wantA
  split at h
  · rename_i e; rw [e]; exact h
  · rename_i j want e
    rw [e]; simp only
    cases hl : lookN gl j with
    | none => rw [hl] at h; cases h
    | some d =>
      rw [hl] at h
      rw [lookN_ok hg hl]
      exact h

/-- The names that an operation met. -/
structure LE where
  need : List Oid
  upd : List Oid
def LE.none : LE := ⟨[], []⟩
def fsts {α β : Type} : List (α × β) → List α
  | [] => []
  | q :: l => q.1 :: fsts l
theorem mem_fsts {α β : Type} {l : List (α × β)} {q : α × β} (h : q ∈ l) : q.1 ∈ fsts l := by
  induction l with
  | nil => cases h
  | cons a l ih =>
    rcases List.mem_cons.1 h with rfl | h
    · exact List.mem_cons_self
    · exact List.mem_cons_of_mem _ (ih h)
def leOf (e : Eff) : LE := ⟨fsts e.need, fsts e.upd⟩
def logE (lg : Bool) (e : LE) (log : List LE) : List LE := if lg then e :: log else log

/-- The text's order: C: where a call stands, S: where an operation stands that has more than one outcome, K: behind the last one. -/
def ev (P : Program) (md : Nat → Bool) (gl : List (Nat × Nat)) (p : Oid) (c : Nat) (lg : Bool) (C : Nat → List LOp → FuncId → List AV → List (Nat × AV) → Mem → List LE → Prop) (S : Nat → List LOp → List (Nat × AV) → Mem → List LE → Prop)
    (K : List (Nat × AV) → Mem → List LE → Prop) : Nat → List LOp → List (Nat × AV) → Mem → List LE → Prop
  | _, [], fr, m, log => K fr m log
  | i, o :: rest, fr, m, log =>
    match wantL gl o.guard (F fr) with
    | some b => both b
        (match opL P m (.sub c i p) md (evA fr) o.dst o.op with
          | .eff e => ev P md gl p c lg C S K (i + 1) rest (put o.dst e.val fr) (m.upds e.upd) (logE lg (leOf e) log)
          | .call f xs => C i (o :: rest) f xs fr m log
          | .no => S i (o :: rest) fr m log)
        (ev P md gl p c lg C S K (i + 1) rest (put o.dst (.tuple []) fr) m (logE lg LE.none log))
    | none => False

/-! the same, step by step: none of these is met by unfolding -/
section
variable (P : Program) (md : Nat → Bool) (gl : List (Nat × Nat)) (p : Oid) (c : Nat) (lg : Bool) (C : Nat → List LOp → FuncId → List AV → List (Nat × AV) → Mem → List LE → Prop) (S : Nat → List LOp → List (Nat × AV) → Mem → List LE → Prop)
    (K : List (Nat × AV) → Mem → List LE → Prop) (i : Nat) (o : LOp) (rest : List LOp) (fr : List (Nat × AV)) (m : Mem) (log : List LE)
def evR (r : OpR) : Prop := match r with
  | .eff e => ev P md gl p c lg C S K (i + 1) rest (put o.dst e.val fr) (m.upds e.upd) (logE lg (leOf e) log)
  | .call f xs => C i (o :: rest) f xs fr m log
  | .no => S i (o :: rest) fr m log
def evG (b : Option Bool) : Prop := match b with
  | some b => both b (evR P md gl p c lg C S K i o rest fr m log (opL P m (.sub c i p) md (evA fr) o.dst o.op)) (ev P md gl p c lg C S K (i + 1) rest (put o.dst (.tuple []) fr) m (logE lg LE.none log))
  | none => False
theorem nr {α : Sort u} {a b : α} (h : a = b) : a = b := h
theorem ev_nil : ev P md gl p c lg C S K i [] fr m log = K fr m log := nr (by rw [ev])
theorem ev_one (dst : Option Nat) (op : Op) : ev P md gl p c lg C S K i (⟨dst, op, none⟩ :: rest) fr m log = evR P md gl p c lg C S K i ⟨dst, op, none⟩ rest fr m log (opL P m (.sub c i p) md (evA fr) dst op) := nr (by
  rw [ev]; simp only [wantL, both_true]; rfl)
theorem ev_guard (dst : Option Nat) (op : Op) (j : Nat) (w : Bool) : ev P md gl p c lg C S K i (⟨dst, op, some (j, w)⟩ :: rest) fr m log = evG P md gl p c lg C S K i ⟨dst, op, some (j, w)⟩ rest fr m log (wantL gl (some (j, w)) (F fr)) := nr (by
  rw [ev]; rfl)
theorem evR_eff (e : Eff) : evR P md gl p c lg C S K i o rest fr m log (.eff e) = ev P md gl p c lg C S K (i + 1) rest (put o.dst e.val fr) (m.upds e.upd) (logE lg (leOf e) log) := nr (by rw [evR])
theorem evR_call (f : FuncId) (xs : List AV) : evR P md gl p c lg C S K i o rest fr m log (.call f xs) = C i (o :: rest) f xs fr m log := nr (by rw [evR])
theorem evR_no : evR P md gl p c lg C S K i o rest fr m log .no = S i (o :: rest) fr m log := nr (by rw [evR])
theorem evG_true : evG P md gl p c lg C S K i o rest fr m log (some true) = evR P md gl p c lg C S K i o rest fr m log (opL P m (.sub c i p) md (evA fr) o.dst o.op) := nr (by rw [evG]; simp only [both_true])
theorem evG_false : evG P md gl p c lg C S K i o rest fr m log (some false) = ev P md gl p c lg C S K (i + 1) rest (put o.dst (.tuple []) fr) m (logE lg LE.none log) := nr (by rw [evG]; simp only [both_false])
variable {P md gl p c lg C S K i o rest fr m log}
theorem evG_split {b : Bool} (h1 : b = true → evR P md gl p c lg C S K i o rest fr m log (opL P m (.sub c i p) md (evA fr) o.dst o.op)) (h2 : b = false → ev P md gl p c lg C S K (i + 1) rest (put o.dst (.tuple []) fr) m (logE lg LE.none log)) :
    evG P md gl p c lg C S K i o rest fr m log (some b) := ⟨h1, h2⟩
end

section
variable {P : Program} [Laid P] {md : Nat → Bool} {ops : Array Oper} {p : Oid} {c : Nat} {gl : List (Nat × Nat)}

theorem drop_next {i : Nat} {o : Oper} {rest : List Oper} (h : ops.toList.drop i = o :: rest) : ops.toList.drop (i + 1) = rest := by
  have : (ops.toList.drop i).drop 1 = rest := by rw [h]; rfl
  rwa [List.drop_drop] at this

/-- Where a call stands, as evalN has it. -/
def atCallN (P : Program) [Laid P] (md : Nat → Bool) (ops : Array Oper) (p : Oid) (c : Nat) (K : List (Nat × AV) → Mem → Prop) (Kp : AV → List (Nat × AV) → Mem → Prop) : Nat → List LOp → FuncId → List AV → List (Nat × AV) → Mem → List LE → Prop :=
  fun i L f xs fr m _ => ∀ o rest, ops.toList.drop i = o :: rest → lights (o :: rest) = L → ∃ need R Rp, CallND P f xs (Oid.under (.sub c i p)) need R Rp ∧ (∀ q, q ∈ need → m q.1 = some q.2) ∧ (∀ val upd, R val upd → evalN P md ops p c (i + 1) rest (put o.dst val fr) (m.upds upd) K Kp) ∧ ∀ pv upd, Rp pv upd → Kp pv fr (m.upds upd)
/-- What an operation that has more than one outcome is asked for. -/
def OpND (P : Program) [Laid P] (dst : Option Nat) (op : Op) (ρ : Operand → AV) (sp : Oid → Prop) (need : List (Oid × AObj)) (R Rp : AV → List (Oid × Option AObj) → Prop) : Prop :=
  ∀ o : Oper, o.dst = dst → o.op = op → EffND P o ρ sp need R Rp
def OpOK (P : Program) [Laid P] (dst : Option Nat) (op : Op) (ρ : Operand → AV) (sp : Oid → Prop) (e : Eff) : Prop := ∀ o : Oper, o.dst = dst → o.op = op → EffOK P o ρ sp e
def atOpN (P : Program) [Laid P] (md : Nat → Bool) (ops : Array Oper) (p : Oid) (c : Nat) (K : List (Nat × AV) → Mem → Prop) (Kp : AV → List (Nat × AV) → Mem → Prop) : Nat → List LOp → List (Nat × AV) → Mem → List LE → Prop :=
  fun i L fr m _ => ∀ o rest, ops.toList.drop i = o :: rest → lights (o :: rest) = L → ∃ need R Rp, EffND P o (evA fr) (Oid.under (.sub c i p)) need R Rp ∧ (∀ q, q ∈ need → m q.1 = some q.2) ∧ (∀ val upd, R val upd → evalN P md ops p c (i + 1) rest (put o.dst val fr) (m.upds upd) K Kp) ∧ ∀ pv upd, Rp pv upd → Kp pv fr (m.upds upd)

theorem ev_evalN {K : List (Nat × AV) → Mem → Prop} {Kp : AV → List (Nat × AV) → Mem → Prop} {lg : Bool} (hg : glOK ops gl = true) : ∀ (rest : List Oper) (i : Nat) (fr : List (Nat × AV)) (m : Mem) (log : List LE), ops.toList.drop i = rest →
    ev P md gl p c lg (atCallN P md ops p c K Kp) (atOpN P md ops p c K Kp) (fun fr m _ => K fr m) i (lights rest) fr m log → evalN P md ops p c i rest fr m K Kp
  | [], _, _, _, _, _, h => h
  | o :: rest, i, fr, m, log, hd, h => by
    simp only [lights, ev] at h
    simp only [evalN]
    cases hw : wantL gl (light o).guard (F fr) with
    | none => simp only [hw] at h
    | some b =>
      simp only [hw] at h
      rw [wantL_ok (o := o) hg hw]
      cases b with
      | true =>
        have h := h.1 rfl
        rw [opF_eq]
        simp only [light] at h
        simp only
        cases ho : opL P m (.sub c i p) md (evA fr) o.dst o.op with
        | eff e => simp only [ho] at h; exact ev_evalN hg rest _ _ _ _ (drop_next hd) h
        | call f xs => simp only [ho] at h; exact .inr (h o rest hd rfl)
        | no => simp only [ho] at h; exact h o rest hd rfl
      | false => exact ev_evalN hg rest _ _ _ _ (drop_next hd) (h.2 rfl)

/-- The log fits the text so far. -/
def LogOK (ops : Array Oper) (i : Nat) (rest : List Oper) (log : List Eff) : Prop := (∀ j, rest[j]? = ops[i + j]?) ∧ log.length = i ∧ ∀ (k : Nat) o e, ops[k]? = some o → log.reverse[k]? = some e → Tame o e
def KT (ops : Array Oper) (K : List (Nat × AV) → Mem → List Eff → Prop) (fr : List (Nat × AV)) (m : Mem) (log : List Eff) : Prop := K fr m log ∧ ∀ (k : Nat) o e, ops[k]? = some o → log.reverse[k]? = some e → Tame o e
theorem LogOK.step {i : Nat} {o : Oper} {rest : List Oper} {log : List Eff} (h : LogOK ops i (o :: rest) log) {e : Eff} (he : Tame o e) : LogOK ops (i + 1) rest (e :: log) := by
  obtain ⟨hl, hn, ht⟩ := h
  have h0 : ops[i]? = some o := by simpa using (hl 0).symm
  refine ⟨fun j => by have := hl (j + 1); simpa [Nat.add_assoc, Nat.add_comm 1 j] using this, by simp [hn], ?_⟩
  intro k o' e' ho' he'
  rw [List.reverse_cons] at he'
  by_cases hk : k < log.reverse.length
  · rw [List.getElem?_append_left hk] at he'; exact ht k o' e' ho' he'
  · rw [List.getElem?_append_right (by omega)] at he'
    have hk0 : k - log.reverse.length = 0 := by
      cases hz : k - log.reverse.length with
      | zero => rfl
      | succ z => rw [hz] at he'; simp at he'
    have hki : k = i := by rw [List.length_reverse, hn] at hk0 hk; omega
    subst hki
    rw [hk0] at he'
    simp only [List.getElem?_cons_zero, Option.some.injEq] at he'
    rw [h0] at ho'; simp only [Option.some.injEq] at ho'
    subst ho'; subst he'; exact he
theorem LogOK.drop {i : Nat} {rest : List Oper} {log : List Eff} (h : LogOK ops i rest log) : ops.toList.drop i = rest := by
  apply List.ext_getElem?
  intro j
  rw [List.getElem?_drop, h.1 j]; simp

def atCallD (P : Program) [Laid P] (ops : Array Oper) (p : Oid) (c : Nat) (K : List (Nat × AV) → Mem → List LE → Prop) : Nat → List LOp → FuncId → List AV → List (Nat × AV) → Mem → List LE → Prop :=
  fun i L f xs fr m lg => ∀ o rest log, LogOK ops i (o :: rest) log → log.map leOf = lg → lights (o :: rest) = L → (idleOp o.op = false ∧ readOp o.op = false) → ∃ e, CallOK P f xs (Oid.under (.sub c i p)) e ∧ (∀ q, q ∈ e.need → m q.1 = some q.2) ∧
      evalOps P ops p c (i + 1) rest (put o.dst e.val fr) (m.upds e.upd) (e :: log) (KT ops fun fr m log => K fr m (log.map leOf))
def atOpD (P : Program) [Laid P] (ops : Array Oper) (p : Oid) (c : Nat) (K : List (Nat × AV) → Mem → List LE → Prop) : Nat → List LOp → List (Nat × AV) → Mem → List LE → Prop :=
  fun i L fr m lg => ∀ o rest log, LogOK ops i (o :: rest) log → log.map leOf = lg → lights (o :: rest) = L → ∃ e, EffOK P o (evA fr) (Oid.under (.sub c i p)) e ∧ (∀ q, q ∈ e.need → m q.1 = some q.2) ∧
      evalOps P ops p c (i + 1) rest (put o.dst e.val fr) (m.upds e.upd) (e :: log) (KT ops fun fr m log => K fr m (log.map leOf))

theorem ev_evalOps {K : List (Nat × AV) → Mem → List LE → Prop} (hg : glOK ops gl = true) : ∀ (rest : List Oper) (i : Nat) (fr : List (Nat × AV)) (m : Mem) (log : List Eff), LogOK ops i rest log →
    ev P md gl p c true (atCallD P ops p c K) (atOpD P ops p c K) K i (lights rest) fr m (log.map leOf) → evalOps P ops p c i rest fr m log (KT ops fun fr m log => K fr m (log.map leOf))
  | [], _, _, _, _, hL, h => ⟨h, hL.2.2⟩
  | o :: rest, i, fr, m, log, hL, h => by
    simp only [lights, ev] at h
    simp only [evalOps]
    cases hw : wantL gl (light o).guard (F fr) with
    | none => simp only [hw] at h
    | some b =>
      simp only [hw] at h
      rw [wantL_ok (o := o) hg hw]
      cases b with
      | true =>
        have h := h.1 rfl
        simp only [light] at h
        simp only
        cases ho : opL P m (.sub c i p) md (evA fr) o.dst o.op with
        | eff e =>
          simp only [ho] at h
          rw [← opF_eq] at ho
          obtain ⟨h1, h2⟩ := opF_ok (sp := Oid.under (.sub c i p)) (Oid.under_refl _) (fun t => Oid.under_ty t _) rfl ho
          exact ⟨e, h1, h2, ev_evalOps hg rest _ _ _ (e :: log) (hL.step ⟨fun hi => opF_idle hi ho, fun hi => opF_read hi ho⟩) h⟩
        | call f xs =>
          simp only [ho] at h
          rw [← opF_eq] at ho
          have i1 : idleOp o.op = false := by
            cases hi : idleOp o.op with
            | false => rfl
            | true => exact (opF_idle_call hi ho).elim
          have i2 : readOp o.op = false := by
            cases hi : readOp o.op with
            | false => rfl
            | true => exact (opF_read_call hi ho).elim
          obtain ⟨e, h1, h2, h3⟩ := h o rest log hL rfl rfl ⟨i1, i2⟩
          exact ⟨e, opF_call ho h1, h2, h3⟩
        | no =>
          simp only [ho] at h
          exact h o rest log hL rfl rfl
      | false => exact ev_evalOps hg rest _ _ _ (Eff.none :: log) (hL.step ⟨fun _ => ⟨rfl, rfl⟩, fun _ => rfl⟩) (h.2 rfl)

/-- What must not meet, by names. -/
def disjN (a b : LE) : Prop := (∀ i, i ∈ a.upd → ∀ j, j ∈ b.need → i ≠ j) ∧ (∀ i, i ∈ a.upd → ∀ j, j ∈ b.upd → i ≠ j) ∧ (∀ i, i ∈ a.need → ∀ j, j ∈ b.upd → i ≠ j)
def dynN (E : List LE) : List (Nat × Nat) → Prop
  | [] => True
  | (i, j) :: r => disjN (E.getD i LE.none) (E.getD j LE.none) ∧ dynN E r
theorem disjN_quiet {a b : LE} (ha : a.upd = []) (hb : b.upd = []) : disjN a b := by
  unfold disjN; rw [ha, hb]
  refine ⟨?_, ?_, ?_⟩ <;> intro i h j k <;> first | (cases h; done) | (cases k; done)
theorem dynN_quiet {E : List LE} (h : (E.all fun e => e.upd.isEmpty) = true) : ∀ {U : List (Nat × Nat)}, dynN E U
  | [] => trivial
  | (i, j) :: r => by
    have hget : ∀ k, (E.getD k LE.none).upd = [] := fun k => by
      rw [List.getD_eq_getElem?_getD]
      cases hk : E[k]? with
      | none => rfl
      | some e =>
        rw [List.all_eq_true] at h
        exact List.isEmpty_iff.1 (h e (List.mem_of_getElem? hk))
    exact ⟨disjN_quiet (hget i) (hget j), dynN_quiet h⟩
theorem dynN_dynU {E : List Eff} : ∀ {U : List (Nat × Nat)}, dynN (E.map leOf) U → dynU E U
  | [], _ => trivial
  | (i, j) :: r, h => by
    have hget : ∀ k, (E.map leOf).getD k LE.none = leOf (E.getD k Eff.none) := fun k => by
      simp only [List.getD_eq_getElem?_getD, List.getElem?_map]
      cases E[k]? <;> rfl
    simp only [dynN, hget] at h
    obtain ⟨⟨h1, h2, h3⟩, h4⟩ := h
    exact ⟨⟨fun q hq q' hq' => h1 _ (mem_fsts hq) _ (mem_fsts hq'), fun q hq q' hq' => h2 _ (mem_fsts hq) _ (mem_fsts hq'), fun q hq q' hq' => h3 _ (mem_fsts hq) _ (mem_fsts hq')⟩, dynN_dynU h4⟩
end
end Go.Ab

/- Code as a stack of pieces: the rules of the walk. -/
namespace Go.Ab

inductive Pc where
  | code (c : Code)
  | bend (id : Nat)
  | lend (ts : List Nat) (I : Nat → AS → Prop) (k : Nat)

/-- What is still to come behind a piece of code. -/
def after (P : Program) (x : Ctx) (n : Nat) (Q : AX → AS → Prop) : List Pc → AX → AS → Prop
  | [], e, s => Q e s
  | k :: ks, e, s => match k, e with
    | .code c, .normal => T P x n c s (after P x n Q ks)
    | .lend ts I k, .normal => ∃ k' m', k' < k ∧ (∀ i o, m' i = some o → s.mem i = some o) ∧ I k' ⟨keepF ts s.fr, m', s.c, s.ds⟩
    | .bend j, .exit i => if i = j then after P x n Q ks .normal s else after P x n Q ks (.exit i) s
    | _, e => after P x n Q ks e s

section
variable {P : Program} [Laid P] {x : Ctx} {n : Nat} {Q : AX → AS → Prop} {ks : List Pc} {s : AS} {fr : List (Nat × AV)} {m : Mem} {c : Nat} {ds : List AD}

theorem K_next {a : Code} (h : T P x n a s (after P x n Q ks)) : after P x n Q (.code a :: ks) .normal s := h
theorem K_bend {j : Nat} (h : after P x n Q ks .normal s) : after P x n Q (.bend j :: ks) .normal s := h
theorem K_lendL {ts : List Nat} {I : Nat → AS → Prop} {k : Nat} (h : ∃ k' m', k' < k ∧ (∀ i o, m' i = some o → m i = some o) ∧ I k' ⟨keepF ts fr, m', c, ds⟩) :
    after P x n Q (.lend ts I k :: ks) .normal ⟨fr, m, c, ds⟩ := h
theorem K_nil {e : AX} (h : Q e s) : after P x n Q [] e s := h
theorem X_code {a : Code} {i : Nat} (h : after P x n Q ks (.exit i) s) : after P x n Q (.code a :: ks) (.exit i) s := h
theorem X_lend {ts : List Nat} {I : Nat → AS → Prop} {k i : Nat} (h : after P x n Q ks (.exit i) s) : after P x n Q (.lend ts I k :: ks) (.exit i) s := h
theorem X_here {i : Nat} (h : after P x n Q ks .normal s) : after P x n Q (.bend i :: ks) (.exit i) s := by simp only [after, if_true]; exact h
theorem X_on {i j : Nat} (hj : (Nat.beq i j) = false) (h : after P x n Q ks (.exit i) s) : after P x n Q (.bend j :: ks) (.exit i) s := by
  have : ¬ i = j := fun e => by subst e; simp at hj
  simp only [after, if_neg this]; exact h
theorem after_ret : ∀ {ks : List Pc}, Q .ret s → after P x n Q ks .ret s
  | [], h => h
  | .code _ :: ks, h => after_ret (ks := ks) h
  | .bend _ :: ks, h => after_ret (ks := ks) h
  | .lend .. :: ks, h => after_ret (ks := ks) h
theorem after_panic {v : AV} : ∀ {ks : List Pc}, Q (.panic v) s → after P x n Q ks (.panic v) s
  | [], h => h
  | .code _ :: ks, h => after_panic (ks := ks) h
  | .bend _ :: ks, h => after_panic (ks := ks) h
  | .lend .. :: ks, h => after_panic (ks := ks) h

theorem K_seq {a b : Code} (h : T P x n a s (after P x n Q (.code b :: ks))) : T P x n (.seq a b) s (after P x n Q ks) :=
  T_seq (T_mono h fun e s h => by cases e <;> exact h)
theorem K_skip (h : after P x n Q ks .normal s) : T P x n .skip s (after P x n Q ks) := T_skip h
theorem K_ret (h : Q .ret s) : T P x n .ret s (after P x n Q ks) := T_ret (after_ret h)
theorem K_exit {i : Nat} (h : after P x n Q ks (.exit i) s) : T P x n (.exit i) s (after P x n Q ks) := T_exit h
theorem K_block {id : Nat} {a : Code} (h : T P x n a s (after P x n Q (.bend id :: ks))) : T P x n (.block id a) s (after P x n Q ks) :=
  T_block (T_mono h fun e s h => by cases e <;> first | exact h | (simp only [after] at h; simp only [AX.inBlock]; split <;> simp_all))
/-- A loop. ts: the slots that its invariant speaks of; what else is known is forgotten at each round's head. -/
theorem K_loop (ts : List Nat) {a : Code} (I : Nat → AS → Prop) (k : Nat) (h0 : I k ⟨keepF ts fr, m, c, ds⟩)
    (round : ∀ k s, I k s → T P x n a s (after P x n Q (.lend ts I k :: ks))) : T P x n (.loop a) ⟨fr, m, c, ds⟩ (after P x n Q ks) := by
  refine T_loop (fun k s => ∃ m', (∀ i o, m' i = some o → s.mem i = some o) ∧ I k ⟨keepF ts s.fr, m', s.c, s.ds⟩) k ⟨m, fun _ _ h => h, h0⟩ ?_
  rintro k ⟨fr', m1, c', ds'⟩ ⟨m', hm, hi⟩
  refine T_forget (s := ⟨fr', m1, c', ds'⟩) (keepF ts fr') (fun t _ => F_keepF ts fr' t) ?_
  refine T_drop (s := ⟨keepF ts fr', m1, c', ds'⟩) m' hm ?_
  refine T_mono (round k _ hi) fun e s h => ?_
  cases e with
  | normal => obtain ⟨k', m', h1, h2, h3⟩ := h; exact ⟨k', h1, m', h2, h3⟩
  | _ => exact h
/-- A test. -/
theorem K_if {t : Nat} {a b : Code} {v : Bool} (ht : (decide (t < n)) = true) (hv : F fr t = .bool v) (h1 : v = true → T P x n a ⟨fr, m, c, ds⟩ (after P x n Q ks)) (h2 : v = false → T P x n b ⟨fr, m, c, ds⟩ (after P x n Q ks)) :
    T P x n (.cond (.tmp t) a b) ⟨fr, m, c, ds⟩ (after P x n Q ks) := R_if ht hv h1 h2
theorem K_ifd {t : Nat} {a b : Code} {p : Prop} {i : Decidable p} (ht : (decide (t < n)) = true) (hv : F fr t = .bool (decide p)) (h1 : p → T P x n a ⟨fr, m, c, ds⟩ (after P x n Q ks)) (h2 : ¬ p → T P x n b ⟨fr, m, c, ds⟩ (after P x n Q ks)) :
    T P x n (.cond (.tmp t) a b) ⟨fr, m, c, ds⟩ (after P x n Q ks) := R_if ht hv (fun h => h1 (of_decide_eq_true h)) (fun h => h2 (of_decide_eq_false h))

theorem K_ifT {t : Nat} {a b : Code} (ht : (decide (t < n)) = true) (hv : F fr t = .bool true) (h1 : T P x n a ⟨fr, m, c, ds⟩ (after P x n Q ks)) : T P x n (.cond (.tmp t) a b) ⟨fr, m, c, ds⟩ (after P x n Q ks) := K_if ht hv (fun _ => h1) (fun h => by cases h)
theorem K_ifF {t : Nat} {a b : Code} (ht : (decide (t < n)) = true) (hv : F fr t = .bool false) (h1 : T P x n b ⟨fr, m, c, ds⟩ (after P x n Q ks)) : T P x n (.cond (.tmp t) a b) ⟨fr, m, c, ds⟩ (after P x n Q ks) := K_if ht hv (fun h => by cases h) (fun _ => h1)
/-- A cut: what holds behind a piece; ts: the slots that it speaks of. -/
def Cut (P : Program) (x : Ctx) (n : Nat) (Q : AX → AS → Prop) (ks : List Pc) (ts : List Nat) (R : AS → Prop) : AX → AS → Prop
  | .normal, s => ∃ m', (∀ i o, m' i = some o → s.mem i = some o) ∧ R ⟨keepF ts s.fr, m', s.c, s.ds⟩
  | e, s => after P x n Q ks e s
theorem K_cut {a b : Code} (ts : List Nat) (R : AS → Prop) (h : T P x n a s (after P x n (Cut P x n Q ks ts R) [])) (h2 : ∀ s, R s → T P x n b s (after P x n Q ks)) : T P x n a s (after P x n Q (.code b :: ks)) :=
  T_mono h fun e s h => by
    cases e with
    | normal =>
      obtain ⟨m', h1, h3⟩ := h
      obtain ⟨fr', m1, c', ds'⟩ := s
      refine T_forget (s := ⟨fr', m1, c', ds'⟩) (keepF ts fr') (fun t _ => F_keepF ts fr' t) ?_
      exact T_drop (s := ⟨keepF ts fr', m1, c', ds'⟩) m' h1 (h2 _ h3)
    | _ => exact h
theorem K_cutB {a b : Code} {j : Nat} (ts : List Nat) (R : AS → Prop) (h : T P x n a s (after P x n (Cut P x n Q (.bend j :: .code b :: ks) ts R) [])) (h2 : ∀ s, R s → T P x n b s (after P x n Q ks)) : T P x n a s (after P x n Q (.bend j :: .code b :: ks)) :=
  T_mono h fun e s h => by
    cases e with
    | normal =>
      obtain ⟨m', h1, h3⟩ := h
      obtain ⟨fr', m1, c', ds'⟩ := s
      refine T_forget (s := ⟨fr', m1, c', ds'⟩) (keepF ts fr') (fun t _ => F_keepF ts fr' t) ?_
      exact T_drop (s := ⟨keepF ts fr', m1, c', ds'⟩) m' h1 (h2 _ h3)
    | _ => exact h
theorem K_cutN {ts : List Nat} {R : AS → Prop} (h : R ⟨keepF ts fr, m, c, ds⟩) : after P x n (Cut P x n Q ks ts R) [] .normal ⟨fr, m, c, ds⟩ := ⟨m, fun _ _ h => h, h⟩
theorem K_cutM {ts : List Nat} {R : AS → Prop} (m' : Mem) (hm : ∀ i o, m' i = some o → m i = some o) (h : R ⟨keepF ts fr, m', c, ds⟩) : after P x n (Cut P x n Q ks ts R) [] .normal ⟨fr, m, c, ds⟩ := ⟨m', hm, h⟩
theorem Cut_ret {ts : List Nat} {R : AS → Prop} (h : Q .ret s) : Cut P x n Q ks ts R .ret s := after_ret h
theorem Cut_exit {ts : List Nat} {R : AS → Prop} {i : Nat} (h : after P x n Q ks (.exit i) s) : after P x n (Cut P x n Q ks ts R) [] (.exit i) s := h
theorem Cut_panic {ts : List Nat} {R : AS → Prop} {v : AV} (h : Q (.panic v) s) : Cut P x n Q ks ts R (.panic v) s := after_panic h

/-- What is forgotten. -/
theorem K_keep {a : Code} (ts : List Nat) (h : T P x n a ⟨keepF ts fr, m, c, ds⟩ Q) : T P x n a ⟨fr, m, c, ds⟩ Q :=
  T_forget (s := ⟨fr, m, c, ds⟩) (keepF ts fr) (fun t _ => F_keepF ts fr t) h
theorem K_fr {a : Code} (fr' : List (Nat × AV)) (hk : fr'.all (fun q => decide (q.1 < n)) = true) (hv : ∀ q, q ∈ fr' → q.2 = F fr q.1) (h : T P x n a ⟨fr', m, c, ds⟩ Q) : T P x n a ⟨fr, m, c, ds⟩ Q := by
  refine T_forget (s := ⟨fr, m, c, ds⟩) fr' (fun t _ => ?_) h
  clear hk h
  induction fr' with
  | nil => exact .inl rfl
  | cons q l ih =>
    simp only [F]
    split
    · rename_i h; right; rw [hv q List.mem_cons_self, h]
    · exact ih fun q' hq' => hv q' (List.mem_cons_of_mem _ hq')
/-- A slot that holds a nil slice: a list without elements. -/
theorem K_nilList {a : Code} (t sz : Nat) (ht : F fr t = .nilSl) (h : T P x n a ⟨(t, .list sz []) :: fr, m, c, ds⟩ Q) : T P x n a ⟨fr, m, c, ds⟩ Q := by
  refine T_ghost (s := ⟨fr, m, c, ds⟩) (s' := ⟨(t, .list sz []) :: fr, m, c, ds⟩) (fun g b w hr => ⟨g, hr.mr, hr.tm, hr.df, fun u hu => ?_, hr.young⟩) h
  simp only [F]
  split
  · rename_i e; subst e
    have := hr.fr u hu
    simp only [ht] at this
    rw [this.nilSl_inv]; exact .listNil _
  · exact hr.fr u hu
/-- A slot that holds a nil slice: a row without elements, under a name of its own. -/
theorem K_void {a : Code} (t sz : Nat) (ht : F fr t = .nilSl) (h : T P x n a ⟨(t, .sl (.sub c 0 x.p) sz 0) :: fr, m.set (.sub c 0 x.p) (some (.arr sz [])), c + 1, ds⟩ Q) : T P x n a ⟨fr, m, c, ds⟩ Q := by
  refine T_ghost (s := ⟨fr, m, c, ds⟩) _ (fun g b w hr => ?_) h
  have hl : g.loc (.sub c 0 x.p) = none := hr.young _ ⟨c, 0, Nat.le_refl _, Oid.under_refl _⟩
  have hle := Gh.le_nowhere hl
  refine ⟨g.nowhere (.sub c 0 x.p), hr.mr.newVoid sz hl (Oid.under_sub (Oid.under_refl _)), hr.tm, hr.df.mono hle, fun u hu => ?_, fun i hi => ?_⟩
  · simp only [F]
    split
    · rename_i e; subst e
      have := hr.fr u hu
      simp only [ht] at this
      rw [this.nilSl_inv]
      exact .slNil _ _ (by simp [Gh.nowhere])
    · exact (hr.fr u hu).mono hle
  · simp only [Gh.nowhere]
    split
    · rename_i e; subst e
      obtain ⟨c', i', h1, h2⟩ := hi
      have := (Oid.apart (Oid.under_refl _) h2).1
      simp only at h1
      omega
    · exact hr.young i (hi.mono (Nat.le_succ _))
/-- A row is fixed for good. -/
def frzV (i : Oid) (sz : Nat) (xs : List AV) : AV → AV
  | .sl j s n => if j = i ∧ s = sz ∧ n = xs.length then .list sz xs else .sl j s n
  | v => v
def frz (i : Oid) (sz : Nat) (xs : List AV) : List (Nat × AV) → List (Nat × AV)
  | [] => []
  | q :: l => (q.1, frzV i sz xs q.2) :: frz i sz xs l
theorem F_frz (i : Oid) (sz : Nat) (xs : List AV) (t : Nat) : ∀ fr, F (frz i sz xs fr) t = frzV i sz xs (F fr t)
  | [] => rfl
  | q :: l => by
    simp only [frz, F]
    split
    · rfl
    · exact F_frz i sz xs t l
theorem K_freeze {a : Code} (i : Oid) (sz : Nat) (xs : List AV) (hi : m i = some (.arr sz xs)) (h : T P x n a ⟨frz i sz xs fr, m.set i none, c, ds⟩ Q) : T P x n a ⟨fr, m, c, ds⟩ Q := by
  refine T_freeze (s := ⟨fr, m, c, ds⟩) i (frz i sz xs fr) hi (fun t _ => ?_) h
  rw [F_frz]
  generalize F fr t = v
  unfold frzV
  split
  · split
    · rename_i h; obtain ⟨rfl, rfl, rfl⟩ := h; exact .inr (.inr ⟨rfl, rfl⟩)
    · exact .inr (.inl rfl)
  · exact .inr (.inl rfl)
theorem K_drop {a : Code} (m' : Mem) (hm : ∀ i o, m' i = some o → m i = some o) (h : T P x n a ⟨fr, m', c, ds⟩ Q) : T P x n a ⟨fr, m, c, ds⟩ Q := T_drop (s := ⟨fr, m, c, ds⟩) m' hm h

/-- A region in the order of the text. -/
theorem K_ev {id : Nat} {ops : Array Oper} (md : Nat → Bool) (gl : List (Nat × Nat)) (hng : Fit P x) (hok : (textB n P.globals.size ops && glOK ops gl) = true)
    (h : Fresh x.p c m → ∀ C S (K : List (Nat × AV) → Mem → List LE → Prop),
      (∀ {i o rest f xs fr m log} e, CallOK P f xs (Oid.under (.sub c i x.p)) e → (∀ q, q ∈ e.need → m q.1 = some q.2) → ev P md gl x.p c false C S K (i + 1) rest (put o.dst e.val fr) (m.upds e.upd) log → C i (o :: rest) f xs fr m log) →
      (∀ {i o rest f xs fr m log} need R Rp, CallND P f xs (Oid.under (.sub c i x.p)) need R Rp → (∀ q, q ∈ need → m q.1 = some q.2) → (∀ val upd, R val upd → ev P md gl x.p c false C S K (i + 1) rest (put o.dst val fr) (m.upds upd) log) →
        (∀ pv upd, Rp pv upd → Q (.panic pv) ⟨fr, m.upds upd, c + 1, ds⟩) → C i (o :: rest) f xs fr m log) →
      (∀ {i o rest fr m log} need R Rp, OpND P o.dst o.op (evA fr) (Oid.under (.sub c i x.p)) need R Rp → (∀ q, q ∈ need → m q.1 = some q.2) → (∀ val upd, R val upd → ev P md gl x.p c false C S K (i + 1) rest (put o.dst val fr) (m.upds upd) log) →
        (∀ pv upd, Rp pv upd → Q (.panic pv) ⟨fr, m.upds upd, c + 1, ds⟩) → S i (o :: rest) fr m log) →
      (∀ {fr m log}, after P x n Q ks .normal ⟨fr, m, c + 1, ds⟩ → K fr m log) →
      ev P md gl x.p c false C S K 0 (lights ops.toList) fr m []) : T P x n (.region id ops false) ⟨fr, m, c, ds⟩ (after P x n Q ks) := by
  simp only [Bool.and_eq_true] at hok
  obtain ⟨hok, hgl⟩ := hok
  refine T_region_nd md hng hok fun hf => ?_
  let K0 : List (Nat × AV) → Mem → Prop := fun fr m => after P x n Q ks .normal ⟨fr, m, c + 1, ds⟩
  let Kp : AV → List (Nat × AV) → Mem → Prop := fun pv fr m => after P x n Q ks (.panic pv) ⟨fr, m, c + 1, ds⟩
  refine ev_evalN (md := md) (lg := false) (K := K0) (Kp := Kp) hgl _ _ _ _ [] (by simp) ?_
  refine h hf _ _ _ ?_ ?_ ?_ ?_
  · intro i o rest f xs fr m log e h1 h2 h3 o' rest' hd hl
    simp only [lights, List.cons.injEq] at hl
    obtain ⟨rfl, rfl⟩ := hl
    exact ⟨_, _, _, h1.nd, h2, fun val upd ⟨hv, hu⟩ => by subst hv; subst hu; exact ev_evalN hgl _ _ _ _ log (drop_next hd) h3, fun _ _ h => h.elim⟩
  · intro i o rest f xs fr m log need R Rp h1 h2 h3 h4 o' rest' hd hl
    simp only [lights, List.cons.injEq] at hl
    obtain ⟨rfl, rfl⟩ := hl
    exact ⟨need, R, Rp, h1, h2, fun val upd hr => ev_evalN hgl _ _ _ _ log (drop_next hd) (h3 val upd hr), fun pv upd hr => after_panic (h4 pv upd hr)⟩
  · intro i o rest fr m log need R Rp h1 h2 h3 h4 o' rest' hd hl
    simp only [lights, List.cons.injEq] at hl
    obtain ⟨rfl, rfl⟩ := hl
    exact ⟨need, R, Rp, h1 o' rfl rfl, h2, fun val upd hr => ev_evalN hgl _ _ _ _ log (drop_next hd) (h3 val upd hr), fun pv upd hr => after_panic (h4 pv upd hr)⟩
  · intro fr m log h
    exact h

/-- A region that draws its order. U: the pairs that must not meet. -/
theorem K_evd {id : Nat} {ops : Array Oper} (md : Nat → Bool) (gl : List (Nat × Nat)) (U : List (Nat × Nat)) (hmx : P.follows .mixedOrders = true) (hng : Fit P x) (hok : (drawB n P.globals.size ops U && glOK ops gl) = true) (ts : List Nat)
    (h : Fresh x.p c m → ∀ C S (K : List (Nat × AV) → Mem → List LE → Prop),
      (∀ {i o rest f xs fr m log} e, CallOK P f xs (Oid.under (.sub c i x.p)) e → (∀ q, q ∈ e.need → m q.1 = some q.2) → ev P md gl x.p c true C S (fun fr m log => K (keepF ts fr) m log) (i + 1) rest (put o.dst e.val fr) (m.upds e.upd) (leOf e :: log) → C i (o :: rest) f xs fr m log) →
      (∀ {i o rest fr m log} e, OpOK P o.dst o.op (evA fr) (Oid.under (.sub c i x.p)) e → idleOp o.op = false → readOp o.op = false → (∀ q, q ∈ e.need → m q.1 = some q.2) → ev P md gl x.p c true C S (fun fr m log => K (keepF ts fr) m log) (i + 1) rest (put o.dst e.val fr) (m.upds e.upd) (leOf e :: log) → S i (o :: rest) fr m log) →
      (∀ {fr m log}, dynN log.reverse U → after P x n Q ks .normal ⟨fr, m, c + 1, ds⟩ → K fr m log) →
      ev P md gl x.p c true C S (fun fr m log => K (keepF ts fr) m log) 0 (lights ops.toList) fr m []) : T P x n (.region id ops true) ⟨fr, m, c, ds⟩ (after P x n Q ks) := by
  simp only [Bool.and_eq_true] at hok
  obtain ⟨hok, hgl⟩ := hok
  simp only [drawB, Bool.and_eq_true] at hok
  obtain ⟨⟨k1, k2⟩, k3⟩ := hok
  have key := T_region_draw (P := P) (x := x) (n := n) (s := ⟨fr, m, c, ds⟩) (Q := fun e s => e = .normal ∧ after P x n Q ks .normal ⟨keepF ts s.fr, s.mem, s.c, s.ds⟩) (id := id) hmx hng k1 k2 fun hf => by
    have h1 := ev_evalOps (P := P) (md := md) (ops := ops) (p := x.p) (c := c) (K := fun fr m log => dynN log.reverse U ∧ after P x n Q ks .normal ⟨keepF ts fr, m, c + 1, ds⟩) hgl ops.toList 0 fr m [] ⟨fun j => by simp, rfl, fun k o e _ he => by simp at he⟩
      (h hf (atCallD P ops x.p c _) (atOpD P ops x.p c _) (fun fr m log => dynN log.reverse U ∧ after P x n Q ks .normal ⟨fr, m, c + 1, ds⟩)
        (fun {i o rest f xs fr m log} e h1 h2 h3 => fun o' rest' log' hL hlg hl hi => by
          simp only [lights, List.cons.injEq] at hl
          obtain ⟨rfl, rfl⟩ := hl
          subst hlg
          exact ⟨e, h1, h2, ev_evalOps hgl _ _ _ _ (e :: log') (hL.step (show Tame o' e from ⟨fun h => absurd h (by simp [hi.1]), fun h => absurd h (by simp [hi.2])⟩)) h3⟩)
        (fun {i o rest fr m log} e h1 i1 i2 h2 h3 => fun o' rest' log' hL hlg hl => by
          simp only [lights, List.cons.injEq] at hl
          obtain ⟨rfl, rfl⟩ := hl
          subst hlg
          simp only [light] at i1 i2
          exact ⟨e, h1 o' rfl rfl, h2, ev_evalOps hgl _ _ _ _ (e :: log') (hL.step (show Tame o' e from ⟨fun h => absurd h (by simp [i1]), fun h => absurd h (by simp [i2])⟩)) h3⟩)
        (fun {fr m log} h1 h2 => ⟨h1, h2⟩))
    refine evalOps_mono' (N := ops.size) ?_ _ _ _ _ _ (by simp) h1
    rintro fr1 m1 log hlen ⟨⟨hd, hq⟩, ht⟩
    refine ⟨compat_of k3 (by simpa using hlen) ht (dynN_dynU (by rw [List.map_reverse]; exact hd)), fun fr' hF => ⟨rfl, ?_⟩⟩
    have : keepF ts fr' = keepF ts fr1 := by simp only [keepF_map, hF]
    rw [this]; exact hq
  intro g a w hr
  refine wpIn_mono (key g a w hr) fun e a' w' ⟨g', ex, s', h1, h2, h4, h5⟩ => ?_
  subst h4
  exact ⟨g', .normal, ⟨keepF ts s'.fr, s'.mem, s'.c, s'.ds⟩, h1.forget _ (fun t _ => F_keepF ts s'.fr t), h2, h5⟩
end

/-- A function's contract with more than one outcome. -/
theorem fnND {P : Program} [Laid P] {f : FuncId} {fn : Func} {n : Nat} {rs : List ResultVar} {c : Code} {xs : List AV} {p : Oid} {need : List (Oid × AObj)} {R Rp : AV → List (Oid × Option AObj) → Prop} (hf : P.funcs[f]? = some fn) (hn : fn.ntmps = n) (hr : fn.results.toList = rs)
    (hnm : (fn.name != "runtime.NumGoroutine") = true) (hl : (Nat.ble xs.length n) = true) (hok : resOKs n rs = true) (hb : fn.body = some c)
    (hT : ∀ x : Ctx, x.p = p → x.rd = none → Fit P x → T P x n c ⟨slots 0 xs, Mem.of need, 0, []⟩ (after P x n (DoneN P rs need R Rp) [])) : CallND P f xs (Oid.under p) need R Rp :=
  callND_of hf hn hr hnm hl hok hb fun x h1 h2 h3 => T_mono (hT x h1 h2 h3) fun _ _ h => h
theorem fnOK {P : Program} [Laid P] {f : FuncId} {fn : Func} {n : Nat} {rs : List ResultVar} {c : Code} {xs : List AV} {p : Oid} {e : Eff} (hf : P.funcs[f]? = some fn) (hn : fn.ntmps = n) (hr : fn.results.toList = rs)
    (hnm : (fn.name != "runtime.NumGoroutine") = true) (hl : (Nat.ble xs.length n) = true) (hok : resOKs n rs = true) (hb : fn.body = some c)
    (hT : ∀ x : Ctx, x.p = p → x.rd = none → Fit P x → T P x n c ⟨slots 0 xs, Mem.of e.need, 0, []⟩ (after P x n (DoneN P rs e.need (fun v u => v = e.val ∧ u = e.upd) fun _ _ => False) [])) : CallOK P f xs (Oid.under p) e :=
  (fnND hf hn hr hnm hl hok hb hT).ok

/-- The end of a body, nothing deferred. -/
theorem done_ret {P : Program} {rs : List ResultVar} {need : List (Oid × AObj)} {R Rp : AV → List (Oid × Option AObj) → Prop} {fr : List (Nat × AV)} {m : Mem} {c : Nat} (val : AV) (upd : List (Oid × Option AObj)) (h1 : retM P m fr rs = some val) (h2 : R val upd)
    (h3 : ∀ i o, ((Mem.of need).upds upd) i = some o → m i = some o) : DoneN P rs need R Rp .ret ⟨fr, m, c, []⟩ := ⟨val, upd, h1, h2, h3⟩
theorem done_normal {P : Program} {rs : List ResultVar} {need : List (Oid × AObj)} {R Rp : AV → List (Oid × Option AObj) → Prop} {fr : List (Nat × AV)} {m : Mem} {c : Nat} (val : AV) (upd : List (Oid × Option AObj)) (h1 : retM P m fr rs = some val) (h2 : R val upd)
    (h3 : ∀ i o, ((Mem.of need).upds upd) i = some o → m i = some o) : DoneN P rs need R Rp .normal ⟨fr, m, c, []⟩ := ⟨val, upd, h1, h2, h3⟩
theorem done_plain {P : Program} {rs : List ResultVar} {val : AV} {fr : List (Nat × AV)} {m : Mem} {c : Nat} (h1 : retM P m fr rs = some val) : DoneN P rs [] (fun v u => v = val ∧ u = []) (fun _ _ => False) .ret ⟨fr, m, c, []⟩ :=
  done_ret val [] h1 ⟨rfl, rfl⟩ fun i o h => by cases h
theorem done1 {P : Program} {t : Nat} {val : AV} {fr : List (Nat × AV)} {m : Mem} {c : Nat} (h1 : F fr t = val) : DoneN P [.tmp t] [] (fun v u => v = val ∧ u = []) (fun _ _ => False) .ret ⟨fr, m, c, []⟩ :=
  done_plain (by simp only [retM, resM, h1, tupA])
/-- The end of a body that hands back a row of its own. -/
theorem K_retl {P : Program} [Laid P] {x : Ctx} {n : Nat} {ks : List Pc} {t sz k c : Nat} {id : Oid} {xs ys : List AV} {fr : List (Nat × AV)} {m : Mem} (hv : F fr t = .sl id sz k) (hi : m id = some (.arr sz xs)) (hk : k = xs.length) (hx : xs = ys) :
    T P x n .ret ⟨fr, m, c, []⟩ (after P x n (DoneN P [.tmp t] [] (fun v u => v = .list sz ys ∧ u = []) (fun _ _ => False)) ks) := by
  subst hx
  refine K_freeze id sz xs hi (K_ret (done1 ?_))
  rw [F_frz, hv, frzV, if_pos ⟨rfl, rfl, hk⟩]
end Go.Ab

/- What the walk lays open: conditions that are owed, memory as a list, names. -/
namespace Go.Ab

/-! ### what is owed -/
def gd (p : Prop) [Decidable p] (v : Option AV) : Option AV := if p then v else none
theorem gd_pos {p : Prop} [Decidable p] {v : Option AV} (h : p) : gd p v = v := if_pos h
def gdR (p : Prop) [Decidable p] (v : OpR) : OpR := if p then v else .no
theorem gdR_pos {p : Prop} [Decidable p] {v : OpR} (h : p) : gdR p v = v := if_pos h

theorem indexA_str (s : List UInt8) (k : IntKind) (n : Int) : indexA (some .str) (.str s) (.int k n) = gd (0 ≤ n ∧ n < s.length) (some (.int .u8 (s.getD n.toNat 0).toNat)) := rfl
theorem indexAddrA_list (el : TypeId) (ag : Bool) (sz by' sz' : Nat) (xs : List AV) (k : IntKind) (n : Int) : indexAddrA (some (.slice el ag sz by')) (.list sz' xs) (.int k n) = gd (sz' = sz ∧ 0 ≤ n ∧ n < xs.length) (some (.eptr (xs.getD n.toNat .undef))) := rfl
theorem indexAddrA_sl (el : TypeId) (ag : Bool) (sz by' sz' len : Nat) (id : Oid) (k : IntKind) (n : Int) : indexAddrA (some (.slice el ag sz by')) (.sl id sz' len) (.int k n) = gd (sz' = sz ∧ 0 ≤ n ∧ n < len) (some (.aptr id sz n.toNat 0)) := rfl
theorem indexAddrA_arr (el : TypeId) (ag : Bool) (sz len off : Nat) (id : Oid) (k : IntKind) (n : Int) : indexAddrA (some (.arr len el ag sz)) (.ptr id off) (.int k n) = gd (0 ≤ n ∧ n < len) (some (.ptr id (off + n.toNat * sz))) := rfl
theorem pieceA_str (s : List UInt8) (lo hi : Option AV) {l h : Int} (hl : boundA 0 lo = some l) (hh : boundA s.length hi = some h) : pieceA (some .str) (.str s) lo hi = gd (0 ≤ l ∧ l ≤ h ∧ h ≤ s.length) (some (.str ((s.take h.toNat).drop l.toNat))) := by
  simp only [pieceA, hl, hh, gd]
theorem pieceA_str0 (s : List UInt8) : pieceA (some .str) (.str s) none none = some (.str s) := by
  simp [pieceA, boundA]
theorem pieceA_strL (s : List UInt8) (k : IntKind) (l : Int) : pieceA (some .str) (.str s) (some (.int k l)) none = gd (0 ≤ l ∧ l ≤ s.length) (some (.str (s.drop l.toNat))) := by
  simp only [pieceA, boundA, gd]
  by_cases h : 0 ≤ l ∧ l ≤ s.length
  · rw [if_pos h, if_pos ⟨h.1, h.2, Int.le_refl _⟩]; simp
  · rw [if_neg h, if_neg (fun h' => h ⟨h'.1, h'.2.1⟩)]
theorem pieceA_strH (s : List UInt8) (k : IntKind) (h : Int) : pieceA (some .str) (.str s) none (some (.int k h)) = gd (0 ≤ h ∧ h ≤ s.length) (some (.str (s.take h.toNat))) := by
  simp only [pieceA, boundA, gd]
  by_cases hc : 0 ≤ h ∧ h ≤ s.length
  · rw [if_pos hc, if_pos ⟨Int.le_refl _, hc.1, hc.2⟩]; simp
  · rw [if_neg hc, if_neg (fun h' => hc ⟨h'.2.1, h'.2.2⟩)]
theorem pieceA_strB (s : List UInt8) (k k' : IntKind) (l h : Int) : pieceA (some .str) (.str s) (some (.int k l)) (some (.int k' h)) = gd (0 ≤ l ∧ l ≤ h ∧ h ≤ s.length) (some (.str ((s.take h.toNat).drop l.toNat))) := rfl
theorem pieceA_listL (el : TypeId) (ag : Bool) (sz by' sz' : Nat) (xs : List AV) (k : IntKind) (l : Int) : pieceA (some (.slice el ag sz by')) (.list sz' xs) (some (.int k l)) none = gd (sz' = sz ∧ 0 ≤ l ∧ l ≤ xs.length) (some (.list sz (xs.drop l.toNat))) := by
  simp only [pieceA, boundA, gd]
  by_cases h : sz' = sz ∧ 0 ≤ l ∧ l ≤ xs.length
  · rw [if_pos h, if_pos ⟨h.1, h.2.1, h.2.2, Int.le_refl _⟩]; simp
  · rw [if_neg h, if_neg (fun h' => h ⟨h'.1, h'.2.1, h'.2.2.1⟩)]
theorem pieceA_listH (el : TypeId) (ag : Bool) (sz by' sz' : Nat) (xs : List AV) (k : IntKind) (h : Int) : pieceA (some (.slice el ag sz by')) (.list sz' xs) none (some (.int k h)) = gd (sz' = sz ∧ 0 ≤ h ∧ h ≤ xs.length) (some (.list sz (xs.take h.toNat))) := by
  simp only [pieceA, boundA, gd]
  by_cases hc : sz' = sz ∧ 0 ≤ h ∧ h ≤ xs.length
  · rw [if_pos hc, if_pos ⟨hc.1, Int.le_refl _, hc.2.1, hc.2.2⟩]; simp
  · rw [if_neg hc, if_neg (fun h' => hc ⟨h'.1, h'.2.2.1, h'.2.2.2⟩)]
theorem pieceA_list0 (el : TypeId) (ag : Bool) (sz by' : Nat) (xs : List AV) : pieceA (some (.slice el ag sz by')) (.list sz xs) none none = some (.list sz xs) := by
  simp [pieceA, boundA]
theorem pieceA_listB (el : TypeId) (ag : Bool) (sz by' sz' : Nat) (xs : List AV) (k k' : IntKind) (l h : Int) : pieceA (some (.slice el ag sz by')) (.list sz' xs) (some (.int k l)) (some (.int k' h)) = gd (sz' = sz ∧ 0 ≤ l ∧ l ≤ h ∧ h ≤ xs.length) (some (.list sz ((xs.take h.toNat).drop l.toNat))) := rfl
theorem pieceA_slH (el : TypeId) (ag : Bool) (sz by' sz' len : Nat) (id : Oid) (k : IntKind) (h : Int) : pieceA (some (.slice el ag sz by')) (.sl id sz' len) none (some (.int k h)) = gd (0 ≤ h ∧ h ≤ len) (some (.sl id sz' h.toNat)) := by
  simp only [pieceA, boundA, gd, true_and]
theorem pieceA_sl0 (el : TypeId) (ag : Bool) (sz by' sz' len : Nat) (id : Oid) : pieceA (some (.slice el ag sz by')) (.sl id sz' len) none none = some (.sl id sz' len) := by
  simp [pieceA, boundA]
theorem pieceA_nil0 (el : TypeId) (ag : Bool) (sz by' : Nat) : pieceA (some (.slice el ag sz by')) .nilSl none none = some .nilSl := by
  simp [pieceA, boundA]
theorem pieceA_nilB (el : TypeId) (ag : Bool) (sz by' : Nat) (lo hi : Option AV) {l h : Int} (hl : boundA 0 lo = some l) (hh : boundA 0 hi = some h) : pieceA (some (.slice el ag sz by')) .nilSl lo hi = gd (l = 0 ∧ h = 0) (some .nilSl) := by
  simp only [pieceA, hl, hh, gd]

theorem intA_add (k : IntKind) (a b : Int) : intA .add k a b = some (.int k (k.wrap (a + b))) := rfl
theorem intA_sub (k : IntKind) (a b : Int) : intA .sub k a b = some (.int k (k.wrap (a - b))) := rfl
theorem intA_mul (k : IntKind) (a b : Int) : intA .mul k a b = some (.int k (k.wrap (a * b))) := rfl
theorem intA_quo (k : IntKind) (a b : Int) : intA .quo k a b = gd (b ≠ 0) (some (.int k (k.wrap (a.tdiv b)))) := rfl
theorem intA_rem (k : IntKind) (a b : Int) : intA .rem k a b = gd (b ≠ 0) (some (.int k (a.tmod b))) := rfl
theorem intA_and (k : IntKind) (a b : Int) : intA .and k a b = some (.int k (k.wrap (BitVec.ofInt k.bits a &&& BitVec.ofInt k.bits b).toNat)) := rfl
theorem intA_or (k : IntKind) (a b : Int) : intA .or k a b = some (.int k (k.wrap (BitVec.ofInt k.bits a ||| BitVec.ofInt k.bits b).toNat)) := rfl
theorem intA_xor (k : IntKind) (a b : Int) : intA .xor k a b = some (.int k (k.wrap (BitVec.ofInt k.bits a ^^^ BitVec.ofInt k.bits b).toNat)) := rfl
theorem intA_andNot (k : IntKind) (a b : Int) : intA .andNot k a b = some (.int k (k.wrap (BitVec.ofInt k.bits a &&& ~~~ BitVec.ofInt k.bits b).toNat)) := rfl
theorem beq_dec {α : Type} [BEq α] [LawfulBEq α] [DecidableEq α] (a b : α) : (a == b) = decide (a = b) := by
  rw [Bool.eq_iff_iff]; simp
theorem bne_dec {α : Type} [BEq α] [LawfulBEq α] [DecidableEq α] (a b : α) : (a != b) = decide (a ≠ b) := by
  rw [Bool.eq_iff_iff]; simp
theorem intA_eql (k : IntKind) (a b : Int) : intA .eql k a b = some (.bool (decide (a = b))) := by
  simp only [intA, beq_dec]
theorem intA_neq (k : IntKind) (a b : Int) : intA .neq k a b = some (.bool (decide (a ≠ b))) := by
  simp only [intA, bne_dec]
theorem intA_lss (k : IntKind) (a b : Int) : intA .lss k a b = some (.bool (decide (a < b))) := rfl
theorem intA_leq (k : IntKind) (a b : Int) : intA .leq k a b = some (.bool (decide (a ≤ b))) := rfl
theorem intA_gtr (k : IntKind) (a b : Int) : intA .gtr k a b = some (.bool (decide (b < a))) := rfl
theorem intA_geq (k : IntKind) (a b : Int) : intA .geq k a b = some (.bool (decide (b ≤ a))) := rfl
theorem shiftA_shl (k : IntKind) (a b : Int) : shiftA .shl k a b = gd (0 ≤ b) (some (.int k (k.wrap (a * 2 ^ (min b.toNat k.bits))))) := by
  unfold shiftA gd
  by_cases h : 0 ≤ b
  · rw [if_neg (by omega), if_pos h]
  · rw [if_pos (by omega), if_neg h]
theorem shiftA_shr (k : IntKind) (a b : Int) : shiftA .shr k a b = gd (0 ≤ b) (some (.int k (a.fdiv (2 ^ (min b.toNat k.bits))))) := by
  unfold shiftA gd
  by_cases h : 0 ≤ b
  · rw [if_neg (by omega), if_pos h]
  · rw [if_pos (by omega), if_neg h]
theorem strA_add (a b : List UInt8) : strA .add a b = gd (a.length + b.length ≤ 9223372036854775807) (some (.str (a ++ b))) := rfl
theorem strA_eql (a b : List UInt8) : strA .eql a b = some (.bool (decide (a = b))) := by
  simp only [strA, beq_dec]
theorem strA_neq (a b : List UInt8) : strA .neq a b = some (.bool (decide (a ≠ b))) := by
  simp only [strA, bne_dec]
/-- The order of texts. -/
def ltS (a b : List UInt8) : Bool := Op.bytesLess a b
theorem strA_lss (a b : List UInt8) : strA .lss a b = some (.bool (ltS a b)) := rfl
theorem strA_leq (a b : List UInt8) : strA .leq a b = some (.bool (ltS a b || decide (a = b))) := by
  simp only [strA, ltS, beq_dec]
theorem strA_gtr (a b : List UInt8) : strA .gtr a b = some (.bool (!(ltS a b || decide (a = b)))) := by
  simp only [strA, ltS, beq_dec]
theorem strA_geq (a b : List UInt8) : strA .geq a b = some (.bool (!ltS a b)) := rfl

def appS (P : Program) (m : Mem) (nid : Oid) (k : Option TyK) (s : AV) (x : Option (List (Oid × AObj) × List AV)) : OpR :=
  match k, s, x with
  | some (.slice el _ sz by'), .nilSl, some (nd, ys) => gdR (zerOK P el sz = true ∧ 0 < by' ∧ ys.length * by' ≤ 140737488355328) (.eff ⟨nd, .sl nid sz ys.length, [(nid, some (.arr sz ys))]⟩)
  | some (.slice el _ sz by'), .sl id sz' len, some (nd, ys) => match m id with
    | some (.arr s' xs) => gdR (zerOK P el sz = true ∧ sz' = sz ∧ s' = sz ∧ xs.length = len ∧ 0 < by' ∧ (len + ys.length) * by' ≤ 140737488355328)
          (.eff ⟨(id, .arr s' xs) :: nd, .sl nid sz (len + ys.length), [(id, none), (nid, some (.arr sz (xs ++ ys)))]⟩)
    | _ => .no
  | _, _, _ => .no
def tykSz : Option TyK → Nat
  | some (.slice _ _ sz _) => sz
  | _ => 0
theorem appA_eq (P : Program) (m : Mem) (nid : Oid) (t : TypeId) (s x : AV) : appA P m nid t s x = appS P m nid (tyk P t) s (srcA m (tykSz (tyk P t)) x) := by
  unfold appA appS
  cases tyk P t with
  | none => rfl
  | some k =>
    cases k <;> try rfl
    simp only [tykSz]
    generalize srcA m _ x = r
    cases r with
    | none => cases s <;> rfl
    | some r =>
      obtain ⟨nd, ys⟩ := r
      cases s <;> rfl
def litS (P : Program) (k : Option TyK) (n : Nat) (ps : List (Nat × AV)) : Option (Nat × List AV) :=
  match k with
  | some (.slice el _ sz _) => if (zer P el).isSome = true ∧ ps.length = n ∧ inOrder 0 ps = true ∧ n * sz ≤ 16777216 ∧ 0 < sz ∧ (ps.all fun q => q.2.cells.all AV.one && q.2.cells.length == sz) = true then some (sz, ps.map (·.2)) else none
  | _ => none

/-! ### memory as a list -/
def putL (i : Oid) (x : Option AObj) : List (Oid × AObj) → List (Oid × AObj)
  | [] => match x with
    | some o => [(i, o)]
    | none => []
  | q :: l => if i = q.1 then (match x with
      | some o => (i, o) :: l
      | none => putL i none l) else q :: putL i x l
def putLs : List (Oid × Option AObj) → List (Oid × AObj) → List (Oid × AObj)
  | [], l => l
  | q :: u, l => putLs u (putL q.1 q.2 l)
theorem Mem.of_putL (i : Oid) (x : Option AObj) : ∀ l, (Mem.of l).set i x = Mem.of (putL i x l)
  | [] => by cases x <;> (funext k; simp [Mem.of, Mem.set, putL, Mem.emp])
  | q :: l => by
    have ih := fun x => Mem.of_putL i x l
    simp only [putL]
    by_cases h : i = q.1
    · rw [if_pos h]
      cases x with
      | some o => funext k; simp only [Mem.of, Mem.set]; subst h; split <;> rfl
      | none => rw [← ih]; funext k; simp only [Mem.of, Mem.set]; subst h; split <;> rfl
    · rw [if_neg h]; funext k; simp only [Mem.of]; rw [← ih]; simp only [Mem.set]
      by_cases h1 : k = i
      · rw [if_pos h1, if_pos h1, if_neg (fun h2 => h (h1.symm.trans h2))]
      · rw [if_neg h1, if_neg h1]
theorem Mem.of_upds : ∀ (u : List (Oid × Option AObj)) (l : List (Oid × AObj)), (Mem.of l).upds u = Mem.of (putLs u l)
  | [], _ => rfl
  | q :: u, l => by
    show ((Mem.of l).set q.1 q.2).upds u = _
    rw [Mem.of_putL, Mem.of_upds u]; rfl
theorem Mem.emp_of : Mem.emp = Mem.of [] := rfl
theorem Mem.of_nil_at (i : Oid) : Mem.of [] i = none := rfl
theorem Mem.of_cons_at (q : Oid × AObj) (l : List (Oid × AObj)) (i : Oid) : Mem.of (q :: l) i = if i = q.1 then some q.2 else Mem.of l i := rfl
theorem mem_end {L L' : List (Oid × AObj)} (h : ∀ q, q ∈ L → Mem.of L' q.1 = some q.2) : ∀ i o, Mem.of L i = some o → Mem.of L' i = some o := by
  induction L with
  | nil => intro i o h; cases h
  | cons q l ih =>
    intro i o hi
    simp only [Mem.of_cons_at] at hi
    split at hi
    · rename_i e; simp only [Option.some.injEq] at hi; subst hi; subst e; exact h q List.mem_cons_self
    · exact ih (fun q hq => h q (List.mem_cons_of_mem _ hq)) i o hi
theorem fa_nil {α : Type} (p : α → Prop) : (∀ q, q ∈ ([] : List α) → p q) = True := by simp
theorem fa_cons {α : Type} (p : α → Prop) (a : α) (l : List α) : (∀ q, q ∈ (a :: l) → p q) = (p a ∧ ∀ q, q ∈ l → p q) := by simp

/-! ### names -/
theorem Oid.sub_ne_self (c i : Nat) (p : Oid) : (Oid.sub c i p = p) = False := by
  apply eq_false
  intro h
  have : (Oid.sub c i p).depth = p.depth := by rw [h]
  simp only [Oid.depth] at this; omega
theorem Oid.self_ne_sub (c i : Nat) (p : Oid) : (p = Oid.sub c i p) = False := by
  apply eq_false
  intro h
  have : p.depth = (Oid.sub c i p).depth := by rw [← h]
  simp only [Oid.depth] at this; omega
theorem Oid.sub_ne {c c' i i' : Nat} {p p' : Oid} (h : c ≠ c') : (Oid.sub c i p = Oid.sub c' i' p') = False := by
  apply eq_false; intro e; injection e with h1 _ _; exact h h1
theorem Oid.not_under_sub {p q : Oid} (h : ¬ Oid.under p q) (c i : Nat) : (q = Oid.sub c i p) = False := by
  apply eq_false; intro e; subst e; exact h (Oid.under_sub (Oid.under_refl _))
theorem Oid.sub_not_under {p q : Oid} (h : ¬ Oid.under p q) (c i : Nat) : (Oid.sub c i p = q) = False := by
  apply eq_false; intro e; subst e; exact h (Oid.under_sub (Oid.under_refl _))
theorem Oid.not_under_self {p q : Oid} (h : ¬ Oid.under p q) : (q = p) = False := by
  apply eq_false; intro e; subst e; exact h (Oid.under_refl _)
theorem Oid.self_not_under {p q : Oid} (h : ¬ Oid.under p q) : (p = q) = False := by
  apply eq_false; intro e; subst e; exact h (Oid.under_refl _)
theorem Oid.ne_false {p q : Oid} (h : p ≠ q) : (p = q) = False := eq_false h
theorem Oid.ne_false' {p q : Oid} (h : q ≠ p) : (p = q) = False := eq_false h.symm

/-! ### the unsafe builtins, bytes -/
theorem dataA_nil : dataA .nilSl = some .nilPtr := rfl
theorem dataA_sl (id : Oid) (sz n : Nat) : dataA (.sl id sz n) = gd (0 < n) (some (.aptr id sz 0 0)) := rfl
theorem strU_nil (P : Program) (m : Mem) (t : TypeId) (n : Int) : strU P m t .nilPtr (.int .i64 n) = gdR (n = 0) (.eff ⟨[], .str [], []⟩) := rfl
def strS (P : Program) (id : Oid) (sz i off : Nat) (n : Int) (o : Option AObj) (k : Option TyK) : OpR :=
  match o, k with
  | some (.arr s xs), some (.ptr e) => gdR (sz = 1 ∧ i = 0 ∧ off = 0 ∧ s = 1 ∧ id.tyd = some e ∧ shp P e = some (false, 1) ∧ 0 < xs.length ∧ n = xs.length ∧ xs.length ≤ 140737488355328 ∧ xs.all byteOK = true)
      (.eff ⟨[(id, .arr s xs)], .str (xs.map byteOf), [(id, none)]⟩)
  | _, _ => .no
theorem strU_ptr (P : Program) (m : Mem) (t : TypeId) (id : Oid) (sz i off : Nat) (n : Int) : strU P m t (.aptr id sz i off) (.int .i64 n) = strS P id sz i off n (m id) (tyk P t) := by
  simp only [strU]
  generalize m id = a
  generalize tyk P t = b
  cases a with
  | none => rfl
  | some a => cases a <;> first | rfl | (cases b with
    | none => rfl
    | some b => cases b <;> rfl)
/-- Bytes, as a row has them. -/
def byA (b : UInt8) : AV := .int .u8 b.toNat
theorem byteOK_byA (l : List UInt8) : (l.map byA).all byteOK = true := by
  rw [List.all_eq_true]; intro v hv
  obtain ⟨b, _, rfl⟩ := List.mem_map.1 hv
  have := b.toNat_lt
  show decide (b.toNat < 256) = true
  simp; omega
theorem byteOf_byA (l : List UInt8) : (l.map byA).map byteOf = l := by
  rw [List.map_map]
  have : byteOf ∘ byA = id := by funext b; simp [byteOf, byA, Int.toNat_natCast]
  rw [this, List.map_id]
def convS (P : Program) (sz : Nat) (xs : List AV) (a b : Option TyK) : Option AV :=
  match a, b with
  | some (.slice el _ _ _), some .str => gd (sz = 1 ∧ u8K (tyk P el) = true ∧ 0 < xs.length ∧ xs.all byteOK = true) (some (.str (xs.map byteOf)))
  | _, _ => none
theorem convL_list (P : Program) (src dst : TypeId) (sz : Nat) (xs : List AV) : convL P src dst (.list sz xs) = convS P sz xs (tyk P src) (tyk P dst) := by
  simp only [convL]
  generalize tyk P src = a
  generalize tyk P dst = b
  cases a with
  | none => rfl
  | some a => cases a <;> first | rfl | (cases b with
    | none => rfl
    | some b => cases b <;> rfl)
def convN (P : Program) (a b : Option TyK) : Option AV :=
  match a, b with
  | some (.slice el _ _ _), some .str => gd (u8K (tyk P el) = true) (some (.str []))
  | _, _ => none
theorem convL_nil (P : Program) (src dst : TypeId) : convL P src dst .nilSl = convN P (tyk P src) (tyk P dst) := by
  simp only [convL]
  generalize tyk P src = a
  generalize tyk P dst = b
  cases a with
  | none => rfl
  | some a => cases a <;> first | rfl | (cases b with
    | none => rfl
    | some b => cases b <;> rfl)
theorem byteOK_int (b : UInt8) : byteOK (.int .u8 (b.toNat : Int)) = true := by
  have := b.toNat_lt
  show decide (b.toNat < 256) = true
  simp; omega
theorem byteOf_int (b : UInt8) : byteOf (.int .u8 (b.toNat : Int)) = b := by simp [byteOf, Int.toNat_natCast]
attribute [go_sem] convL_list convL_nil convN convS byteOK_int byteOf_int
attribute [go_sem] dataA_nil dataA_sl strU_nil strU_ptr strS byteOK_byA byteOf_byA deleteA

/-! ### typed names -/
def nameT : Bool → Nat → Oid → Oid
  | true, t, nid => .ty t nid
  | false, _, nid => nid
theorem nameB_eq (P : Program) (t : TypeId) (nid : Oid) : nameB P t nid = nameT (isBld P t) t nid := by
  unfold nameB; cases isBld P t <;> rfl
def nameV : Bool → Option Nat → Nat → Oid → Oid
  | true, some t', t, nid => if t' = t then .ty t nid else nid
  | _, _, _, nid => nid
def nameS (P : Program) (k : Option TyK) (nid : Oid) (s : AV) : Oid :=
  match k, s with
  | some (.slice el _ _ _), .nilSl => nameT (isU8 (tyk P el)) el nid
  | some (.slice el _ _ _), .sl id _ _ => nameV (isU8 (tyk P el)) id.tyd el nid
  | _, _ => nid
theorem nameA_eq (P : Program) (t : TypeId) (nid : Oid) (s : AV) : nameA P t nid s = nameS P (tyk P t) nid s := by
  unfold nameA nameS
  split
  · rename_i el _ _ _ h
    rw [h]
    show _ = nameT (isU8 (tyk P el)) el nid
    cases isU8 (tyk P el) <;> rfl
  · rename_i el _ _ _ id _ _ h
    rw [h]
    show _ = nameV (isU8 (tyk P el)) id.tyd el nid
    cases isU8 (tyk P el) <;> cases id.tyd <;> simp [nameV]
  · rename_i h1 h2
    split
    · rename_i h; exact (h1 _ _ _ _ h rfl).elim
    · rename_i h; exact (h2 _ _ _ _ _ _ _ h rfl).elim
    · rfl
theorem tyd_root (n : Nat) : (Oid.root n).tyd = none := rfl
theorem tyd_sub (c i : Nat) (p : Oid) : (Oid.sub c i p).tyd = none := rfl
theorem tyd_ty (t : Nat) (p : Oid) : (Oid.ty t p).tyd = some t := rfl
theorem Oid.ty_ne_sub (t c i : Nat) (p q : Oid) : (Oid.ty t p = Oid.sub c i q) = False := by apply eq_false; intro e; cases e
theorem Oid.sub_ne_ty (t c i : Nat) (p q : Oid) : (Oid.sub c i q = Oid.ty t p) = False := by apply eq_false; intro e; cases e
theorem Oid.ty_ne_self (t c i : Nat) (p : Oid) : (Oid.ty t (Oid.sub c i p) = p) = False := by
  apply eq_false; intro h
  have : (Oid.ty t (Oid.sub c i p)).depth = p.depth := by rw [h]
  simp only [Oid.depth] at this; omega
theorem Oid.self_ne_ty (t c i : Nat) (p : Oid) : (p = Oid.ty t (Oid.sub c i p)) = False := by
  apply eq_false; intro h
  have : p.depth = (Oid.ty t (Oid.sub c i p)).depth := by rw [← h]
  simp only [Oid.depth] at this; omega
theorem Oid.not_under_ty {p q : Oid} (h : ¬ Oid.under p q) (t c i : Nat) : (q = Oid.ty t (Oid.sub c i p)) = False := by
  apply eq_false; intro e; subst e; exact h (.inr (Oid.under_sub (Oid.under_refl _)))
theorem Oid.ty_not_under {p q : Oid} (h : ¬ Oid.under p q) (t c i : Nat) : (Oid.ty t (Oid.sub c i p) = q) = False := by
  apply eq_false; intro e; subst e; exact h (.inr (Oid.under_sub (Oid.under_refl _)))
attribute [go_sem] nameB_eq nameT nameV nameS nameA_eq tyd_root tyd_sub tyd_ty isU8 Oid.ty_ne_sub Oid.sub_ne_ty Oid.ty_ne_self Oid.self_ne_ty Oid.not_under_ty Oid.ty_not_under Oid.ty.injEq

/-! ### lists of values -/
theorem getD_map_in {α : Type} [Inhabited α] (f : α → AV) {l : List α} {i : Nat} (h : i < l.length) (d : AV) : (l.map f).getD i d = f (l.getD i default) := by
  simp [List.getD_eq_getElem?_getD, List.getElem?_map, List.getElem?_eq_getElem h]
theorem getElem?_map_in {α : Type} [Inhabited α] (f : α → AV) {l : List α} {i : Nat} (h : i < l.length) : (l.map f)[i]? = some (f (l.getD i default)) := by
  simp [List.getD_eq_getElem?_getD, List.getElem?_map, List.getElem?_eq_getElem h]

attribute [go_sem] gd_pos gdR_pos indexA_str indexAddrA_list indexAddrA_sl indexAddrA_arr pieceA_str0 pieceA_strL pieceA_strH pieceA_strB pieceA_listL pieceA_listH pieceA_list0 pieceA_listB pieceA_slH pieceA_sl0 pieceA_nil0
  intA_add intA_sub intA_mul intA_quo intA_rem intA_and intA_or intA_xor intA_andNot intA_eql intA_neq intA_lss intA_leq intA_gtr intA_geq shiftA_shl shiftA_shr strA_add strA_eql strA_neq strA_lss strA_leq strA_gtr strA_geq
  appA_eq appS tykSz litOK zerOK ev_nil ev_one ev_guard evR_eff evR_call evR_no evG_true evG_false logE leOf fsts opL prs wantL lookN light lights dynN disjN putL putLs Mem.of_upds Mem.emp_of Mem.of_nil_at Mem.of_cons_at Oid.sub_ne Oid.not_under_sub Oid.sub_not_under Oid.not_under_self Oid.self_not_under Oid.sub_ne_self Oid.self_ne_sub Oid.sub.injEq
  getD_map_in w64 Option.isSome_some Option.isSome_none beq_self_eq_true Option.bind_some Option.bind_none Option.map_some Option.map_none Int.toNat_natCast List.length_map List.length_take List.length_drop List.length_append List.length_cons List.length_nil List.map_cons List.map_nil List.getD_cons_zero List.getD_cons_succ List.getD_nil
  List.take_succ_cons List.take_zero List.take_nil List.drop_succ_cons List.drop_zero List.drop_nil List.cons_append List.nil_append List.all_cons List.all_nil Bool.and_true Bool.true_and Bool.and_false Bool.false_and Bool.or_true Bool.true_or Bool.or_false Bool.false_or Bool.not_true Bool.not_false
  true_and and_true and_self or_true true_or or_false false_or false_and and_false eq_self List.getElem?_cons_zero List.getElem?_cons_succ List.getElem?_toArray fa_nil fa_cons resM retM tupA resOKs

theorem bt1 (b : Bool) : (b == true) = b := by cases b <;> rfl
theorem bt2 (b : Bool) : (b == false) = !b := by cases b <;> rfl
attribute [go_sem] frz frzV Mem.of_putL
attribute [go_sem] bt1 bt2 decide_true decide_false
attribute [go_sem] decide_eq_true_eq decide_eq_false_iff_not Bool.and_eq_true Bool.or_eq_true Bool.not_eq_true' Bool.not_eq_false'
/-- No literal is memory. -/
def nmd : Nat → Bool := fun _ => false
theorem nmd_at (d : Nat) : nmd d = false := rfl
/-- These literals are memory. -/
def mdl (l : List Nat) : Nat → Bool := fun d => l.contains d
attribute [go_sem] nmd_at mdl List.contains_cons List.contains_nil

theorem ik_beq (k : IntKind) : (k == k) = true := by cases k <;> rfl
attribute [go_sem] ik_beq
/-! ### bytes -/
theorem getD_in {α : Type} {l : List α} {i : Nat} (h : i < l.length) (d : α) : l.getD i d = l[i] := by
  simp [List.getD_eq_getElem?_getD, List.getElem?_eq_getElem h]
theorem u8_lit {x : UInt8} {n : Nat} (hn : n < 256) : ((x.toNat : Int) = (n : Int)) ↔ x = UInt8.ofNat n := by
  constructor
  · intro h
    apply UInt8.toNat_inj.1
    rw [UInt8.toNat_ofNat', Nat.mod_eq_of_lt (by omega)]; omega
  · rintro rfl
    rw [UInt8.toNat_ofNat', Nat.mod_eq_of_lt (by omega)]
theorem u8_eq {x y : UInt8} : ((x.toNat : Int) = (y.toNat : Int)) ↔ x = y := by
  rw [← UInt8.toNat_inj]; omega
theorem u8_le {x y : UInt8} : ((x.toNat : Int) ≤ (y.toNat : Int)) ↔ x ≤ y := by
  rw [UInt8.le_iff_toNat_le]; omega
theorem u8_lt {x y : UInt8} : ((x.toNat : Int) < (y.toNat : Int)) ↔ x < y := by
  rw [UInt8.lt_iff_toNat_lt]; omega
theorem drop_cons {α : Type} [Inhabited α] {l : List α} {i : Nat} (h : i < l.length) : l.drop i = l.getD i default :: l.drop (i + 1) := by
  rw [List.drop_eq_getElem_cons h, getD_in h]

theorem take_map_snoc {α β : Type} [Inhabited α] (f : α → β) {l : List α} {i : Nat} (h : i < l.length) : (l.take (i + 1)).map f = (l.take i).map f ++ [f (l.getD i default)] := by
  rw [List.take_succ_eq_append_getElem h, List.map_append, getD_in h]; rfl
theorem w64_u8 (x : UInt8) : IntKind.i64.wrap (x.toNat : Int) = x.toNat := by
  have := x.toNat_lt; exact w64 (by omega) (by omega)
theorem w8_u8 (x : UInt8) : IntKind.u8.wrap (x.toNat : Int) = x.toNat := by
  have := x.toNat_lt
  simp [IntKind.wrap, IntKind.bits, IntKind.signed]; omega
attribute [go_sem] w64_u8 w8_u8
theorem tmod_nat (a b : Nat) : (a : Int).tmod b = ((a % b : Nat) : Int) := by
  rw [Int.tmod_eq_emod_of_nonneg (by omega)]; rfl
theorem tdiv_nat (a b : Nat) : (a : Int).tdiv b = ((a / b : Nat) : Int) := by
  rw [Int.tdiv_eq_ediv_of_nonneg (by omega)]; rfl
theorem w8 {n : Int} (h1 : 0 ≤ n) (h2 : n ≤ 255) : IntKind.u8.wrap n = n := by
  simp [IntKind.wrap, IntKind.bits, IntKind.signed]; omega
end Go.Ab

/- Maps as lists: the entries of a map whose keys are encoded values. -/
namespace Go.Ab
variable {α : Type} [DecidableEq α]
/-- Entries in the order of their birth. -/
def esA (enc : α → AV) : List (α × AV) → Nat → List ME
  | [], _ => []
  | q :: L, i => ⟨enc q.1, q.2, i⟩ :: esA enc L (i + 1)
def hasA (L : List (α × AV)) (a : α) : Bool := L.any fun q => decide (a = q.1)
def getA (a : α) (z : AV) : List (α × AV) → AV
  | [] => z
  | q :: L => if a = q.1 then q.2 else getA a z L
def putA (a : α) (v : AV) : List (α × AV) → List (α × AV)
  | [] => [(a, v)]
  | q :: L => if a = q.1 then (q.1, v) :: L else q :: putA a v L
/-- A key's encoding tells the key. -/
def EncOK (enc : α → AV) : Prop := ∀ a b, sameK (enc a) (enc b) = decide (a = b)
variable {enc : α → AV}
omit [DecidableEq α] in
theorem esA_length : ∀ (L : List (α × AV)) i, (esA enc L i).length = L.length
  | [], _ => rfl
  | q :: L, i => by simp only [esA, List.length_cons, esA_length L (i + 1)]
theorem putA_length (a : α) (v : AV) : ∀ L : List (α × AV), (putA a v L).length = if hasA L a then L.length else L.length + 1
  | [] => rfl
  | q :: L => by
    have ih := putA_length a v L
    simp only [putA, hasA, List.any_cons] at *
    by_cases h : a = q.1
    · simp [h]
    · simp only [h, if_false, decide_false, Bool.false_or, List.length_cons, ih]; split <;> simp [*]
theorem hasE_esA (he : EncOK enc) (a : α) : ∀ (L : List (α × AV)) i, hasE (enc a) (esA enc L i) = hasA L a
  | [], _ => rfl
  | q :: L, i => by
    have ih := hasE_esA he a L (i + 1)
    simp only [hasE, lookE, esA, hasA, List.any_cons, he a] at ih ⊢
    by_cases h : a = q.1
    · simp [h]
    · simp only [h, decide_false, Bool.false_or]; exact ih
theorem valE_esA (he : EncOK enc) (a : α) (z : AV) : ∀ (L : List (α × AV)) i, valE (enc a) z (esA enc L i) = getA a z L
  | [], _ => rfl
  | q :: L, i => by
    have ih := valE_esA he a z L (i + 1)
    simp only [valE, lookE, esA, getA, he a] at ih ⊢
    by_cases h : a = q.1
    · simp [h]
    · simp only [h, decide_false, if_false]; exact ih
theorem setE_esA (he : EncOK enc) (a : α) (v : AV) : ∀ (L : List (α × AV)) (i n : Nat), n = i + L.length → setE (enc a) v n (esA enc L i) = esA enc (putA a v L) i
  | [], i, n, h => by subst h; rfl
  | q :: L, i, n, hn => by
    simp only [esA, setE, putA, he a, decide_eq_true_eq]
    by_cases h : a = q.1
    · simp [h, esA]
    · simp only [h, if_false, esA, setE_esA he a v L (i + 1) n (by rw [hn, List.length_cons]; omega)]
theorem bornOf_cons (he : EncOK enc) (a : α) (n : Nat) (q : α × AV) (L : List (α × AV)) (i : Nat) : bornOf (enc a) n (esA enc (q :: L) i) = if a = q.1 then i else bornOf (enc a) n (esA enc L (i + 1)) := by
  simp only [bornOf, lookE, esA, he a, decide_eq_true_eq]
  by_cases h : a = q.1
  · rw [if_pos h, if_pos h]
  · rw [if_neg h, if_neg h]
theorem bornOf_ge (he : EncOK enc) (a : α) (n : Nat) : ∀ (L : List (α × AV)) (i : Nat), n = i + L.length → i ≤ bornOf (enc a) n (esA enc L i)
  | [], i, h => by subst h; exact Nat.le_refl _
  | q :: L, i, h => by
    have ih := bornOf_ge he a n L (i + 1) (by rw [h, List.length_cons]; omega)
    rw [bornOf_cons he]; split
    · exact Nat.le_refl _
    · exact Nat.le_trans (Nat.le_succ _) ih
/-- The entry's place, taken for an update, is written. -/
theorem bornE_esA (he : EncOK enc) (a : α) (v u : AV) : ∀ (L : List (α × AV)) (i n : Nat), n = i + L.length → bornE (bornOf (enc a) n (esA enc L i)) u (esA enc (putA a v L) i) = esA enc (putA a u L) i
  | [], i, n, h => by subst h; simp [bornOf, lookE, esA, putA, bornE]
  | q :: L, i, n, hn => by
    have ih := bornE_esA he a v u L (i + 1) n (by rw [hn, List.length_cons]; omega)
    have hg := bornOf_ge he a n L (i + 1) (by rw [hn, List.length_cons]; omega)
    rw [bornOf_cons he]
    simp only [putA]
    by_cases h : a = q.1
    · rw [if_pos h, if_pos h, if_pos h]; simp only [esA, bornE, if_true]
    · rw [if_neg h, if_neg h, if_neg h]
      simp only [esA, bornE]
      rw [if_neg (by omega), ih]
theorem any_born (he : EncOK enc) (a : α) (v : AV) : ∀ (L : List (α × AV)) (i n : Nat), n = i + L.length → (esA enc (putA a v L) i).any (fun e => e.born == bornOf (enc a) n (esA enc L i)) = true
  | [], i, n, h => by subst h; simp [bornOf, lookE, esA, putA]
  | q :: L, i, n, hn => by
    have ih := any_born he a v L (i + 1) n (by rw [hn, List.length_cons]; omega)
    rw [bornOf_cons he]
    simp only [putA]
    by_cases h : a = q.1
    · rw [if_pos h, if_pos h]; simp [esA]
    · rw [if_neg h, if_neg h]; simp only [esA, List.any_cons, ih, Bool.or_true]
theorem getA_putA (a : α) (z v : AV) : ∀ L : List (α × AV), getA a z (putA a v L) = v
  | [] => by simp [putA, getA]
  | q :: L => by
    simp only [putA]
    by_cases h : a = q.1
    · simp [h, getA]
    · simp [h, getA, getA_putA a z v L]
end Go.Ab

/- A walk over a map: what has been seen. A range's rounds: the memory behind a round. -/
namespace Go.Ab

/-! ### numbers below n, each once -/
theorem nodup_le : ∀ (n : Nat) (l : List Nat), l.Nodup → (∀ i ∈ l, i < n) → l.length ≤ n
  | 0, [], _, _ => Nat.le_refl _
  | 0, a :: l, _, h => absurd (h a List.mem_cons_self) (Nat.not_lt_zero _)
  | n + 1, l, hd, h => by
    have h1 := nodup_le n (l.erase n) (hd.erase n) fun i hi => by
      have h2 := h i (List.mem_of_mem_erase hi)
      have h3 : i ≠ n := fun e => by subst e; exact (List.Nodup.not_mem_erase hd) hi
      omega
    have h2 : l.length ≤ (l.erase n).length + 1 := by
      rw [List.length_erase]; split <;> omega
    omega
theorem perm_range {n : Nat} {l : List Nat} (hd : l.Nodup) (h : ∀ i, i ∈ l ↔ i < n) : l.Perm (List.range n) :=
  (List.perm_ext_iff_of_nodup hd List.nodup_range).2 fun a => by rw [h a, List.mem_range]
theorem map_range_getD {α : Type} [Inhabited α] (l : List α) : (List.range l.length).map (fun i => l.getD i default) = l := by
  apply List.ext_getElem
  · simp
  · intro i h1 h2
    simp [List.getD_eq_getElem?_getD, List.getElem?_eq_getElem h2]

/-! ### the entries -/
theorem esA_mem {α : Type} {enc : α → AV} {e : ME} : ∀ {L : List (α × AV)} {k : Nat}, e ∈ esA enc L k → ∃ i q, i < L.length ∧ L[i]? = some q ∧ e = ⟨enc q.1, q.2, k + i⟩
  | [], _, h => by cases h
  | q :: L, k, h => by
    rcases List.mem_cons.1 h with rfl | h
    · exact ⟨0, q, Nat.zero_lt_succ _, rfl, rfl⟩
    · obtain ⟨i, q', h1, h2, h3⟩ := esA_mem h
      exact ⟨i + 1, q', Nat.succ_lt_succ h1, by simpa using h2, by rw [h3]; congr 1; omega⟩
theorem esA_at {α : Type} {enc : α → AV} : ∀ {L : List (α × AV)} {k i : Nat} {q : α × AV}, L[i]? = some q → ⟨enc q.1, q.2, k + i⟩ ∈ esA enc L k
  | [], _, _, _, h => by simp at h
  | a :: L, k, 0, q, h => by simp at h; subst h; exact List.mem_cons_self
  | a :: L, k, i + 1, q, h => by
    have := esA_at (enc := enc) (L := L) (k := k + 1) (i := i) (q := q) (by simpa using h)
    rw [show k + (i + 1) = k + 1 + i by omega]
    exact List.mem_cons_of_mem _ this
theorem esA_find {α : Type} {enc : α → AV} : ∀ {L : List (α × AV)} {k i : Nat} {q : α × AV}, L[i]? = some q → (esA enc L k).find? (fun e => e.born == k + i) = some ⟨enc q.1, q.2, k + i⟩
  | [], _, _, _, h => by simp at h
  | a :: L, k, 0, q, h => by
    simp at h; subst h
    simp [esA]
  | a :: L, k, i + 1, q, h => by
    have := esA_find (enc := enc) (L := L) (k := k + 1) (i := i) (q := q) (by simpa using h)
    rw [show k + 1 + i = k + (i + 1) by omega] at this
    simp only [esA, List.find?_cons]
    rw [show ((k == k + (i + 1)) = false) by simp]
    exact this

/-! ### memory that says what it holds -/
theorem callND_cons {P : Program} [Laid P] {f : FuncId} {xs : List AV} {sp : Oid → Prop} {L : List (Oid × AObj)} {R Rp : AV → List (Oid × Option AObj) → Prop} (he : entersB P f = true)
    (h : (∀ q ∈ L, Mem.of L q.1 = some q.2) → CallND P f xs sp L R Rp) : CallND P f xs sp L R Rp := by
  by_cases hc : ∀ q ∈ L, Mem.of L q.1 = some q.2
  · exact h hc
  · refine ⟨he, fun x g args w m hm hn _ _ _ => absurd (fun q hq => ?_) hc⟩
    obtain ⟨o, ho⟩ := Mem.of_some hq
    obtain ⟨q', h1, h2, h3⟩ := Mem.of_mem ho
    have h4 := hn q hq
    have h5 := hn q' h1
    rw [h2, h4, h3] at h5
    rw [ho]; exact h5.symm
/-- Behind a round: what was not the round's is as it was; what was the round's is what it says. -/
theorem yield_mem {B L L' : List (Oid × AObj)} {m : Mem} {upd : List (Oid × Option AObj)} {sp : Oid → Prop} (hU : UpdOK L sp upd L') (hL : ∀ q ∈ L, m q.1 = some q.2) (hB : ∀ q ∈ B, m q.1 = some q.2)
    (hd : ∀ q ∈ B, (∀ q' ∈ L, ¬ q'.1 = q.1) ∧ ¬ sp q.1) : ∀ q, q ∈ B ++ L' → (m.upds upd) q.1 = some q.2 := by
  intro q hq
  rcases List.mem_append.1 hq with hq | hq
  · rw [upds_nokey fun q' hq' e => ?_]
    · exact hB q hq
    · obtain ⟨h1, h2⟩ := hd q hq
      rcases hU.tou q' hq' with ⟨q2, h3, h4⟩ | h3
      · exact h1 q2 h3 (h4.trans e)
      · exact h2 (e ▸ h3)
  · exact upds_sub hL (hU.got q hq)
/-- What a list says of itself, put behind names of its own. -/
theorem cons_app {B L : List (Oid × AObj)} (hB : ∀ q ∈ B, Mem.of (B ++ L) q.1 = some q.2) (hd : ∀ q ∈ L, ∀ q' ∈ B, ¬ q.1 = q'.1) (hL : ∀ q ∈ L, Mem.of L q.1 = some q.2) : ∀ q ∈ B ++ L, Mem.of (B ++ L) q.1 = some q.2 := by
  intro q hq
  rcases List.mem_append.1 hq with hq | hq
  · exact hB q hq
  · have : ∀ (B : List (Oid × AObj)), (∀ q' ∈ B, ¬ q.1 = q'.1) → Mem.of (B ++ L) q.1 = Mem.of L q.1 := by
      intro B h
      induction B with
      | nil => rfl
      | cons b B ih => rw [List.cons_append, Mem.of_cons_at, if_neg (h b List.mem_cons_self)]; exact ih fun q' hq' => h q' (List.mem_cons_of_mem _ hq')
    rw [this B (hd q hq)]; exact hL q hq
theorem K_mem {P : Program} [Laid P] {x : Ctx} {n : Nat} {a : Code} {Q : AX → AS → Prop} {fr : List (Nat × AV)} {m : Mem} {c : Nat} {ds : List AD} (L : List (Oid × AObj)) (hm : ∀ q, q ∈ L → m q.1 = some q.2) (h : T P x n a ⟨fr, Mem.of L, c, ds⟩ Q) : T P x n a ⟨fr, m, c, ds⟩ Q :=
  K_drop (Mem.of L) (fun i o hi => by obtain ⟨q, h1, rfl, rfl⟩ := Mem.of_mem hi; exact hm q h1) h
theorem mem_sub {L : List (Oid × AObj)} {m : Mem} (hm : ∀ q, q ∈ L → m q.1 = some q.2) : ∀ i o, Mem.of L i = some o → m i = some o := fun i o hi => by
  obtain ⟨q, h1, rfl, rfl⟩ := Mem.of_mem hi; exact hm q h1
theorem of_put_at (i : Oid) (x : Option AObj) (l : List (Oid × AObj)) (j : Oid) : Mem.of (putL i x l) j = if j = i then x else Mem.of l j := by rw [← Mem.of_putL]; rfl
end Go.Ab

/- From an argument that is read whole to an abstract value; from a contract to what a row asks. -/
namespace Go.Ab
open Go.ChangeShapes Go.WideShapes

/-- What an abstract value says of a value, another one says too. -/
def AVle (a b : AV) : Prop := ∀ g v, VR g a v → VR g b v
theorem AVle.refl (a : AV) : AVle a a := fun _ _ h => h
theorem AVle.nil (sz : Nat) : AVle .nilSl (.list sz []) := fun _ _ h => by rw [h.nilSl_inv]; exact .listNil sz
inductive AVles : List AV → List AV → Prop
  | nil : AVles [] []
  | cons {a b : AV} {l m : List AV} (h : AVle a b) (t : AVles l m) : AVles (a :: l) (b :: m)
theorem AVles.length {l m : List AV} (h : AVles l m) : l.length = m.length := by
  induction h with
  | nil => rfl
  | cons _ _ ih => simp [ih]
theorem AVles.at {l m : List AV} (h : AVles l m) : ∀ j, AVle (l.getD j .undef) (m.getD j .undef) := by
  induction h with
  | nil => exact fun j => .refl _
  | cons h _ ih =>
    intro j
    cases j with
    | zero => exact h
    | succ j => simpa using ih j
theorem AVle.agg {l m : List AV} (h : AVles l m) : AVle (.agg l) (.agg m) := fun g v hv => by
  obtain ⟨a, rfl, h1, h2⟩ := hv.agg_inv
  exact .agg _ _ (h1.trans h.length) fun j hj => h.at j _ _ (h2 j (by rw [h.length]; exact hj))
/-- Cell by cell. -/
def ACle (a b : AV) : Prop := AVles a.cells b.cells
theorem ACle.agg {l m : List AV} (h : AVles l m) : ACle (.agg l) (.agg m) := h
inductive ACles : List AV → List AV → Prop
  | nil : ACles [] []
  | cons {a b : AV} {l m : List AV} (h : ACle a b) (t : ACles l m) : ACles (a :: l) (b :: m)
theorem ACles.length {l m : List AV} (h : ACles l m) : l.length = m.length := by
  induction h with
  | nil => rfl
  | cons _ _ ih => simp [ih]
theorem ACles.at {l m : List AV} (h : ACles l m) : ∀ j, ACle (l.getD j .undef) (m.getD j .undef) := by
  induction h with
  | nil => exact fun j => .cons (.refl _) .nil
  | cons h _ ih =>
    intro j
    cases j with
    | zero => exact h
    | succ j => simpa using ih j
theorem AVle.list {sz : Nat} {l m : List AV} (h : ACles l m) : AVle (.list sz l) (.list sz m) := fun g v hv => by
  rcases hv.list_inv with ⟨rfl, hu | ⟨a, cap, hu⟩⟩ | ⟨b, o, cap, cs, hu, h1, h2, h3, h4⟩
  · cases h; rw [hu]; exact .listNil _
  · cases h; rw [hu]; exact .listAny _ _ _
  · rw [hu, h.length]
    have hl := h.length
    exact .list sz m b o cap cs (by omega) (fun i hi => by have := (h.at i).length; have := h2 i (by omega); omega) (fun i j hi hj => h3 i j (by omega) hj) fun i j hi hj => (h.at i).at j _ _ (h4 i j (by omega) hj)
theorem VRs.weak {g : Gh} {xs ys : List AV} {a : Array Value} (h : VRs g xs a) (k : AVles xs ys) : VRs g ys a := ⟨h.1.trans k.length, fun j hj => k.at j _ _ (h.2 j (by rw [k.length]; exact hj))⟩
theorem CallOK.weak {P : Program} [Laid P] {f : FuncId} {xs ys : List AV} {sp : Oid → Prop} {e : Eff} (h : CallOK P f ys sp e) (k : AVles xs ys) : CallOK P f xs sp e :=
  ⟨h.enters, fun x g args w m h1 h2 h3 => h.calls x g args w m h1 h2 (h3.weak k)⟩
theorem CallND.weak {P : Program} [Laid P] {f : FuncId} {xs ys : List AV} {sp : Oid → Prop} {need : List (Oid × AObj)} {R Rp : AV → List (Oid × Option AObj) → Prop} (h : CallND P f ys sp need R Rp) (k : AVles xs ys) : CallND P f xs sp need R Rp :=
  ⟨h.enters, fun x g args w m h1 h2 h3 => h.calls x g args w m h1 h2 (h3.weak k)⟩

/-! ### the reading of arguments -/
/-- The ghost of a world in which everything is for good. -/
def ghAll (ng : Nat) (w : World) : Gh :=
  ⟨fun i => match i with | .root k => if k < ng then some (some k) else none | .sub .. => none | .ty .. => none,
    fun b o => match w.cell? ⟨b, o, none⟩ with | some v => if v.oneCell' = true then some v else none | none => none, fun b => match w.heap[b]? with | some (.cells c _ _) => some c.size | _ => none⟩
theorem ghAll_com {ng : Nat} {w : World} {b o : Nat} {v : Value} (h : w.cell? ⟨b, o, none⟩ = some v) (hv : v.oneCell' = true) : (ghAll ng w).com b o = some v := by
  simp only [ghAll, h, hv, if_true]
theorem ghAll_com' {ng : Nat} {w : World} {b o : Nat} {v : Value} (h : (ghAll ng w).com b o = some v) : w.cell? ⟨b, o, none⟩ = some v ∧ v.oneCell' = true := by
  simp only [ghAll] at h
  split at h
  · rename_i u hu
    split at h
    · rename_i h1; cases h; exact ⟨hu, h1⟩
    · cases h
  · cases h
theorem memRel_all (ng : Nat) (w : World) : MemRel ⟨ng, ghAll ng w, w, fun _ => False, .root ng, none⟩ (ghAll ng w) Mem.emp w where
  le := Gh.le_refl _
  locs _ _ := rfl
  glob k hk := by simp [ghAll, hk]
  coms _ _ _ h := .inl h
  obj0 _ _ h := by cases h
  inj _ _ _ _ _ h := by cases h
  com _ _ _ h := (ghAll_com' h).1
  one _ _ _ h := (ghAll_com' h).2
  rows b r h := by
    simp only [ghAll] at h
    split at h
    · rename_i c t fz hc; simp only [Option.some.injEq] at h; exact ⟨c, t, fz, hc, h⟩
    · cases h
  os := rfl
  tape := rfl
  output := ⟨rfl, fun _ => Nat.le_refl _⟩
  size := Nat.le_refl _
  kept _ _ _ := rfl
  typs _ _ _ h := by cases h

/-- What a value of type t reads as. -/
structure Rd (P : Program) (t : TypeId) {α : Type} (A : α → AV) (V : α → Prop) : Prop where
  len : ∀ a, (A a).cells.length = P.cellsOf t
  rd : ∀ {H : Type} {enc : TypeId × Value → H} {w : World} {ng base fuel : Nat} {spare : Nat → Bool} {held : Bool} {cs : List Value} {x : DataW H × List MemPlace}, DataW.trod enc P w base spare held fuel t cs = some x →
    (∀ n ∈ x.1.weights P t, n ≤ reachBytes) → ∃ a : α, V a ∧ cs.length = P.cellsOf t ∧ ∀ j, j < cs.length → (cs.getD j undef).oneCell' = true ∧ VR (ghAll ng w) ((A a).cells.getD j .undef) (cs.getD j undef)
section
variable {P : Program} [Laid P] {t : TypeId} {α β : Type} {A : α → AV} {V : α → Prop}
theorem Rd.map {B : β → AV} {W : β → Prop} (h : Rd P t A V) (f : α → β) (hA : ∀ a, V a → A a = B (f a)) (hl : ∀ b, (B b).cells.length = P.cellsOf t) (hV : ∀ a, V a → W (f a)) : Rd P t B W :=
  ⟨hl, fun {H enc w ng base fuel spare held cs x} h1 h2 => by
    obtain ⟨a, k1, k2, k3⟩ := h.rd (ng := ng) h1 h2
    exact ⟨f a, hV a k1, k2, by rw [← hA a k1]; exact k3⟩⟩
theorem rd_one {a : AV} {v : Value} {g : Gh} (hc : a.cells = [a]) (hv : VR g a v) (h1 : v.oneCell' = true) : ∀ j, j < [v].length → (([v] : List Value).getD j undef).oneCell' = true ∧ VR g (a.cells.getD j .undef) (([v] : List Value).getD j undef) := by
  intro j hj
  obtain rfl : j = 0 := by simp at hj; exact hj
  rw [hc]; exact ⟨h1, hv⟩
theorem rd_bool (ht : P.underlying t = some .bool) (hc : P.cellsOf t = 1) : Rd P t AV.bool (fun _ => True) :=
  ⟨fun _ => hc.symm, fun h _ => by
    obtain ⟨b, rfl, rfl⟩ := DataW.trod_bool ht h
    exact ⟨b, trivial, hc.symm, rd_one rfl (.bool b) rfl⟩⟩
theorem rd_int {k : IntKind} (ht : P.underlying t = some (.int k)) (hc : P.cellsOf t = 1) : Rd P t (AV.int k) (fun n => (Lit.int k n).wf = true) :=
  ⟨fun _ => hc.symm, fun h _ => by
    obtain ⟨n, rfl, rfl, hw⟩ := DataW.trod_int ht h
    exact ⟨n, hw, hc.symm, rd_one rfl (.int k n) rfl⟩⟩
theorem rd_u8 (ht : P.underlying t = some (.int .u8)) (hc : P.cellsOf t = 1) : Rd P t (fun b : UInt8 => AV.int .u8 b.toNat) (fun _ => True) :=
  (rd_int ht hc).map (fun n => UInt8.ofNat n.toNat) (fun n hn => by
    have h1 : 0 ≤ n ∧ n ≤ 255 := by simpa [Lit.wf, IntKind.min, IntKind.max, IntKind.signed, IntKind.bits] using hn
    show AV.int .u8 n = AV.int .u8 _
    congr 1
    rw [UInt8.toNat_ofNat', Nat.mod_eq_of_lt (by omega)]; omega) (fun _ => hc.symm) (fun _ _ => trivial)
theorem rd_str (ht : P.underlying t = some .string) (hc : P.cellsOf t = 1) : Rd P t AV.str (fun s => s.length ≤ reachBytes) :=
  ⟨fun _ => hc.symm, fun h hw => by
    obtain ⟨s, rfl, rfl, _⟩ := DataW.trod_string ht h
    exact ⟨s.data.toList, hw _ (by simp [DataW.weights]), hc.symm, rd_one rfl (.str _ _ rfl) rfl⟩⟩
theorem mem_weightsAll {H : Type} {e : TypeId} {n : Nat} : ∀ {l : List (DataW H)} {d : DataW H}, d ∈ l → n ∈ d.weights P e → n ∈ DataW.weightsAll P e l
  | [], _, h, _ => by cases h
  | x :: l, d, h, hn => by
    rw [DataW.weightsAll]
    rcases List.mem_cons.1 h with rfl | h
    · exact List.mem_append_left _ hn
    · exact List.mem_append_right _ (mem_weightsAll h hn)
theorem choose_list {p : Nat → α → Prop} : ∀ (n : Nat), (∀ i, i < n → ∃ a, p i a) → ∃ l : List α, l.length = n ∧ ∀ i, i < n → ∃ a, l[i]? = some a ∧ p i a
  | 0, _ => ⟨[], rfl, fun i hi => absurd hi (Nat.not_lt_zero _)⟩
  | n + 1, h => by
    obtain ⟨l, h1, h2⟩ := choose_list n fun i hi => h i (Nat.lt_succ_of_lt hi)
    obtain ⟨a, ha⟩ := h n (Nat.lt_succ_self _)
    refine ⟨l ++ [a], by simp [h1], fun i hi => ?_⟩
    by_cases e : i < n
    · obtain ⟨b, hb, hp⟩ := h2 i e
      exact ⟨b, by rw [List.getElem?_append_left (by omega)]; exact hb, hp⟩
    · obtain rfl : i = n := by omega
      exact ⟨a, by rw [List.getElem?_append_right (by omega), h1, Nat.sub_self]; rfl, ha⟩
theorem mapM_at {β : Type} {f : Nat → Option β} : ∀ {l : List Nat} {r : List β}, l.mapM f = some r → r.length = l.length ∧ ∀ i, i < l.length → f (l.getD i 0) = r[i]?
  | [], r, h => by simp at h; subst h; exact ⟨rfl, fun i hi => absurd hi (Nat.not_lt_zero _)⟩
  | x :: l, r, h => by
    simp only [List.mapM_cons, Option.bind_eq_bind, Option.bind_eq_some_iff] at h
    obtain ⟨y, hy, ys, hys, e⟩ := h
    cases e
    obtain ⟨h1, h2⟩ := mapM_at hys
    refine ⟨by simp [h1], fun i hi => ?_⟩
    cases i with
    | zero => simpa using hy
    | succ i => simpa using h2 i (by simpa using hi)
theorem cells?_at {w : World} {base n : Nat} {a : Addr} {cs : List Value} (h : w.cells? base a n = some cs) : cs.length = n ∧ ∀ j, j < n → w.cell? (a.add j) = cs[j]? := by
  unfold World.cells? at h
  split at h
  · obtain ⟨h1, h2⟩ := mapM_at h
    rw [List.length_range] at h1
    refine ⟨h1, fun j hj => ?_⟩
    have := h2 j (by simpa using hj)
    rwa [List.getD_eq_getElem?_getD, List.getElem?_range hj] at this
  · cases h
theorem spot_none {w : World} {a : Addr} {v : Value} (h : w.cell? a = some v) : a.spot = none := by
  unfold World.cell? at h
  split at h
  · split at h
    · cases h
    · rename_i e; simpa using e
  · cases h
theorem addr_spot {a : Addr} (h : a.spot = none) (n : Nat) : a.add n = ⟨a.block, a.off + n, none⟩ := by
  unfold Addr.add
  split
  · rename_i e; subst e; cases a; simp_all
  · rfl
theorem rd_slice {e : TypeId} (ht : P.underlying t = some (.slice e)) (hc : P.cellsOf t = 1) (hp : 0 < P.cellsOf e) (hE : Rd P e A V) : Rd P t (fun l : List α => .list (P.cellsOf e) (l.map A)) (fun l => l.length * P.bytesOf e ≤ reachBytes ∧ ∀ a ∈ l, V a) :=
  ⟨fun _ => hc.symm, fun {H enc w ng base fuel spare held cs x} h hw => by
    rcases DataW.trod_slice ht h with ⟨rfl, rfl⟩ | ⟨a, len, cap, elems, rest, n, _, rfl, rfl, hb, hl, hm, hlen, hel, _, _⟩
    · exact ⟨[], ⟨by simp, fun _ h => by cases h⟩, hc.symm, rd_one rfl (.listNil _) rfl⟩
    simp only [DataW.weights, ht, List.mem_cons, List.mem_append] at hw
    have hwt := hw _ (.inl rfl)
    simp only [List.length_map] at hwt
    have key : ∀ i, i < len → ∃ (y : α × (Nat → Value)), V y.1 ∧ ∀ j, j < P.cellsOf e → w.cell? ((a.add (i * P.cellsOf e)).add j) = some (y.2 j) ∧ (y.2 j).oneCell' = true ∧ VR (ghAll ng w) ((A y.1).cells.getD j .undef) (y.2 j) := by
      intro i hi
      have h1 := hel i hi
      rw [List.getElem?_eq_getElem (by omega)] at h1
      simp only [Option.bind_eq_some_iff] at h1
      obtain ⟨cs', h2, h3⟩ := h1
      obtain ⟨h4, h5⟩ := cells?_at h2
      obtain ⟨y, k1, k2, k3⟩ := hE.rd (ng := ng) h3 fun m hm => hw m (.inr (.inl (mem_weightsAll (List.mem_map.2 ⟨_, List.getElem_mem (by omega : i < elems.length), rfl⟩) hm)))
      refine ⟨(y, fun j => cs'.getD j undef), k1, fun j hj => ⟨?_, k3 j (by omega)⟩⟩
      show _ = some (cs'.getD j undef)
      rw [h5 j hj, List.getD_eq_getElem?_getD, List.getElem?_eq_getElem (by omega)]; rfl
    obtain ⟨l, hl1, hl2⟩ := choose_list len key
    have hsp : 0 < len → a.spot = none := fun h0 => by
      obtain ⟨y, _, _, h2⟩ := hl2 0 h0
      have h3 := spot_none (h2 0 hp).1
      simpa [Addr.add] using h3
    refine ⟨l.map (·.1), ⟨?_, fun b hb => ?_⟩, hc.symm, rd_one rfl ?_ rfl⟩
    · rw [List.length_map, hl1]
      exact Nat.le_trans (Nat.mul_le_mul_right _ (by omega)) hwt
    · obtain ⟨y, hy, rfl⟩ := List.mem_map.1 hb
      obtain ⟨i, hi, e1⟩ := List.getElem_of_mem hy
      obtain ⟨z, hz, h1, _⟩ := hl2 i (by omega)
      rw [List.getElem?_eq_getElem hi, e1] at hz
      cases hz; exact h1
    · by_cases h0 : len = 0
      · subst h0
        obtain rfl := List.eq_nil_of_length_eq_zero hl1
        exact .listAny _ _ _
      have hs := hsp (by omega)
      have e1 : ((l.map (·.1)).map A).length = len := by simp [hl1]
      have hat : ∀ i, i < len → ∃ y : α × (Nat → Value), ((l.map (·.1)).map A).getD i .undef = A y.1 ∧ (l.getD i (y.1, fun _ => undef)).2 = y.2 ∧ (∀ j, j < P.cellsOf e → w.cell? ((a.add (i * P.cellsOf e)).add j) = some (y.2 j) ∧ (y.2 j).oneCell' = true ∧ VR (ghAll ng w) ((A y.1).cells.getD j .undef) (y.2 j)) := by
        intro i hi
        obtain ⟨y, hy, _, h2⟩ := hl2 i hi
        refine ⟨y, ?_, ?_, h2⟩
        · simp [List.getD_eq_getElem?_getD, hy]
        · simp [List.getD_eq_getElem?_getD, hy]
      have := VR.list (g := ghAll ng w) (P.cellsOf e) ((l.map (·.1)).map A) a.block a.off cap (fun i j => (match l[i]? with | some y => y.2 | none => fun _ => undef) j) (by omega)
        (fun i hi => by
          obtain ⟨y, h1, _⟩ := hat i (by omega)
          rw [h1]; exact hE.len _)
        (fun i j hi hj => by
          obtain ⟨y, hy, _, h2⟩ := hl2 i (by omega)
          simp only [hy]
          obtain ⟨h3, h4, _⟩ := h2 j hj
          rw [addr_spot hs, addr_spot rfl] at h3
          exact ghAll_com h3 h4)
        (fun i j hi hj => by
          obtain ⟨y, hy, _, h2⟩ := hl2 i (by omega)
          simp only [hy, List.getD_eq_getElem?_getD, List.getElem?_map, Option.map_some, Option.getD_some]
          have h5 := (h2 j hj).2.2
          rwa [List.getD_eq_getElem?_getD] at h5)
      rw [e1] at this
      have ea : a = ⟨a.block, a.off, none⟩ := by cases a; simp_all
      rw [ea]; exact this⟩
end
/-- A struct's fields, one by one. -/
structure RdF (P : Program) (fs : List Field) (off tot : Nat) {β : Type} (B : β → List AV) (W : β → Prop) : Prop where
  len : ∀ b, (B b).length = tot
  rd : ∀ {H : Type} {enc : TypeId × Value → H} {w : World} {ng base fuel : Nat} {spare : Nat → Bool} {held : Bool} {cs : List Value} {xs : List (DataW H × List MemPlace)}, xs.length = fs.length →
    (∀ (i : Nat) (f : Field), fs[i]? = some f → DataW.trod enc P w base spare held fuel f.type ((cs.drop f.offset).take (P.cellsOf f.type)) = xs[i]?) → (∀ n ∈ DataW.weightsEach P (fs.map (·.type)) (xs.map (·.1)), n ≤ reachBytes) → cs.length = off + tot →
    ∃ b : β, W b ∧ ∀ j, j < tot → (cs.getD (off + j) undef).oneCell' = true ∧ VR (ghAll ng w) ((B b).getD j .undef) (cs.getD (off + j) undef)
section
variable {P : Program} [Laid P] {t : TypeId} {α β : Type} {A : α → AV} {V : α → Prop}
theorem rdF_nil (off : Nat) : RdF P [] off 0 (fun _ : Unit => []) (fun _ => True) := ⟨fun _ => rfl, fun _ _ _ _ => ⟨(), trivial, fun j hj => absurd hj (Nat.not_lt_zero _)⟩⟩
theorem rdF_cons {f : Field} {fs : List Field} {off tot : Nat} {B : β → List AV} {W : β → Prop} (ho : f.offset = off) (hA : Rd P f.type A V) (hB : RdF P fs (off + P.cellsOf f.type) tot B W) :
    RdF P (f :: fs) off (P.cellsOf f.type + tot) (fun p : α × β => (A p.1).cells ++ B p.2) (fun p => V p.1 ∧ W p.2) :=
  ⟨fun p => by rw [List.length_append, hA.len, hB.len], fun {H enc w ng base fuel spare held cs xs} hx hf hw hl => by
    match xs, hx with
    | x :: xs, hx =>
      have h0 := hf 0 f rfl
      simp only [List.getElem?_cons_zero] at h0
      simp only [List.map_cons, DataW.weightsEach, List.mem_append] at hw
      obtain ⟨a, k1, k2, k3⟩ := hA.rd (ng := ng) h0 fun n hn => hw n (.inl hn)
      obtain ⟨b, k4, k5⟩ := hB.rd (ng := ng) (cs := cs) (xs := xs) (by simpa using hx) (fun i f' hi => by simpa using hf (i + 1) f' (by simpa using hi)) (fun n hn => hw n (.inr hn)) (by omega)
      refine ⟨(a, b), ⟨k1, k4⟩, fun j hj => ?_⟩
      have hla := hA.len a
      by_cases e : j < P.cellsOf f.type
      · have := k3 j (by rw [k2]; exact e)
        have e1 : ((cs.drop f.offset).take (P.cellsOf f.type)).getD j undef = cs.getD (off + j) undef := by
          simp [List.getD_eq_getElem?_getD, List.getElem?_take, e, List.getElem?_drop, ho]
        rw [e1] at this
        have e2 : ((A a).cells ++ B b).getD j .undef = (A a).cells.getD j .undef := by
          simp [List.getD_eq_getElem?_getD, List.getElem?_append_left (by omega : j < (A a).cells.length)]
        show _ ∧ VR _ (((A a).cells ++ B b).getD j .undef) _
        rw [e2]; exact this
      · have := k5 (j - P.cellsOf f.type) (by omega)
        rw [show off + P.cellsOf f.type + (j - P.cellsOf f.type) = off + j by omega] at this
        have e2 : ((A a).cells ++ B b).getD j .undef = (B b).getD (j - P.cellsOf f.type) .undef := by
          simp [List.getD_eq_getElem?_getD, List.getElem?_append_right (by omega : (A a).cells.length ≤ j), hla]
        show _ ∧ VR _ (((A a).cells ++ B b).getD j .undef) _
        rw [e2]; exact this⟩
theorem rd_struct {fs : Array Field} {tot : Nat} {B : β → List AV} {W : β → Prop} (ht : P.underlying t = some (.struct fs)) (hc : P.cellsOf t = tot) (hF : RdF P fs.toList 0 tot B W) : Rd P t (fun b => .agg (B b)) W :=
  ⟨fun b => (hF.len b).trans hc.symm, fun {H enc w ng base fuel spare held cs x} h hw => by
    obtain ⟨xs, n, _, rfl, hl, hlen, hf⟩ := DataW.trod_struct ht h
    simp only [DataW.weights, ht] at hw
    obtain ⟨b, k1, k2⟩ := hF.rd (ng := ng) (xs := xs) (by simpa using hlen) (fun i f hi => hf i f (by simpa using hi)) hw (by omega)
    refine ⟨b, k1, hl, fun j hj => ?_⟩
    have := k2 j (by omega)
    rwa [Nat.zero_add] at this⟩

/-- An argument. -/
theorem Rd.arg_one (h : Rd P t A V) (hc : P.cellsOf t = 1) {H : Type} {enc : TypeId × Value → H} {w : World} {ng base : Nat} {spare : Nat → Bool} {held : Bool} {v : Value} {d : DataW H} {ps : List MemPlace} (hone : v.oneCell' = true)
    (hA : ∀ a, V a → (A a).cells = [A a]) (hd : DataW.Trod enc P w base spare held t v d ps) (hw : ∀ n ∈ d.weights P t, n ≤ reachBytes) : ∃ a, V a ∧ VR (ghAll ng w) (A a) v := by
  obtain ⟨fuel, hd⟩ := hd
  obtain ⟨a, k1, k2, k3⟩ := h.rd (ng := ng) hd hw
  refine ⟨a, k1, ?_⟩
  have e : v.cells.toList = [v] := by cases v <;> first | rfl | (simp [Value.oneCell'] at hone)
  rw [e] at k3
  have := (k3 0 (by simp)).2
  rwa [hA a k1] at this
theorem Rd.arg_agg {B : β → List AV} {W : β → Prop} (h : Rd P t (fun b => .agg (B b)) W) {H : Type} {enc : TypeId × Value → H} {w : World} {ng base : Nat} {spare : Nat → Bool} {held : Bool} {cs : Array Value} {d : DataW H} {ps : List MemPlace}
    (hd : DataW.Trod enc P w base spare held t (.agg cs) d ps) (hw : ∀ n ∈ d.weights P t, n ≤ reachBytes) : ∃ b, W b ∧ VR (ghAll ng w) (.agg (B b)) (.agg cs) := by
  obtain ⟨fuel, hd⟩ := hd
  obtain ⟨b, k1, k2, k3⟩ := h.rd (ng := ng) hd hw
  refine ⟨b, k1, .agg _ _ ?_ fun j hj => ?_⟩
  · have := h.len b
    simp only [Value.cells, Array.length_toList] at k2
    simp only [AV.cells] at this
    omega
  · have hl := h.len b
    simp only [AV.cells] at hl
    have := (k3 j (by rw [k2]; omega)).2
    simp only [Value.cells, AV.cells] at this
    simpa [List.getD_eq_getElem?_getD, Array.getD_eq_getD_getElem?] using this

/-! ### what a row asks -/
theorem trodAll_carry {H : Type} {enc : TypeId × Value → H} {w w' : World} {base : Nat} {spare' : Nat → Bool} (hl : laidOutB P = true) (hz : ∀ t e, t < P.types.size → P.underlying t = some (.slice e) → 0 < P.cellsOf e) :
    ∀ {ts : List TypeId} {vs : List Value} {ds : List (DataW H)} {ps : List MemPlace}, (∀ t ∈ ts, P.readableRec t = true ∧ t < P.types.size) → DataW.TrodAll enc P w base (fun _ => true) true ts vs ds ps → (∀ p ∈ ps, w.sameAt w' p) → (∀ p ∈ ps, spare' p.block = true) →
      DataW.TrodAll enc P w' base spare' true ts vs ds ps
  | [], [], [], _, _, h, _, _ => h
  | t :: ts, v :: vs, d :: ds, ps, hr, ⟨p, q, h1, h2, e⟩, hs, hsp => by
    have ht := hr t List.mem_cons_self
    refine ⟨p, q, ?_, trodAll_carry hl hz (fun t ht => hr t (List.mem_cons_of_mem _ ht)) h2 (fun x hx => hs x (by rw [e]; exact List.mem_append_right _ hx)) (fun x hx => hsp x (by rw [e]; exact List.mem_append_right _ hx)), e⟩
    have h3 : DataW.Trod enc P w base spare' true t v d p := h1.respare (kids_book hl ht.1) (fun u e' hu => hz u e' hu.1) ⟨ht.2, book_self t⟩ fun x hx => hsp x (by rw [e]; exact List.mem_append_left _ hx)
    obtain ⟨n, hn⟩ := h3
    exact ⟨n, DataW.trod_carry n _ _ _ hn fun x hx => hs x (by rw [e]; exact List.mem_append_left _ hx)⟩
theorem law_post {H : Type} {enc : TypeId × Value → H} {f : FuncId} {fn : Func} {s : ChangeSpec} {tb : TypeId} (hl : laidOutB P = true) (hz : ∀ t e, t < P.types.size → P.underlying t = some (.slice e) → 0 < P.cellsOf e) (hr : ∀ t ∈ fn.params.toList, P.readableRec t = true ∧ t < P.types.size)
    (hrt : fn.resultTypes = #[tb]) (htb : P.underlying tb = some .bool) (hv : s.vars = []) {W : World} {args : Array Value} {ds gs : List (DataW H)} {before : List MemPlace} (hW : DataW.Whole enc P fn.params.toList s.vars false W args.toList ds gs before)
    (hfn : s.fn H ds = { results := [.lit (.bool true)], args := ds }) {avs : List AV} (ha : VRs (ghAll P.globals.size W) avs args) (hcall : CallOK P f avs (Oid.under (.root P.globals.size)) ⟨[], .bool true, []⟩) (hLaid : Laid.facts P (ghAll P.globals.size W)) :
    Calls P f args W fun e W' => ∃ v, e = .returned v ∧ s.post enc P fn false true false false W args v W' := by
  refine (hcall.calls ⟨P.globals.size, ghAll P.globals.size W, W, fun _ => False, .root P.globals.size, none⟩ _ args W Mem.emp (memRel_all _ _) (fun q hq => by cases hq) ha (fun i hi => ⟨?_, hi⟩) ⟨Nat.le_refl _, hLaid⟩).mono ?_
  · cases i with
    | root k =>
      simp only [Oid.under, Oid.root.injEq] at hi
      subst hi
      simp [ghAll]
    | sub => rfl
    | ty => rfl
  rintro en W' ⟨g', v, rfl, hle, hloc, hvr, hm⟩
  obtain rfl := hvr.bool_inv
  refine ⟨_, rfl, ?_⟩
  have hW0 := hW
  obtain ⟨p, q, hA, hV, rfl, hfz, hnd⟩ := hW
  rw [hv] at hV
  obtain ⟨rfl, rfl⟩ := trodVars_none hV
  rw [List.append_nil] at hW0 hfz
  have hsame : ∀ p' ∈ p, W.sameAt W' p' := fun p' hp' => by
    have hlt := hW0.lt p' hp'
    have hh := hm.kept p'.block hlt (fun h => h)
    cases p' with
    | cell b o => simp only [World.sameAt, World.cell?]; simp only [MemPlace.block] at hh; rw [hh]
    | map b => exact hh
  have hargs : ∀ sp : Nat → Bool, (∀ p' ∈ p, sp p'.block = true) → DataW.TrodAll enc P W' 0 sp true fn.params.toList args.toList ds p := fun sp hsp => trodAll_carry hl hz hr hA hsame hsp
  have hres : ∀ (b : Nat) (sp : Nat → Bool) (hd : Bool), DataW.TrodAll enc P W' b sp hd fn.resultTypes.toList ((Value.bool true).resultList fn.resultTypes.size) [.lit (.bool true)] [] := by
    intro b sp hd
    rw [hrt]
    exact ⟨[], [], RowKit.shut_bool htb _, rfl, rfl⟩
  have hold : ∀ p' ∈ p, (fun b => decide (b < W.heap.size)) p'.block = true := fun p' hp' => by simpa using hW0.lt p' hp'
  refine ⟨ds, [], p, [], p, [], hW0, by rw [List.append_nil, hfn]; exact hres _ _ _, by rw [List.append_nil, hfn]; exact hargs _ hold, by rw [hv, List.append_nil, hfn]; exact rfl, ?_, fun h => by cases h⟩
  exact World.keptBut_mono (fun p' hp' => hp'.elim) (may := fun _ => False) ⟨hm.os, hm.output.1, fun i hi => by
    have hk : W'.heap[i]? = W.heap[i]? := hm.kept i hi (fun h => h)
    rw [hk]
    exact (World.keptBut_refl W (fun _ => False)).2.2 i hi⟩

/-- The arguments, one by one. -/
structure RdA (P : Program) (ts : List TypeId) {β : Type} (B : β → List AV) (W : β → Prop) : Prop where
  rd : ∀ {H : Type} {enc : TypeId × Value → H} {w : World} {ng base b0 : Nat} {r : Reach} {vs : List Value} {ds : List (DataW H)} {ps : List MemPlace}, (∀ (j : Nat) t v, ts[j]? = some t → vs[j]? = some v → Value.okWide P w r base t v) →
    DataW.TrodAll enc P w b0 (fun _ => true) true ts vs ds ps → (∀ n ∈ DataW.weightsEach P ts ds, n ≤ reachBytes) → ∃ b, W b ∧ vs.length = (B b).length ∧ ∀ j, j < vs.length → VR (ghAll ng w) ((B b).getD j .undef) (vs.getD j undef)
theorem okWide_slice {w : World} {r : Reach} {base : Nat} {e : TypeId} {v : Value} (ht : P.underlying t = some (.slice e)) (h : Value.okWide P w r base t v) : v.oneCell' = true := by
  simp only [Value.okWide, ht, Cell.okWide, Cell.ok] at h
  cases v <;> first | rfl | exact h.elim
theorem okWide_int {w : World} {r : Reach} {base : Nat} {k : IntKind} {v : Value} (ht : P.underlying t = some (.int k)) (h : Value.okWide P w r base t v) : v.oneCell' = true := by
  simp only [Value.okWide, ht, Cell.okWide, Cell.ok] at h
  cases v <;> first | rfl | exact h.elim
theorem okWide_bool {w : World} {r : Reach} {base : Nat} {v : Value} (ht : P.underlying t = some .bool) (h : Value.okWide P w r base t v) : v.oneCell' = true := by
  simp only [Value.okWide, ht, Cell.okWide, Cell.ok] at h
  cases v <;> first | rfl | exact h.elim
theorem okWide_str {w : World} {r : Reach} {base : Nat} {v : Value} (ht : P.underlying t = some .string) (h : Value.okWide P w r base t v) : v.oneCell' = true := by
  simp only [Value.okWide, ht, Cell.okWide, Cell.ok] at h
  cases v <;> first | rfl | exact h.elim
theorem okWide_struct {w : World} {r : Reach} {base : Nat} {fs : Array Field} {v : Value} (ht : P.underlying t = some (.struct fs)) (h : Value.okWide P w r base t v) : ∃ cs, v = .agg cs := by
  simp only [Value.okWide, ht] at h
  obtain ⟨cs, h, _⟩ := h
  exact ⟨cs, h⟩
theorem rdA_nil : RdA P [] (fun _ : Unit => []) (fun _ => True) := ⟨fun {H enc w ng base b0 r vs ds ps} _ h _ => by
  obtain ⟨rfl, rfl, rfl⟩ := trodAll_nil h
  exact ⟨(), trivial, rfl, fun j hj => absurd hj (Nat.not_lt_zero _)⟩⟩
theorem rdA_cons {ts : List TypeId} {B : β → List AV} {W : β → Prop} (k : ∀ {H : Type} {enc : TypeId × Value → H} {w : World} {ng base b0 : Nat} {r : Reach} {v : Value} {d : DataW H} {ps : List MemPlace}, Value.okWide P w r base t v →
    DataW.Trod enc P w b0 (fun _ => true) true t v d ps → (∀ n ∈ d.weights P t, n ≤ reachBytes) → ∃ a, V a ∧ VR (ghAll ng w) (A a) v) (hB : RdA P ts B W) : RdA P (t :: ts) (fun p : α × β => A p.1 :: B p.2) (fun p => V p.1 ∧ W p.2) :=
  ⟨fun {H enc w ng base b0 r vs ds ps} hok h hw => by
    obtain ⟨v, vs', d, ds', p, q, rfl, rfl, rfl, h1, h2⟩ := trodAll_cons h
    simp only [DataW.weightsEach, List.mem_append] at hw
    obtain ⟨a, k1, k2⟩ := k (ng := ng) (hok 0 t v rfl rfl) h1 fun n hn => hw n (.inl hn)
    obtain ⟨b, k3, k4, k5⟩ := hB.rd (ng := ng) (fun j t v ht hv => hok (j + 1) t v ht hv) h2 fun n hn => hw n (.inr hn)
    refine ⟨(a, b), ⟨k1, k3⟩, by simp [k4], fun j hj => ?_⟩
    cases j with
    | zero => exact k2
    | succ j => simpa using k5 j (by simpa using hj)⟩
theorem rdA_slice {ts : List TypeId} {B : β → List AV} {W : β → Prop} {e : TypeId} (ht : P.underlying t = some (.slice e)) (hc : P.cellsOf t = 1) (hA1 : ∀ a, (A a).cells = [A a]) (hA : Rd P t A V) (hB : RdA P ts B W) : RdA P (t :: ts) (fun p : α × β => A p.1 :: B p.2) (fun p => V p.1 ∧ W p.2) :=
  rdA_cons (fun hok hd hw => hA.arg_one hc (okWide_slice ht hok) (fun a _ => hA1 a) hd hw) hB
theorem rdA_str {ts : List TypeId} {B : β → List AV} {W : β → Prop} (ht : P.underlying t = some .string) (hc : P.cellsOf t = 1) (hA1 : ∀ a, (A a).cells = [A a]) (hA : Rd P t A V) (hB : RdA P ts B W) : RdA P (t :: ts) (fun p : α × β => A p.1 :: B p.2) (fun p => V p.1 ∧ W p.2) :=
  rdA_cons (fun hok hd hw => hA.arg_one hc (okWide_str ht hok) (fun a _ => hA1 a) hd hw) hB
theorem rdA_int {ts : List TypeId} {B : β → List AV} {W : β → Prop} {k : IntKind} (ht : P.underlying t = some (.int k)) (hc : P.cellsOf t = 1) (hA1 : ∀ a, (A a).cells = [A a]) (hA : Rd P t A V) (hB : RdA P ts B W) : RdA P (t :: ts) (fun p : α × β => A p.1 :: B p.2) (fun p => V p.1 ∧ W p.2) :=
  rdA_cons (fun hok hd hw => hA.arg_one hc (okWide_int ht hok) (fun a _ => hA1 a) hd hw) hB
theorem rdA_bool {ts : List TypeId} {B : β → List AV} {W : β → Prop} (ht : P.underlying t = some .bool) (hc : P.cellsOf t = 1) (hA1 : ∀ a, (A a).cells = [A a]) (hA : Rd P t A V) (hB : RdA P ts B W) : RdA P (t :: ts) (fun p : α × β => A p.1 :: B p.2) (fun p => V p.1 ∧ W p.2) :=
  rdA_cons (fun hok hd hw => hA.arg_one hc (okWide_bool ht hok) (fun a _ => hA1 a) hd hw) hB
theorem rdA_struct {ts : List TypeId} {B : β → List AV} {W : β → Prop} {fs : Array Field} {D : α → List AV} (ht : P.underlying t = some (.struct fs)) (hA1 : ∀ a, A a = .agg (D a)) (hA : Rd P t A V) (hB : RdA P ts B W) : RdA P (t :: ts) (fun p : α × β => A p.1 :: B p.2) (fun p => V p.1 ∧ W p.2) :=
  rdA_cons (fun hok hd hw => by
    obtain ⟨cs, rfl⟩ := okWide_struct ht hok
    have e : A = fun a => .agg (D a) := funext hA1
    subst e
    exact Rd.arg_agg hA hd hw) hB
theorem trodAll_length {H : Type} {enc : TypeId × Value → H} {w : World} {base : Nat} {sp : Nat → Bool} {held : Bool} : ∀ {ts : List TypeId} {vs : List Value} {ds : List (DataW H)} {ps : List MemPlace}, DataW.TrodAll enc P w base sp held ts vs ds ps → ds.length = ts.length
  | [], [], [], _, _ => rfl
  | _ :: _, _ :: _, _ :: _, _, ⟨_, _, _, h, _⟩ => by simp [trodAll_length h]
/-- A law's row: its witness, what its arguments read as, its contract. -/
theorem law_lifted {C : Checked} [Laid C.prog] {os : Os} {f : FuncId} {fn : Func} {s : ChangeSpec} {conds : List PathCond} {tb : TypeId} {H : Type} {enc : TypeId × Value → H} {ts : List TypeId} {B : β → List AV} {W : β → Prop}
    (own : ownKnob C.prog.godebug = none) (started : os.Started) (noInit : C.prog.inits.idxOf? f = none) (hfn : C.prog.funcs[f]? = some fn)
    (witness : ∃ (w : World) (tape : Tape) (i : Input), w.os = os ∧ (w.forCall tape i).Shaped C.prog ∧ i.vars = [] ∧ Input.okWide C.prog (w.forCall tape i) .any w.heap.size f i ∧
      s.pre6 enc C.prog fn conds false (w.forCall tape i).memory i.args ∧ ({} : Assume).holds C.prog (lone (Frame.enter C.prog f i.args .normal) [] (w.forCall tape i)))
    (hl : laidOutB C.prog = true) (hz : ∀ t e, t < C.prog.types.size → C.prog.underlying t = some (.slice e) → 0 < C.prog.cellsOf e) (hp : fn.params.toList = ts) (hrB : (ts.all fun t => C.prog.readableRec t && decide (t < C.prog.types.size)) = true)
    (hrt : fn.resultTypes = #[tb]) (htb : C.prog.underlying tb = some .bool) (hv : s.vars = []) (hs : ∀ ds : List (DataW H), ds.length = ts.length → s.fn H ds = { results := [.lit (.bool true)], args := ds })
    (hA : RdA C.prog ts B W) (hc : ∀ b, W b → CallOK C.prog f (B b) (Oid.under (.root C.prog.globals.size)) ⟨[], .bool true, []⟩) (hLaid : ∀ W : World, Laid.facts C.prog (ghAll C.prog.globals.size W)) :
    ReturnsInHanded {} C os f .any (s.pre6 enc C.prog fn conds false) (s.post enc C.prog fn false true false false) := by
  have hr : ∀ t ∈ ts, C.prog.readableRec t = true ∧ t < C.prog.types.size := fun t ht => by
    have := List.all_eq_true.1 hrB t ht
    simpa using this
  refine returnsInHanded_of_change_sized own started noInit hfn witness ?_
  intro w base args ds gs before hval hW _ hsz _
  have hW' := hW
  obtain ⟨p, q, hT, hV, rfl, hfz, hnd⟩ := hW
  rw [hv] at hV
  obtain ⟨rfl, rfl⟩ := trodVars_none hV
  have hlen := trodAll_length hT
  rw [hp] at hT hlen
  have hvt : s.plain.varTypes C.prog = [] := by
    have : s.plain.vars = [] := hv
    unfold DataSpec.varTypes; rw [this]; rfl
  rw [hvt, List.append_nil, List.append_nil, List.all_eq_true, hp] at hsz
  obtain ⟨b, k1, k2, k3⟩ := hA.rd (ng := C.prog.globals.size) (fun j t v ht hv' => hval j t v (by rw [← Array.getElem?_toList, hp]; exact ht) (by rw [← Array.getElem?_toList]; exact hv')) hT fun n hn => by simpa using hsz n hn
  refine law_post hl hz (by rw [hp]; exact hr) hrt htb hv hW' (hs ds hlen) (avs := B b) ⟨by simpa using k2, fun j hj => ?_⟩ (hc b k1) (hLaid _)
  have := k3 j (by rw [k2]; exact hj)
  simpa [List.getD_eq_getElem?_getD, Array.getD_eq_getD_getElem?] using this
end
end Go.Ab

/- The walk's own words, short: the structural steps as one inductive predicate; the closed sums as a part of the simp set. -/
namespace Go.Ab
attribute [go_sem] Nat.reduceEqDiff Nat.reduceAdd Nat.reduceMul Nat.reduceLT Nat.reduceLeDiff reduceCtorEq Nat.reduceBEq Int.reduceToNat Int.reduceNeg
attribute [go_sem ↓] reduceIte
theorem zb1 {p : Prop} [Decidable p] : (decide p = true) = p := decide_eq_true_eq
theorem zb2 {p : Prop} [Decidable p] : (decide p = false) = ¬ p := propext decide_eq_false_iff_not
theorem zb3 (b : Bool) : ((!b) = true) = (b = false) := Bool.not_eq_true' b
theorem zb4 (b : Bool) : ((!b) = false) = (b = true) := Bool.not_eq_false' b
theorem zb5 (a b : Bool) : ((a && b) = true) = (a = true ∧ b = true) := Bool.and_eq_true a b
/-- Where a walk stands: at a piece of code, behind one, on the way out of a block. -/
inductive Ps where
  | at (c : Code)
  | nrm
  | ex (i : Nat)
def Lend (P : Prop) : Prop := P
theorem zl {p : Prop} (h : p) : Lend p := h
inductive Stp (P : Program) (x : Ctx) (n : Nat) (Q : AX → AS → Prop) : Bool → Bool → Ps → List Pc → AS → Prop
  | seq {u v} {a b : Code} {ks s} : Stp P x n Q u true (.at a) (.code b :: ks) s → Stp P x n Q u v (.at (.seq a b)) ks s
  | skip {u v ks s} : Stp P x n Q u true .nrm ks s → Stp P x n Q u v (.at .skip) ks s
  | block {v i a ks s} : Stp P x n Q true true (.at a) (.bend i :: ks) s → Stp P x n Q true v (.at (.block i a)) ks s
  | exit {u v i ks s} : Stp P x n Q u true (.ex i) ks s → Stp P x n Q u v (.at (.exit i)) ks s
  | next {u v a ks s} : Stp P x n Q u true (.at a) ks s → Stp P x n Q u v .nrm (.code a :: ks) s
  | bend {u v i ks s} : Stp P x n Q u true .nrm ks s → Stp P x n Q u v .nrm (.bend i :: ks) s
  | lend {u v ts I k ks fr m c ds} : Lend (∃ k' m', k' < k ∧ (∀ i o, m' i = some o → m i = some o) ∧ I k' ⟨keepF ts fr, m', c, ds⟩) → Stp P x n Q u v .nrm (.lend ts I k :: ks) ⟨fr, m, c, ds⟩
  | xcode {u v a i ks s} : Stp P x n Q u true (.ex i) ks s → Stp P x n Q u v (.ex i) (.code a :: ks) s
  | xlend {u v ts I k i ks s} : Stp P x n Q u true (.ex i) ks s → Stp P x n Q u v (.ex i) (.lend ts I k :: ks) s
  | xhere {u v i ks s} : Stp P x n Q u true .nrm ks s → Stp P x n Q u v (.ex i) (.bend i :: ks) s
  | xon {u v i j ks s} : Nat.beq i j = false → Stp P x n Q u true (.ex i) ks s → Stp P x n Q u v (.ex i) (.bend j :: ks) s
  | ofT {u c ks s} : T P x n c s (after P x n Q ks) → Stp P x n Q u true (.at c) ks s
  | ofN {u ks s} : after P x n Q ks .normal s → Stp P x n Q u true .nrm ks s
  | ofX {u i ks s} : after P x n Q ks (.exit i) s → Stp P x n Q u true (.ex i) ks s
def StpG (P : Program) (x : Ctx) (n : Nat) (Q : AX → AS → Prop) : Ps → List Pc → AS → Prop
  | .at c, ks, s => T P x n c s (after P x n Q ks)
  | .nrm, ks, s => after P x n Q ks .normal s
  | .ex i, ks, s => after P x n Q ks (.exit i) s
theorem Stp.ok {P : Program} [Laid P] {x : Ctx} {n : Nat} {Q : AX → AS → Prop} {p : Ps} {ks : List Pc} {s : AS} {u v : Bool} (h : Stp P x n Q u v p ks s) : StpG P x n Q p ks s := by
  induction h with
  | seq _ ih => exact K_seq ih
  | skip _ ih => exact K_skip ih
  | block _ ih => exact K_block ih
  | exit _ ih => exact K_exit ih
  | next _ ih => exact ih
  | bend _ ih => exact ih
  | lend h => exact h
  | xcode _ ih => exact ih
  | xlend _ ih => exact ih
  | xhere _ ih => exact X_here ih
  | xon hb _ ih => exact X_on hb ih
  | ofT h => exact h
  | ofN h => exact h
  | ofX h => exact h
section
variable {P : Program} [Laid P] {x : Ctx} {n : Nat} {Q : AX → AS → Prop} {ks : List Pc} {s : AS}
theorem zk {c : Code} (h : Stp P x n Q true false (.at c) ks s) : T P x n c s (after P x n Q ks) := h.ok
theorem zn (h : Stp P x n Q true false .nrm ks s) : after P x n Q ks .normal s := h.ok
theorem ze {i : Nat} (h : Stp P x n Q true false (.ex i) ks s) : after P x n Q ks (.exit i) s := h.ok
theorem zu {c : Code} (h : Stp P x n Q false false (.at c) ks s) : T P x n c s (after P x n Q ks) := h.ok
theorem zv (h : Stp P x n Q false false .nrm ks s) : after P x n Q ks .normal s := h.ok
theorem zw {i : Nat} (h : Stp P x n Q false false (.ex i) ks s) : after P x n Q ks (.exit i) s := h.ok
end
end Go.Ab
