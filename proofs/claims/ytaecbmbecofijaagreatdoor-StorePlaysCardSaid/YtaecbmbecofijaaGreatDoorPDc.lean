/- A part of the proof: the texts FwD, FwE, Ty, S0, Shelf, S1, S2, S2b, S6a, S7, S8, S3, S4, S5, S6, one behind the other. -/
import Derived.Test.YtaecbmbecofijaaGreatDoorPDb
import Derived.ProofKit
import Derived.SizedLaws
import Derived.ReadAgain
import Derived.Below
import Derived.Deep.Draws
import Derived.Test.YtaecbmbecofijaaGreatDoorProg
import Derived.KernelRfl
import Derived.Lib.Builder
import Derived.WalkKit
import Derived.Laws.Externs
import Derived.Laws.BitsLemmas
import Derived.Shelf.Strings.Builder1
import Derived.Shelf.Strconv.Atoi
import Derived.Shelf.Strconv.Itoa0
import Derived.Shelf.Strconv.Itoa1
import Derived.Shelf.LaysM
import Derived.Shelf.Strconv.Itoa2
import Derived.Shelf.Strconv.Itoa3
import Derived.Shelf.Strconv.AtoiErrFast
import Derived.Shelf.Strconv.ParseIntEmpty
import Derived.Shelf.Strconv.AtoiFail
import Derived.Shelf.Strconv.Clone
import Derived.Shelf.Strconv.SyntaxError
import Derived.Shelf.LaysC
import Derived.Shelf.Strconv.ToError
import Derived.Shelf.Strconv.Lower
import Derived.Shelf.Strconv.ParseUint10
import Derived.Shelf.Strconv.ParseUint10Empty
import Derived.Shelf.Strconv.ParseUint10Any
import Derived.Shelf.Strconv.ParseInt10
import Derived.Shelf.Strconv.AtoiLong
import Derived.Shelf.Strconv.AtoiInnerAll
import Derived.Shelf.Strconv.RangeError
import Derived.Shelf.Strconv.ToErrorRange
import Derived.Shelf.Strconv.AtoiAll
import Derived.Shelf.Strings.Search1
import Derived.Shelf.Strings.Search2
import Derived.Shelf.Strings.Search3
import Derived.Shelf.Strings.Cut
import Derived.Shelf.Strings.Count
import Derived.Shelf.Strings.Shaped
import Derived.Shelf.Sort.Plain
import Derived.Shelf.Strings.LastIndex
import Derived.Shelf.Strings.Prefix
import Derived.Shelf.Strings.Split
import Derived.Shelf.Strings.SplitShaped
import Derived.Shelf.Strings.RuneCount
import Derived.Shelf.Unicode.DecodeSlow
import Derived.Shelf.Slices.In.SortNone
import Derived.Lib.LaidTab
import Derived.Lib.AtoiAllCases
import Derived.Lib.ItoaMem
import Derived.Lib.ItoaLen
import Derived.Lib.AtoiTie
set_option linter.unusedVariables false
set_option linter.unusedSimpArgs false
set_option linter.unusedSectionVars false
/- One evaluation of a region's text for all outcomes; code as a stack of pieces. -/
namespace Go.Ab
universe u
/-- Both ways of a guard. -/
def both (b : Bool) (A B : Prop) : Prop := (b = true → A) ∧ (b = false → B)
theorem both_true (A B : Prop) : both true A B = A := by simp [both]
theorem both_false (A B : Prop) : both false A B = B := by simp [both]
/-! ### an operation without its edges -/
structure LOp where
  dst : Option Nat
  op : Op
  guard : Option (Nat × Bool)
def light (o : Oper) : LOp := ⟨o.dst, o.op, o.guard⟩
def lights : List Oper → List LOp
  | [] => []
  | o :: l => light o :: lights l
def prs (ρ : Operand → AV) : List (Nat × Operand) → List (Nat × AV)
  | [] => []
  | q :: l => (q.1, ρ q.2) :: prs ρ l
theorem prs_map (ρ : Operand → AV) (l : List (Nat × Operand)) : l.map (fun q => (q.1, ρ q.2)) = prs ρ l := by
  induction l with
  | nil => rfl
  | cons q l ih => simp only [List.map_cons, prs, ih]
def opL (P : Program) (m : Mem) (nid : Oid) (md : Nat → Bool) (ρ : Operand → AV) (dst : Option Nat) (op : Op) : OpR :=
  match op with
  | .move x => pureR (ρ x)
  | .assign x => pureR (ρ x)
  | .pick c a b => match ρ c with
    | .bool v => pureR (if v then ρ a else ρ b)
    | _ => .no
  | .alloc t => match zer P t with
    | some z => .eff ⟨[], .ptr (nameB P t nid) 0, [(nameB P t nid, some (.cells z))]⟩
    | none => .no
  | .box t x => if (ρ x).known = true then .eff ⟨[], .ptr (nameB P t nid) 0, [(nameB P t nid, some (.cells (ρ x).cells))]⟩ else .no
  | .build t ps => optR (buildA P t (prs ρ ps.toList))
  | .buildSlice t n ps => match litOK P (tyk P t) n (prs ρ ps.toList) with
    | some (sz, vs) => if (match dst with | some d => md d | none => false) = true then .eff ⟨[], .sl nid sz n, [(nid, some (.arr sz vs))]⟩ else pureR (.list sz vs)
    | none => .no
  | .load t a => loadA (shp P t) m (ρ a)
  | .store t a v => storeA (shp P t) m (ρ a) (ρ v)
  | .nilCheck x => if nonNil (ρ x) = true then pureR (ρ x) else .no
  | .binOp op t x y _ => optR (binX P op t (isC y) (ρ x) (ρ y))
  | .unOp op _ x => optR (unA op (ρ x))
  | .convert s d x => optR (convX P s d (ρ x))
  | .fieldAddr t x k => optR (fieldAddrA (fldOf P t k) (ρ x))
  | .field t x k => optR (fieldA (fldOf P t k) (ρ x))
  | .indexAddr t x i => optR (indexAddrA (tyk P t) (ρ x) (ρ i))
  | .index t x i => optR (indexA (tyk P t) (ρ x) (ρ i))
  | .extract x i => optR (extractA (ρ x) i)
  | .makeFunc f xs ys => pureR (.fn f (xs.toList.map ρ) (ys.toList.map ρ))
  | .makeInterface t x => optR (ifaceA (tyk P t) t (ρ x))
  | .slice t x lo hi none => optR (pieceA (tyk P t) (ρ x) (lo.map ρ) (hi.map ρ))
  | .makeMap t none => match keyShape P t with
    | some (ks, ag) => .eff ⟨[], .map nid, [(nid, some (.map ks ag [] 0))]⟩
    | none => .no
  | .lookup t x k ok => lookupA P m t (ρ x) (ρ k) ok
  | .mapUpdate t x k v => mapUpdateA P m t (ρ x) (ρ k) (ρ v)
  | .insert t x k v => mapUpdateA P m t (ρ x) (ρ k) (ρ v)
  | .mapEntry t x k => mapEntryA P m t (ρ x) (ρ k)
  | .entryStore _ x k v => entryStoreA m (ρ x) (ρ k) (ρ v)
  | .range t x => rangeA (tyk P t) m nid (ρ x)
  | .entry x => entryA m (ρ x)
  | .call c => callF P m nid ρ c
  | _ => .no
theorem opF_eq (P : Program) (m : Mem) (nid : Oid) (md : Nat → Bool) (ρ : Operand → AV) (o : Oper) : opF P m nid md ρ o = opL P m nid md ρ o.dst o.op := by
  unfold opF opL; simp only [prs_map]; rfl
def lookN : List (Nat × Nat) → Nat → Option Nat
  | [], _ => none
  | q :: l, j => if j = q.1 then some q.2 else lookN l j
def wantL (gl : List (Nat × Nat)) (g : Option (Nat × Bool)) (f : Nat → AV) : Option Bool :=
  match g with
  | none => some true
  | some (j, want) => match lookN gl j with
    | none => none
    | some d => match f d with
      | .bool b => some (b == want)
      | .tuple [] => some false
      | _ => none
def glOK (ops : Array Oper) (gl : List (Nat × Nat)) : Bool := gl.all fun q => match ops[q.1]? with
  | some o => o.dst == some q.2
  | none => false
theorem lookN_ok {ops : Array Oper} : ∀ {gl : List (Nat × Nat)}, glOK ops gl = true → ∀ {j d : Nat}, lookN gl j = some d → (ops[j]?).bind (·.dst) = some d
  | [], _, _, _, h => by cases h
  | q :: l, hg, j, d, h => by
    simp only [glOK, List.all_cons, Bool.and_eq_true] at hg
    simp only [lookN] at h
    split at h
    · rename_i e
      simp only [Option.some.injEq] at h; subst h; subst e
      have := hg.1
      split at this
      · rename_i o ho; rw [ho]; simpa using this
      · cases this
    · exact lookN_ok (by simpa [glOK] using hg.2) h
theorem wantL_ok {ops : Array Oper} {gl : List (Nat × Nat)} (hg : glOK ops gl = true) {o : Oper} {f : Nat → AV} {b : Bool} (h : wantL gl o.guard f = some b) : wantA ops o f = some b := by
  unfold wantL at h
  unfold wantA
  split at h
  · rename_i e; rw [e]; exact h
  · rename_i j want e
    rw [e]; simp only
    cases hl : lookN gl j with
    | none => rw [hl] at h; cases h
    | some d =>
      rw [hl] at h
      rw [lookN_ok hg hl]
      exact h
/-- The names that an operation met. -/
structure LE where
  need : List Oid
  upd : List Oid
def LE.none : LE := ⟨[], []⟩
def fsts {α β : Type} : List (α × β) → List α
  | [] => []
  | q :: l => q.1 :: fsts l
theorem mem_fsts {α β : Type} {l : List (α × β)} {q : α × β} (h : q ∈ l) : q.1 ∈ fsts l := by
  induction l with
  | nil => cases h
  | cons a l ih =>
    rcases List.mem_cons.1 h with rfl | h
    · exact List.mem_cons_self
    · exact List.mem_cons_of_mem _ (ih h)
def leOf (e : Eff) : LE := ⟨fsts e.need, fsts e.upd⟩
def logE (lg : Bool) (e : LE) (log : List LE) : List LE := if lg then e :: log else log
/-- The text's order: C: where a call stands, S: where an operation stands that has more than one outcome, K: behind the last one. -/
def ev (P : Program) (md : Nat → Bool) (gl : List (Nat × Nat)) (p : Oid) (c : Nat) (lg : Bool) (C : Nat → List LOp → FuncId → List AV → List (Nat × AV) → Mem → List LE → Prop) (S : Nat → List LOp → List (Nat × AV) → Mem → List LE → Prop)
    (K : List (Nat × AV) → Mem → List LE → Prop) : Nat → List LOp → List (Nat × AV) → Mem → List LE → Prop
  | _, [], fr, m, log => K fr m log
  | i, o :: rest, fr, m, log =>
    match wantL gl o.guard (F fr) with
    | some b => both b
        (match opL P m (.sub c i p) md (evA fr) o.dst o.op with
          | .eff e => ev P md gl p c lg C S K (i + 1) rest (put o.dst e.val fr) (m.upds e.upd) (logE lg (leOf e) log)
          | .call f xs => C i (o :: rest) f xs fr m log
          | .no => S i (o :: rest) fr m log)
        (ev P md gl p c lg C S K (i + 1) rest (put o.dst (.tuple []) fr) m (logE lg LE.none log))
    | none => False
/-! the same, step by step: none of these is met by unfolding -/
section
variable (P : Program) (md : Nat → Bool) (gl : List (Nat × Nat)) (p : Oid) (c : Nat) (lg : Bool) (C : Nat → List LOp → FuncId → List AV → List (Nat × AV) → Mem → List LE → Prop) (S : Nat → List LOp → List (Nat × AV) → Mem → List LE → Prop)
    (K : List (Nat × AV) → Mem → List LE → Prop) (i : Nat) (o : LOp) (rest : List LOp) (fr : List (Nat × AV)) (m : Mem) (log : List LE)
def evR (r : OpR) : Prop := match r with
  | .eff e => ev P md gl p c lg C S K (i + 1) rest (put o.dst e.val fr) (m.upds e.upd) (logE lg (leOf e) log)
  | .call f xs => C i (o :: rest) f xs fr m log
  | .no => S i (o :: rest) fr m log
def evG (b : Option Bool) : Prop := match b with
  | some b => both b (evR P md gl p c lg C S K i o rest fr m log (opL P m (.sub c i p) md (evA fr) o.dst o.op)) (ev P md gl p c lg C S K (i + 1) rest (put o.dst (.tuple []) fr) m (logE lg LE.none log))
  | none => False
theorem nr {α : Sort u} {a b : α} (h : a = b) : a = b := h
theorem ev_nil : ev P md gl p c lg C S K i [] fr m log = K fr m log := nr (by rw [ev])
theorem ev_one (dst : Option Nat) (op : Op) : ev P md gl p c lg C S K i (⟨dst, op, none⟩ :: rest) fr m log = evR P md gl p c lg C S K i ⟨dst, op, none⟩ rest fr m log (opL P m (.sub c i p) md (evA fr) dst op) := nr (by
  rw [ev]; simp only [wantL, both_true]; rfl)
theorem ev_guard (dst : Option Nat) (op : Op) (j : Nat) (w : Bool) : ev P md gl p c lg C S K i (⟨dst, op, some (j, w)⟩ :: rest) fr m log = evG P md gl p c lg C S K i ⟨dst, op, some (j, w)⟩ rest fr m log (wantL gl (some (j, w)) (F fr)) := nr (by
  rw [ev]; rfl)
theorem evR_eff (e : Eff) : evR P md gl p c lg C S K i o rest fr m log (.eff e) = ev P md gl p c lg C S K (i + 1) rest (put o.dst e.val fr) (m.upds e.upd) (logE lg (leOf e) log) := nr (by rw [evR])
theorem evR_call (f : FuncId) (xs : List AV) : evR P md gl p c lg C S K i o rest fr m log (.call f xs) = C i (o :: rest) f xs fr m log := nr (by rw [evR])
theorem evR_no : evR P md gl p c lg C S K i o rest fr m log .no = S i (o :: rest) fr m log := nr (by rw [evR])
theorem evG_true : evG P md gl p c lg C S K i o rest fr m log (some true) = evR P md gl p c lg C S K i o rest fr m log (opL P m (.sub c i p) md (evA fr) o.dst o.op) := nr (by rw [evG]; simp only [both_true])
theorem evG_false : evG P md gl p c lg C S K i o rest fr m log (some false) = ev P md gl p c lg C S K (i + 1) rest (put o.dst (.tuple []) fr) m (logE lg LE.none log) := nr (by rw [evG]; simp only [both_false])
variable {P md gl p c lg C S K i o rest fr m log}
theorem evG_split {b : Bool} (h1 : b = true → evR P md gl p c lg C S K i o rest fr m log (opL P m (.sub c i p) md (evA fr) o.dst o.op)) (h2 : b = false → ev P md gl p c lg C S K (i + 1) rest (put o.dst (.tuple []) fr) m (logE lg LE.none log)) :
    evG P md gl p c lg C S K i o rest fr m log (some b) := ⟨h1, h2⟩
end
section
variable {P : Program} [Laid P] {md : Nat → Bool} {ops : Array Oper} {p : Oid} {c : Nat} {gl : List (Nat × Nat)}
theorem drop_next {i : Nat} {o : Oper} {rest : List Oper} (h : ops.toList.drop i = o :: rest) : ops.toList.drop (i + 1) = rest := by
  have : (ops.toList.drop i).drop 1 = rest := by rw [h]; rfl
  rwa [List.drop_drop] at this
/-- Where a call stands, as evalN has it. -/
def atCallN (P : Program) [Laid P] (md : Nat → Bool) (ops : Array Oper) (p : Oid) (c : Nat) (K : List (Nat × AV) → Mem → Prop) (Kp : AV → List (Nat × AV) → Mem → Prop) : Nat → List LOp → FuncId → List AV → List (Nat × AV) → Mem → List LE → Prop :=
  fun i L f xs fr m _ => ∀ o rest, ops.toList.drop i = o :: rest → lights (o :: rest) = L → ∃ need R Rp, CallND P f xs (Oid.under (.sub c i p)) need R Rp ∧ (∀ q, q ∈ need → m q.1 = some q.2) ∧ (∀ val upd, R val upd → evalN P md ops p c (i + 1) rest (put o.dst val fr) (m.upds upd) K Kp) ∧ ∀ pv upd, Rp pv upd → Kp pv fr (m.upds upd)
/-- What an operation that has more than one outcome is asked for. -/
def OpND (P : Program) [Laid P] (dst : Option Nat) (op : Op) (ρ : Operand → AV) (sp : Oid → Prop) (need : List (Oid × AObj)) (R Rp : AV → List (Oid × Option AObj) → Prop) : Prop :=
  ∀ o : Oper, o.dst = dst → o.op = op → EffND P o ρ sp need R Rp
def OpOK (P : Program) [Laid P] (dst : Option Nat) (op : Op) (ρ : Operand → AV) (sp : Oid → Prop) (e : Eff) : Prop := ∀ o : Oper, o.dst = dst → o.op = op → EffOK P o ρ sp e
def atOpN (P : Program) [Laid P] (md : Nat → Bool) (ops : Array Oper) (p : Oid) (c : Nat) (K : List (Nat × AV) → Mem → Prop) (Kp : AV → List (Nat × AV) → Mem → Prop) : Nat → List LOp → List (Nat × AV) → Mem → List LE → Prop :=
  fun i L fr m _ => ∀ o rest, ops.toList.drop i = o :: rest → lights (o :: rest) = L → ∃ need R Rp, EffND P o (evA fr) (Oid.under (.sub c i p)) need R Rp ∧ (∀ q, q ∈ need → m q.1 = some q.2) ∧ (∀ val upd, R val upd → evalN P md ops p c (i + 1) rest (put o.dst val fr) (m.upds upd) K Kp) ∧ ∀ pv upd, Rp pv upd → Kp pv fr (m.upds upd)
theorem ev_evalN {K : List (Nat × AV) → Mem → Prop} {Kp : AV → List (Nat × AV) → Mem → Prop} {lg : Bool} (hg : glOK ops gl = true) : ∀ (rest : List Oper) (i : Nat) (fr : List (Nat × AV)) (m : Mem) (log : List LE), ops.toList.drop i = rest →
    ev P md gl p c lg (atCallN P md ops p c K Kp) (atOpN P md ops p c K Kp) (fun fr m _ => K fr m) i (lights rest) fr m log → evalN P md ops p c i rest fr m K Kp
  | [], _, _, _, _, _, h => h
  | o :: rest, i, fr, m, log, hd, h => by
    simp only [lights, ev] at h
    simp only [evalN]
    cases hw : wantL gl (light o).guard (F fr) with
    | none => simp only [hw] at h
    | some b =>
      simp only [hw] at h
      rw [wantL_ok (o := o) hg hw]
      cases b with
      | true =>
        have h := h.1 rfl
        rw [opF_eq]
        simp only [light] at h
        simp only
        cases ho : opL P m (.sub c i p) md (evA fr) o.dst o.op with
        | eff e => simp only [ho] at h; exact ev_evalN hg rest _ _ _ _ (drop_next hd) h
        | call f xs => simp only [ho] at h; exact .inr (h o rest hd rfl)
        | no => simp only [ho] at h; exact h o rest hd rfl
      | false => exact ev_evalN hg rest _ _ _ _ (drop_next hd) (h.2 rfl)
/-- The log fits the text so far. -/
def LogOK (ops : Array Oper) (i : Nat) (rest : List Oper) (log : List Eff) : Prop := (∀ j, rest[j]? = ops[i + j]?) ∧ log.length = i ∧ ∀ (k : Nat) o e, ops[k]? = some o → log.reverse[k]? = some e → Tame o e
def KT (ops : Array Oper) (K : List (Nat × AV) → Mem → List Eff → Prop) (fr : List (Nat × AV)) (m : Mem) (log : List Eff) : Prop := K fr m log ∧ ∀ (k : Nat) o e, ops[k]? = some o → log.reverse[k]? = some e → Tame o e
theorem LogOK.step {i : Nat} {o : Oper} {rest : List Oper} {log : List Eff} (h : LogOK ops i (o :: rest) log) {e : Eff} (he : Tame o e) : LogOK ops (i + 1) rest (e :: log) := by
  obtain ⟨hl, hn, ht⟩ := h
  have h0 : ops[i]? = some o := by simpa using (hl 0).symm
  refine ⟨fun j => by have := hl (j + 1); simpa [Nat.add_assoc, Nat.add_comm 1 j] using this, by simp [hn], ?_⟩
  intro k o' e' ho' he'
  rw [List.reverse_cons] at he'
  by_cases hk : k < log.reverse.length
  · rw [List.getElem?_append_left hk] at he'; exact ht k o' e' ho' he'
  · rw [List.getElem?_append_right (by omega)] at he'
    have hk0 : k - log.reverse.length = 0 := by
      cases hz : k - log.reverse.length with
      | zero => rfl
      | succ z => rw [hz] at he'; simp at he'
    have hki : k = i := by rw [List.length_reverse, hn] at hk0 hk; omega
    subst hki
    rw [hk0] at he'
    simp only [List.getElem?_cons_zero, Option.some.injEq] at he'
    rw [h0] at ho'; simp only [Option.some.injEq] at ho'
    subst ho'; subst he'; exact he
theorem LogOK.drop {i : Nat} {rest : List Oper} {log : List Eff} (h : LogOK ops i rest log) : ops.toList.drop i = rest := by
  apply List.ext_getElem?
  intro j
  rw [List.getElem?_drop, h.1 j]; simp
def atCallD (P : Program) [Laid P] (ops : Array Oper) (p : Oid) (c : Nat) (K : List (Nat × AV) → Mem → List LE → Prop) : Nat → List LOp → FuncId → List AV → List (Nat × AV) → Mem → List LE → Prop :=
  fun i L f xs fr m lg => ∀ o rest log, LogOK ops i (o :: rest) log → log.map leOf = lg → lights (o :: rest) = L → (idleOp o.op = false ∧ readOp o.op = false) → ∃ e, CallOK P f xs (Oid.under (.sub c i p)) e ∧ (∀ q, q ∈ e.need → m q.1 = some q.2) ∧
      evalOps P ops p c (i + 1) rest (put o.dst e.val fr) (m.upds e.upd) (e :: log) (KT ops fun fr m log => K fr m (log.map leOf))
def atOpD (P : Program) [Laid P] (ops : Array Oper) (p : Oid) (c : Nat) (K : List (Nat × AV) → Mem → List LE → Prop) : Nat → List LOp → List (Nat × AV) → Mem → List LE → Prop :=
  fun i L fr m lg => ∀ o rest log, LogOK ops i (o :: rest) log → log.map leOf = lg → lights (o :: rest) = L → ∃ e, EffOK P o (evA fr) (Oid.under (.sub c i p)) e ∧ (∀ q, q ∈ e.need → m q.1 = some q.2) ∧
      evalOps P ops p c (i + 1) rest (put o.dst e.val fr) (m.upds e.upd) (e :: log) (KT ops fun fr m log => K fr m (log.map leOf))
theorem ev_evalOps {K : List (Nat × AV) → Mem → List LE → Prop} (hg : glOK ops gl = true) : ∀ (rest : List Oper) (i : Nat) (fr : List (Nat × AV)) (m : Mem) (log : List Eff), LogOK ops i rest log →
    ev P md gl p c true (atCallD P ops p c K) (atOpD P ops p c K) K i (lights rest) fr m (log.map leOf) → evalOps P ops p c i rest fr m log (KT ops fun fr m log => K fr m (log.map leOf))
  | [], _, _, _, _, hL, h => ⟨h, hL.2.2⟩
  | o :: rest, i, fr, m, log, hL, h => by
    simp only [lights, ev] at h
    simp only [evalOps]
    cases hw : wantL gl (light o).guard (F fr) with
    | none => simp only [hw] at h
    | some b =>
      simp only [hw] at h
      rw [wantL_ok (o := o) hg hw]
      cases b with
      | true =>
        have h := h.1 rfl
        simp only [light] at h
        simp only
        cases ho : opL P m (.sub c i p) md (evA fr) o.dst o.op with
        | eff e =>
          simp only [ho] at h
          rw [← opF_eq] at ho
          obtain ⟨h1, h2⟩ := opF_ok (sp := Oid.under (.sub c i p)) (Oid.under_refl _) (fun t => Oid.under_ty t _) rfl ho
          exact ⟨e, h1, h2, ev_evalOps hg rest _ _ _ (e :: log) (hL.step ⟨fun hi => opF_idle hi ho, fun hi => opF_read hi ho⟩) h⟩
        | call f xs =>
          simp only [ho] at h
          rw [← opF_eq] at ho
          have i1 : idleOp o.op = false := by
            cases hi : idleOp o.op with
            | false => rfl
            | true => exact (opF_idle_call hi ho).elim
          have i2 : readOp o.op = false := by
            cases hi : readOp o.op with
            | false => rfl
            | true => exact (opF_read_call hi ho).elim
          obtain ⟨e, h1, h2, h3⟩ := h o rest log hL rfl rfl ⟨i1, i2⟩
          exact ⟨e, opF_call ho h1, h2, h3⟩
        | no =>
          simp only [ho] at h
          exact h o rest log hL rfl rfl
      | false => exact ev_evalOps hg rest _ _ _ (Eff.none :: log) (hL.step ⟨fun _ => ⟨rfl, rfl⟩, fun _ => rfl⟩) (h.2 rfl)
/-- What must not meet, by names. -/
def disjN (a b : LE) : Prop := (∀ i, i ∈ a.upd → ∀ j, j ∈ b.need → i ≠ j) ∧ (∀ i, i ∈ a.upd → ∀ j, j ∈ b.upd → i ≠ j) ∧ (∀ i, i ∈ a.need → ∀ j, j ∈ b.upd → i ≠ j)
def dynN (E : List LE) : List (Nat × Nat) → Prop
  | [] => True
  | (i, j) :: r => disjN (E.getD i LE.none) (E.getD j LE.none) ∧ dynN E r
theorem disjN_quiet {a b : LE} (ha : a.upd = []) (hb : b.upd = []) : disjN a b := by
  unfold disjN; rw [ha, hb]
  refine ⟨?_, ?_, ?_⟩ <;> intro i h j k <;> first | (cases h; done) | (cases k; done)
theorem dynN_quiet {E : List LE} (h : (E.all fun e => e.upd.isEmpty) = true) : ∀ {U : List (Nat × Nat)}, dynN E U
  | [] => trivial
  | (i, j) :: r => by
    have hget : ∀ k, (E.getD k LE.none).upd = [] := fun k => by
      rw [List.getD_eq_getElem?_getD]
      cases hk : E[k]? with
      | none => rfl
      | some e =>
        rw [List.all_eq_true] at h
        exact List.isEmpty_iff.1 (h e (List.mem_of_getElem? hk))
    exact ⟨disjN_quiet (hget i) (hget j), dynN_quiet h⟩
theorem dynN_dynU {E : List Eff} : ∀ {U : List (Nat × Nat)}, dynN (E.map leOf) U → dynU E U
  | [], _ => trivial
  | (i, j) :: r, h => by
    have hget : ∀ k, (E.map leOf).getD k LE.none = leOf (E.getD k Eff.none) := fun k => by
      simp only [List.getD_eq_getElem?_getD, List.getElem?_map]
      cases E[k]? <;> rfl
    simp only [dynN, hget] at h
    obtain ⟨⟨h1, h2, h3⟩, h4⟩ := h
    exact ⟨⟨fun q hq q' hq' => h1 _ (mem_fsts hq) _ (mem_fsts hq'), fun q hq q' hq' => h2 _ (mem_fsts hq) _ (mem_fsts hq'), fun q hq q' hq' => h3 _ (mem_fsts hq) _ (mem_fsts hq')⟩, dynN_dynU h4⟩
end
end Go.Ab
/- Code as a stack of pieces: the rules of the walk. -/
namespace Go.Ab
inductive Pc where
  | code (c : Code)
  | bend (id : Nat)
  | lend (ts : List Nat) (I : Nat → AS → Prop) (k : Nat)
/-- What is still to come behind a piece of code. -/
def after (P : Program) (x : Ctx) (n : Nat) (Q : AX → AS → Prop) : List Pc → AX → AS → Prop
  | [], e, s => Q e s
  | k :: ks, e, s => match k, e with
    | .code c, .normal => T P x n c s (after P x n Q ks)
    | .lend ts I k, .normal => ∃ k' m', k' < k ∧ (∀ i o, m' i = some o → s.mem i = some o) ∧ I k' ⟨keepF ts s.fr, m', s.c, s.ds⟩
    | .bend j, .exit i => if i = j then after P x n Q ks .normal s else after P x n Q ks (.exit i) s
    | _, e => after P x n Q ks e s
section
variable {P : Program} [Laid P] {x : Ctx} {n : Nat} {Q : AX → AS → Prop} {ks : List Pc} {s : AS} {fr : List (Nat × AV)} {m : Mem} {c : Nat} {ds : List AD}
theorem K_next {a : Code} (h : T P x n a s (after P x n Q ks)) : after P x n Q (.code a :: ks) .normal s := h
theorem K_nil {e : AX} (h : Q e s) : after P x n Q [] e s := h
theorem X_here {i : Nat} (h : after P x n Q ks .normal s) : after P x n Q (.bend i :: ks) (.exit i) s := by simp only [after, if_true]; exact h
theorem X_on {i j : Nat} (hj : (Nat.beq i j) = false) (h : after P x n Q ks (.exit i) s) : after P x n Q (.bend j :: ks) (.exit i) s := by
  have : ¬ i = j := fun e => by subst e; simp at hj
  simp only [after, if_neg this]; exact h
theorem after_ret : ∀ {ks : List Pc}, Q .ret s → after P x n Q ks .ret s
  | [], h => h
  | .code _ :: ks, h => after_ret (ks := ks) h
  | .bend _ :: ks, h => after_ret (ks := ks) h
  | .lend .. :: ks, h => after_ret (ks := ks) h
theorem after_panic {v : AV} : ∀ {ks : List Pc}, Q (.panic v) s → after P x n Q ks (.panic v) s
  | [], h => h
  | .code _ :: ks, h => after_panic (ks := ks) h
  | .bend _ :: ks, h => after_panic (ks := ks) h
  | .lend .. :: ks, h => after_panic (ks := ks) h
theorem K_seq {a b : Code} (h : T P x n a s (after P x n Q (.code b :: ks))) : T P x n (.seq a b) s (after P x n Q ks) :=
  T_seq (T_mono h fun e s h => by cases e <;> exact h)
theorem K_skip (h : after P x n Q ks .normal s) : T P x n .skip s (after P x n Q ks) := T_skip h
theorem K_ret (h : Q .ret s) : T P x n .ret s (after P x n Q ks) := T_ret (after_ret h)
theorem K_exit {i : Nat} (h : after P x n Q ks (.exit i) s) : T P x n (.exit i) s (after P x n Q ks) := T_exit h
theorem K_block {id : Nat} {a : Code} (h : T P x n a s (after P x n Q (.bend id :: ks))) : T P x n (.block id a) s (after P x n Q ks) :=
  T_block (T_mono h fun e s h => by cases e <;> first | exact h | (simp only [after] at h; simp only [AX.inBlock]; split <;> simp_all))
/-- A loop. ts: the slots that its invariant speaks of; what else is known is forgotten at each round's head. -/
theorem K_loop (ts : List Nat) {a : Code} (I : Nat → AS → Prop) (k : Nat) (h0 : I k ⟨keepF ts fr, m, c, ds⟩)
    (round : ∀ k s, I k s → T P x n a s (after P x n Q (.lend ts I k :: ks))) : T P x n (.loop a) ⟨fr, m, c, ds⟩ (after P x n Q ks) := by
  refine T_loop (fun k s => ∃ m', (∀ i o, m' i = some o → s.mem i = some o) ∧ I k ⟨keepF ts s.fr, m', s.c, s.ds⟩) k ⟨m, fun _ _ h => h, h0⟩ ?_
  rintro k ⟨fr', m1, c', ds'⟩ ⟨m', hm, hi⟩
  refine T_forget (s := ⟨fr', m1, c', ds'⟩) (keepF ts fr') (fun t _ => F_keepF ts fr' t) ?_
  refine T_drop (s := ⟨keepF ts fr', m1, c', ds'⟩) m' hm ?_
  refine T_mono (round k _ hi) fun e s h => ?_
  cases e with
  | normal => obtain ⟨k', m', h1, h2, h3⟩ := h; exact ⟨k', h1, m', h2, h3⟩
  | _ => exact h
/-- A test. -/
theorem K_if {t : Nat} {a b : Code} {v : Bool} (ht : (decide (t < n)) = true) (hv : F fr t = .bool v) (h1 : v = true → T P x n a ⟨fr, m, c, ds⟩ (after P x n Q ks)) (h2 : v = false → T P x n b ⟨fr, m, c, ds⟩ (after P x n Q ks)) :
    T P x n (.cond (.tmp t) a b) ⟨fr, m, c, ds⟩ (after P x n Q ks) := R_if ht hv h1 h2
theorem K_ifd {t : Nat} {a b : Code} {p : Prop} {i : Decidable p} (ht : (decide (t < n)) = true) (hv : F fr t = .bool (decide p)) (h1 : p → T P x n a ⟨fr, m, c, ds⟩ (after P x n Q ks)) (h2 : ¬ p → T P x n b ⟨fr, m, c, ds⟩ (after P x n Q ks)) :
    T P x n (.cond (.tmp t) a b) ⟨fr, m, c, ds⟩ (after P x n Q ks) := R_if ht hv (fun h => h1 (of_decide_eq_true h)) (fun h => h2 (of_decide_eq_false h))
theorem K_ifT {t : Nat} {a b : Code} (ht : (decide (t < n)) = true) (hv : F fr t = .bool true) (h1 : T P x n a ⟨fr, m, c, ds⟩ (after P x n Q ks)) : T P x n (.cond (.tmp t) a b) ⟨fr, m, c, ds⟩ (after P x n Q ks) := K_if ht hv (fun _ => h1) (fun h => by cases h)
theorem K_ifF {t : Nat} {a b : Code} (ht : (decide (t < n)) = true) (hv : F fr t = .bool false) (h1 : T P x n b ⟨fr, m, c, ds⟩ (after P x n Q ks)) : T P x n (.cond (.tmp t) a b) ⟨fr, m, c, ds⟩ (after P x n Q ks) := K_if ht hv (fun h => by cases h) (fun _ => h1)
/-- A cut: what holds behind a piece; ts: the slots that it speaks of. -/
def Cut (P : Program) (x : Ctx) (n : Nat) (Q : AX → AS → Prop) (ks : List Pc) (ts : List Nat) (R : AS → Prop) : AX → AS → Prop
  | .normal, s => ∃ m', (∀ i o, m' i = some o → s.mem i = some o) ∧ R ⟨keepF ts s.fr, m', s.c, s.ds⟩
  | e, s => after P x n Q ks e s
theorem K_cut {a b : Code} (ts : List Nat) (R : AS → Prop) (h : T P x n a s (after P x n (Cut P x n Q ks ts R) [])) (h2 : ∀ s, R s → T P x n b s (after P x n Q ks)) : T P x n a s (after P x n Q (.code b :: ks)) :=
  T_mono h fun e s h => by
    cases e with
    | normal =>
      obtain ⟨m', h1, h3⟩ := h
      obtain ⟨fr', m1, c', ds'⟩ := s
      refine T_forget (s := ⟨fr', m1, c', ds'⟩) (keepF ts fr') (fun t _ => F_keepF ts fr' t) ?_
      exact T_drop (s := ⟨keepF ts fr', m1, c', ds'⟩) m' h1 (h2 _ h3)
    | _ => exact h
theorem K_cutN {ts : List Nat} {R : AS → Prop} (h : R ⟨keepF ts fr, m, c, ds⟩) : after P x n (Cut P x n Q ks ts R) [] .normal ⟨fr, m, c, ds⟩ := ⟨m, fun _ _ h => h, h⟩
theorem K_fr {a : Code} (fr' : List (Nat × AV)) (hk : fr'.all (fun q => decide (q.1 < n)) = true) (hv : ∀ q, q ∈ fr' → q.2 = F fr q.1) (h : T P x n a ⟨fr', m, c, ds⟩ Q) : T P x n a ⟨fr, m, c, ds⟩ Q := by
  refine T_forget (s := ⟨fr, m, c, ds⟩) fr' (fun t _ => ?_) h
  clear hk h
  induction fr' with
  | nil => exact .inl rfl
  | cons q l ih =>
    simp only [F]
    split
    · rename_i h; right; rw [hv q List.mem_cons_self, h]
    · exact ih fun q' hq' => hv q' (List.mem_cons_of_mem _ hq')
/-- A slot that holds a nil slice: a list without elements. -/
theorem K_nilList {a : Code} (t sz : Nat) (ht : F fr t = .nilSl) (h : T P x n a ⟨(t, .list sz []) :: fr, m, c, ds⟩ Q) : T P x n a ⟨fr, m, c, ds⟩ Q := by
  refine T_ghost (s := ⟨fr, m, c, ds⟩) (s' := ⟨(t, .list sz []) :: fr, m, c, ds⟩) (fun g b w hr => ⟨g, hr.mr, hr.tm, hr.df, fun u hu => ?_, hr.young⟩) h
  simp only [F]
  split
  · rename_i e; subst e
    have := hr.fr u hu
    simp only [ht] at this
    rw [this.nilSl_inv]; exact .listNil _
  · exact hr.fr u hu
/-- A slot that holds a nil slice: a row without elements, under a name of its own. -/
theorem K_void {a : Code} (t sz : Nat) (ht : F fr t = .nilSl) (h : T P x n a ⟨(t, .sl (.sub c 0 x.p) sz 0) :: fr, m.set (.sub c 0 x.p) (some (.arr sz [])), c + 1, ds⟩ Q) : T P x n a ⟨fr, m, c, ds⟩ Q := by
  refine T_ghost (s := ⟨fr, m, c, ds⟩) _ (fun g b w hr => ?_) h
  have hl : g.loc (.sub c 0 x.p) = none := hr.young _ ⟨c, 0, Nat.le_refl _, Oid.under_refl _⟩
  have hle := Gh.le_nowhere hl
  refine ⟨g.nowhere (.sub c 0 x.p), hr.mr.newVoid sz hl (Oid.under_sub (Oid.under_refl _)), hr.tm, hr.df.mono hle, fun u hu => ?_, fun i hi => ?_⟩
  · simp only [F]
    split
    · rename_i e; subst e
      have := hr.fr u hu
      simp only [ht] at this
      rw [this.nilSl_inv]
      exact .slNil _ _ (by simp [Gh.nowhere])
    · exact (hr.fr u hu).mono hle
  · simp only [Gh.nowhere]
    split
    · rename_i e; subst e
      obtain ⟨c', i', h1, h2⟩ := hi
      have := (Oid.apart (Oid.under_refl _) h2).1
      simp only at h1
      omega
    · exact hr.young i (hi.mono (Nat.le_succ _))
/-- A row is fixed for good. -/
def frzV (i : Oid) (sz : Nat) (xs : List AV) : AV → AV
  | .sl j s n => if j = i ∧ s = sz ∧ n = xs.length then .list sz xs else .sl j s n
  | v => v
def frz (i : Oid) (sz : Nat) (xs : List AV) : List (Nat × AV) → List (Nat × AV)
  | [] => []
  | q :: l => (q.1, frzV i sz xs q.2) :: frz i sz xs l
theorem F_frz (i : Oid) (sz : Nat) (xs : List AV) (t : Nat) : ∀ fr, F (frz i sz xs fr) t = frzV i sz xs (F fr t)
  | [] => rfl
  | q :: l => by
    simp only [frz, F]
    split
    · rfl
    · exact F_frz i sz xs t l
theorem K_freeze {a : Code} (i : Oid) (sz : Nat) (xs : List AV) (hi : m i = some (.arr sz xs)) (h : T P x n a ⟨frz i sz xs fr, m.set i none, c, ds⟩ Q) : T P x n a ⟨fr, m, c, ds⟩ Q := by
  refine T_freeze (s := ⟨fr, m, c, ds⟩) i (frz i sz xs fr) hi (fun t _ => ?_) h
  rw [F_frz]
  generalize F fr t = v
  unfold frzV
  split
  · split
    · rename_i h; obtain ⟨rfl, rfl, rfl⟩ := h; exact .inr (.inr ⟨rfl, rfl⟩)
    · exact .inr (.inl rfl)
  · exact .inr (.inl rfl)
theorem K_drop {a : Code} (m' : Mem) (hm : ∀ i o, m' i = some o → m i = some o) (h : T P x n a ⟨fr, m', c, ds⟩ Q) : T P x n a ⟨fr, m, c, ds⟩ Q := T_drop (s := ⟨fr, m, c, ds⟩) m' hm h
/-- A region in the order of the text. -/
theorem K_ev {id : Nat} {ops : Array Oper} (md : Nat → Bool) (gl : List (Nat × Nat)) (hng : Fit P x) (hok : (textB n P.globals.size ops && glOK ops gl) = true)
    (h : Fresh x.p c m → ∀ C S (K : List (Nat × AV) → Mem → List LE → Prop),
      (∀ {i o rest f xs fr m log} e, CallOK P f xs (Oid.under (.sub c i x.p)) e → (∀ q, q ∈ e.need → m q.1 = some q.2) → ev P md gl x.p c false C S K (i + 1) rest (put o.dst e.val fr) (m.upds e.upd) log → C i (o :: rest) f xs fr m log) →
      (∀ {i o rest f xs fr m log} need R Rp, CallND P f xs (Oid.under (.sub c i x.p)) need R Rp → (∀ q, q ∈ need → m q.1 = some q.2) → (∀ val upd, R val upd → ev P md gl x.p c false C S K (i + 1) rest (put o.dst val fr) (m.upds upd) log) →
        (∀ pv upd, Rp pv upd → Q (.panic pv) ⟨fr, m.upds upd, c + 1, ds⟩) → C i (o :: rest) f xs fr m log) →
      (∀ {i o rest fr m log} need R Rp, OpND P o.dst o.op (evA fr) (Oid.under (.sub c i x.p)) need R Rp → (∀ q, q ∈ need → m q.1 = some q.2) → (∀ val upd, R val upd → ev P md gl x.p c false C S K (i + 1) rest (put o.dst val fr) (m.upds upd) log) →
        (∀ pv upd, Rp pv upd → Q (.panic pv) ⟨fr, m.upds upd, c + 1, ds⟩) → S i (o :: rest) fr m log) →
      (∀ {fr m log}, after P x n Q ks .normal ⟨fr, m, c + 1, ds⟩ → K fr m log) →
      ev P md gl x.p c false C S K 0 (lights ops.toList) fr m []) : T P x n (.region id ops false) ⟨fr, m, c, ds⟩ (after P x n Q ks) := by
  simp only [Bool.and_eq_true] at hok
  obtain ⟨hok, hgl⟩ := hok
  refine T_region_nd md hng hok fun hf => ?_
  let K0 : List (Nat × AV) → Mem → Prop := fun fr m => after P x n Q ks .normal ⟨fr, m, c + 1, ds⟩
  let Kp : AV → List (Nat × AV) → Mem → Prop := fun pv fr m => after P x n Q ks (.panic pv) ⟨fr, m, c + 1, ds⟩
  refine ev_evalN (md := md) (lg := false) (K := K0) (Kp := Kp) hgl _ _ _ _ [] (by simp) ?_
  refine h hf _ _ _ ?_ ?_ ?_ ?_
  · intro i o rest f xs fr m log e h1 h2 h3 o' rest' hd hl
    simp only [lights, List.cons.injEq] at hl
    obtain ⟨rfl, rfl⟩ := hl
    exact ⟨_, _, _, h1.nd, h2, fun val upd ⟨hv, hu⟩ => by subst hv; subst hu; exact ev_evalN hgl _ _ _ _ log (drop_next hd) h3, fun _ _ h => h.elim⟩
  · intro i o rest f xs fr m log need R Rp h1 h2 h3 h4 o' rest' hd hl
    simp only [lights, List.cons.injEq] at hl
    obtain ⟨rfl, rfl⟩ := hl
    exact ⟨need, R, Rp, h1, h2, fun val upd hr => ev_evalN hgl _ _ _ _ log (drop_next hd) (h3 val upd hr), fun pv upd hr => after_panic (h4 pv upd hr)⟩
  · intro i o rest fr m log need R Rp h1 h2 h3 h4 o' rest' hd hl
    simp only [lights, List.cons.injEq] at hl
    obtain ⟨rfl, rfl⟩ := hl
    exact ⟨need, R, Rp, h1 o' rfl rfl, h2, fun val upd hr => ev_evalN hgl _ _ _ _ log (drop_next hd) (h3 val upd hr), fun pv upd hr => after_panic (h4 pv upd hr)⟩
  · intro fr m log h
    exact h
/-- A region that draws its order. U: the pairs that must not meet. -/
theorem K_evd {id : Nat} {ops : Array Oper} (md : Nat → Bool) (gl : List (Nat × Nat)) (U : List (Nat × Nat)) (hmx : P.follows .mixedOrders = true) (hng : Fit P x) (hok : (drawB n P.globals.size ops U && glOK ops gl) = true) (ts : List Nat)
    (h : Fresh x.p c m → ∀ C S (K : List (Nat × AV) → Mem → List LE → Prop),
      (∀ {i o rest f xs fr m log} e, CallOK P f xs (Oid.under (.sub c i x.p)) e → (∀ q, q ∈ e.need → m q.1 = some q.2) → ev P md gl x.p c true C S (fun fr m log => K (keepF ts fr) m log) (i + 1) rest (put o.dst e.val fr) (m.upds e.upd) (leOf e :: log) → C i (o :: rest) f xs fr m log) →
      (∀ {i o rest fr m log} e, OpOK P o.dst o.op (evA fr) (Oid.under (.sub c i x.p)) e → idleOp o.op = false → readOp o.op = false → (∀ q, q ∈ e.need → m q.1 = some q.2) → ev P md gl x.p c true C S (fun fr m log => K (keepF ts fr) m log) (i + 1) rest (put o.dst e.val fr) (m.upds e.upd) (leOf e :: log) → S i (o :: rest) fr m log) →
      (∀ {fr m log}, dynN log.reverse U → after P x n Q ks .normal ⟨fr, m, c + 1, ds⟩ → K fr m log) →
      ev P md gl x.p c true C S (fun fr m log => K (keepF ts fr) m log) 0 (lights ops.toList) fr m []) : T P x n (.region id ops true) ⟨fr, m, c, ds⟩ (after P x n Q ks) := by
  simp only [Bool.and_eq_true] at hok
  obtain ⟨hok, hgl⟩ := hok
  simp only [drawB, Bool.and_eq_true] at hok
  obtain ⟨⟨k1, k2⟩, k3⟩ := hok
  have key := T_region_draw (P := P) (x := x) (n := n) (s := ⟨fr, m, c, ds⟩) (Q := fun e s => e = .normal ∧ after P x n Q ks .normal ⟨keepF ts s.fr, s.mem, s.c, s.ds⟩) (id := id) hmx hng k1 k2 fun hf => by
    have h1 := ev_evalOps (P := P) (md := md) (ops := ops) (p := x.p) (c := c) (K := fun fr m log => dynN log.reverse U ∧ after P x n Q ks .normal ⟨keepF ts fr, m, c + 1, ds⟩) hgl ops.toList 0 fr m [] ⟨fun j => by simp, rfl, fun k o e _ he => by simp at he⟩
      (h hf (atCallD P ops x.p c _) (atOpD P ops x.p c _) (fun fr m log => dynN log.reverse U ∧ after P x n Q ks .normal ⟨fr, m, c + 1, ds⟩)
        (fun {i o rest f xs fr m log} e h1 h2 h3 => fun o' rest' log' hL hlg hl hi => by
          simp only [lights, List.cons.injEq] at hl
          obtain ⟨rfl, rfl⟩ := hl
          subst hlg
          exact ⟨e, h1, h2, ev_evalOps hgl _ _ _ _ (e :: log') (hL.step (show Tame o' e from ⟨fun h => absurd h (by simp [hi.1]), fun h => absurd h (by simp [hi.2])⟩)) h3⟩)
        (fun {i o rest fr m log} e h1 i1 i2 h2 h3 => fun o' rest' log' hL hlg hl => by
          simp only [lights, List.cons.injEq] at hl
          obtain ⟨rfl, rfl⟩ := hl
          subst hlg
          simp only [light] at i1 i2
          exact ⟨e, h1 o' rfl rfl, h2, ev_evalOps hgl _ _ _ _ (e :: log') (hL.step (show Tame o' e from ⟨fun h => absurd h (by simp [i1]), fun h => absurd h (by simp [i2])⟩)) h3⟩)
        (fun {fr m log} h1 h2 => ⟨h1, h2⟩))
    refine evalOps_mono' (N := ops.size) ?_ _ _ _ _ _ (by simp) h1
    rintro fr1 m1 log hlen ⟨⟨hd, hq⟩, ht⟩
    refine ⟨compat_of k3 (by simpa using hlen) ht (dynN_dynU (by rw [List.map_reverse]; exact hd)), fun fr' hF => ⟨rfl, ?_⟩⟩
    have : keepF ts fr' = keepF ts fr1 := by simp only [keepF_map, hF]
    rw [this]; exact hq
  intro g a w hr
  refine wpIn_mono (key g a w hr) fun e a' w' ⟨g', ex, s', h1, h2, h4, h5⟩ => ?_
  subst h4
  exact ⟨g', .normal, ⟨keepF ts s'.fr, s'.mem, s'.c, s'.ds⟩, h1.forget _ (fun t _ => F_keepF ts s'.fr t), h2, h5⟩
end
/-- A function's contract with more than one outcome. -/
theorem fnND {P : Program} [Laid P] {f : FuncId} {fn : Func} {n : Nat} {rs : List ResultVar} {c : Code} {xs : List AV} {p : Oid} {need : List (Oid × AObj)} {R Rp : AV → List (Oid × Option AObj) → Prop} (hf : P.funcs[f]? = some fn) (hn : fn.ntmps = n) (hr : fn.results.toList = rs)
    (hnm : (fn.name != "runtime.NumGoroutine") = true) (hl : (Nat.ble xs.length n) = true) (hok : resOKs n rs = true) (hb : fn.body = some c)
    (hT : ∀ x : Ctx, x.p = p → x.rd = none → Fit P x → T P x n c ⟨slots 0 xs, Mem.of need, 0, []⟩ (after P x n (DoneN P rs need R Rp) [])) : CallND P f xs (Oid.under p) need R Rp :=
  callND_of hf hn hr hnm hl hok hb fun x h1 h2 h3 => T_mono (hT x h1 h2 h3) fun _ _ h => h
theorem fnOK {P : Program} [Laid P] {f : FuncId} {fn : Func} {n : Nat} {rs : List ResultVar} {c : Code} {xs : List AV} {p : Oid} {e : Eff} (hf : P.funcs[f]? = some fn) (hn : fn.ntmps = n) (hr : fn.results.toList = rs)
    (hnm : (fn.name != "runtime.NumGoroutine") = true) (hl : (Nat.ble xs.length n) = true) (hok : resOKs n rs = true) (hb : fn.body = some c)
    (hT : ∀ x : Ctx, x.p = p → x.rd = none → Fit P x → T P x n c ⟨slots 0 xs, Mem.of e.need, 0, []⟩ (after P x n (DoneN P rs e.need (fun v u => v = e.val ∧ u = e.upd) fun _ _ => False) [])) : CallOK P f xs (Oid.under p) e :=
  (fnND hf hn hr hnm hl hok hb hT).ok
/-- The end of a body, nothing deferred. -/
theorem done_ret {P : Program} {rs : List ResultVar} {need : List (Oid × AObj)} {R Rp : AV → List (Oid × Option AObj) → Prop} {fr : List (Nat × AV)} {m : Mem} {c : Nat} (val : AV) (upd : List (Oid × Option AObj)) (h1 : retM P m fr rs = some val) (h2 : R val upd)
    (h3 : ∀ i o, ((Mem.of need).upds upd) i = some o → m i = some o) : DoneN P rs need R Rp .ret ⟨fr, m, c, []⟩ := ⟨val, upd, h1, h2, h3⟩
theorem done_normal {P : Program} {rs : List ResultVar} {need : List (Oid × AObj)} {R Rp : AV → List (Oid × Option AObj) → Prop} {fr : List (Nat × AV)} {m : Mem} {c : Nat} (val : AV) (upd : List (Oid × Option AObj)) (h1 : retM P m fr rs = some val) (h2 : R val upd)
    (h3 : ∀ i o, ((Mem.of need).upds upd) i = some o → m i = some o) : DoneN P rs need R Rp .normal ⟨fr, m, c, []⟩ := ⟨val, upd, h1, h2, h3⟩
theorem done_plain {P : Program} {rs : List ResultVar} {val : AV} {fr : List (Nat × AV)} {m : Mem} {c : Nat} (h1 : retM P m fr rs = some val) : DoneN P rs [] (fun v u => v = val ∧ u = []) (fun _ _ => False) .ret ⟨fr, m, c, []⟩ :=
  done_ret val [] h1 ⟨rfl, rfl⟩ fun i o h => by cases h
theorem done1 {P : Program} {t : Nat} {val : AV} {fr : List (Nat × AV)} {m : Mem} {c : Nat} (h1 : F fr t = val) : DoneN P [.tmp t] [] (fun v u => v = val ∧ u = []) (fun _ _ => False) .ret ⟨fr, m, c, []⟩ :=
  done_plain (by simp only [retM, resM, h1, tupA])
/-- The end of a body that hands back a row of its own. -/
theorem K_retl {P : Program} [Laid P] {x : Ctx} {n : Nat} {ks : List Pc} {t sz k c : Nat} {id : Oid} {xs ys : List AV} {fr : List (Nat × AV)} {m : Mem} (hv : F fr t = .sl id sz k) (hi : m id = some (.arr sz xs)) (hk : k = xs.length) (hx : xs = ys) :
    T P x n .ret ⟨fr, m, c, []⟩ (after P x n (DoneN P [.tmp t] [] (fun v u => v = .list sz ys ∧ u = []) (fun _ _ => False)) ks) := by
  subst hx
  refine K_freeze id sz xs hi (K_ret (done1 ?_))
  rw [F_frz, hv, frzV, if_pos ⟨rfl, rfl, hk⟩]
end Go.Ab
/- What the walk lays open: conditions that are owed, memory as a list, names. -/
namespace Go.Ab
/-! ### what is owed -/
def gd (p : Prop) [Decidable p] (v : Option AV) : Option AV := if p then v else none
theorem gd_pos {p : Prop} [Decidable p] {v : Option AV} (h : p) : gd p v = v := if_pos h
def gdR (p : Prop) [Decidable p] (v : OpR) : OpR := if p then v else .no
theorem gdR_pos {p : Prop} [Decidable p] {v : OpR} (h : p) : gdR p v = v := if_pos h
theorem indexA_str (s : List UInt8) (k : IntKind) (n : Int) : indexA (some .str) (.str s) (.int k n) = gd (0 ≤ n ∧ n < s.length) (some (.int .u8 (s.getD n.toNat 0).toNat)) := rfl
theorem indexAddrA_list (el : TypeId) (ag : Bool) (sz by' sz' : Nat) (xs : List AV) (k : IntKind) (n : Int) : indexAddrA (some (.slice el ag sz by')) (.list sz' xs) (.int k n) = gd (sz' = sz ∧ 0 ≤ n ∧ n < xs.length) (some (.eptr (xs.getD n.toNat .undef))) := rfl
theorem indexAddrA_sl (el : TypeId) (ag : Bool) (sz by' sz' len : Nat) (id : Oid) (k : IntKind) (n : Int) : indexAddrA (some (.slice el ag sz by')) (.sl id sz' len) (.int k n) = gd (sz' = sz ∧ 0 ≤ n ∧ n < len) (some (.aptr id sz n.toNat 0)) := rfl
theorem indexAddrA_arr (el : TypeId) (ag : Bool) (sz len off : Nat) (id : Oid) (k : IntKind) (n : Int) : indexAddrA (some (.arr len el ag sz)) (.ptr id off) (.int k n) = gd (0 ≤ n ∧ n < len) (some (.ptr id (off + n.toNat * sz))) := rfl
theorem pieceA_strL (s : List UInt8) (k : IntKind) (l : Int) : pieceA (some .str) (.str s) (some (.int k l)) none = gd (0 ≤ l ∧ l ≤ s.length) (some (.str (s.drop l.toNat))) := by
  simp only [pieceA, boundA, gd]
  by_cases h : 0 ≤ l ∧ l ≤ s.length
  · rw [if_pos h, if_pos ⟨h.1, h.2, Int.le_refl _⟩]; simp
  · rw [if_neg h, if_neg (fun h' => h ⟨h'.1, h'.2.1⟩)]
theorem pieceA_strH (s : List UInt8) (k : IntKind) (h : Int) : pieceA (some .str) (.str s) none (some (.int k h)) = gd (0 ≤ h ∧ h ≤ s.length) (some (.str (s.take h.toNat))) := by
  simp only [pieceA, boundA, gd]
  by_cases hc : 0 ≤ h ∧ h ≤ s.length
  · rw [if_pos hc, if_pos ⟨Int.le_refl _, hc.1, hc.2⟩]; simp
  · rw [if_neg hc, if_neg (fun h' => hc ⟨h'.2.1, h'.2.2⟩)]
theorem pieceA_strB (s : List UInt8) (k k' : IntKind) (l h : Int) : pieceA (some .str) (.str s) (some (.int k l)) (some (.int k' h)) = gd (0 ≤ l ∧ l ≤ h ∧ h ≤ s.length) (some (.str ((s.take h.toNat).drop l.toNat))) := rfl
theorem pieceA_listL (el : TypeId) (ag : Bool) (sz by' sz' : Nat) (xs : List AV) (k : IntKind) (l : Int) : pieceA (some (.slice el ag sz by')) (.list sz' xs) (some (.int k l)) none = gd (sz' = sz ∧ 0 ≤ l ∧ l ≤ xs.length) (some (.list sz (xs.drop l.toNat))) := by
  simp only [pieceA, boundA, gd]
  by_cases h : sz' = sz ∧ 0 ≤ l ∧ l ≤ xs.length
  · rw [if_pos h, if_pos ⟨h.1, h.2.1, h.2.2, Int.le_refl _⟩]; simp
  · rw [if_neg h, if_neg (fun h' => h ⟨h'.1, h'.2.1, h'.2.2.1⟩)]
theorem pieceA_listH (el : TypeId) (ag : Bool) (sz by' sz' : Nat) (xs : List AV) (k : IntKind) (h : Int) : pieceA (some (.slice el ag sz by')) (.list sz' xs) none (some (.int k h)) = gd (sz' = sz ∧ 0 ≤ h ∧ h ≤ xs.length) (some (.list sz (xs.take h.toNat))) := by
  simp only [pieceA, boundA, gd]
  by_cases hc : sz' = sz ∧ 0 ≤ h ∧ h ≤ xs.length
  · rw [if_pos hc, if_pos ⟨hc.1, Int.le_refl _, hc.2.1, hc.2.2⟩]; simp
  · rw [if_neg hc, if_neg (fun h' => hc ⟨h'.1, h'.2.2.1, h'.2.2.2⟩)]
theorem pieceA_listB (el : TypeId) (ag : Bool) (sz by' sz' : Nat) (xs : List AV) (k k' : IntKind) (l h : Int) : pieceA (some (.slice el ag sz by')) (.list sz' xs) (some (.int k l)) (some (.int k' h)) = gd (sz' = sz ∧ 0 ≤ l ∧ l ≤ h ∧ h ≤ xs.length) (some (.list sz ((xs.take h.toNat).drop l.toNat))) := rfl
theorem intA_add (k : IntKind) (a b : Int) : intA .add k a b = some (.int k (k.wrap (a + b))) := rfl
theorem intA_sub (k : IntKind) (a b : Int) : intA .sub k a b = some (.int k (k.wrap (a - b))) := rfl
theorem intA_mul (k : IntKind) (a b : Int) : intA .mul k a b = some (.int k (k.wrap (a * b))) := rfl
theorem intA_quo (k : IntKind) (a b : Int) : intA .quo k a b = gd (b ≠ 0) (some (.int k (k.wrap (a.tdiv b)))) := rfl
theorem intA_rem (k : IntKind) (a b : Int) : intA .rem k a b = gd (b ≠ 0) (some (.int k (a.tmod b))) := rfl
theorem intA_and (k : IntKind) (a b : Int) : intA .and k a b = some (.int k (k.wrap (BitVec.ofInt k.bits a &&& BitVec.ofInt k.bits b).toNat)) := rfl
theorem intA_or (k : IntKind) (a b : Int) : intA .or k a b = some (.int k (k.wrap (BitVec.ofInt k.bits a ||| BitVec.ofInt k.bits b).toNat)) := rfl
theorem intA_xor (k : IntKind) (a b : Int) : intA .xor k a b = some (.int k (k.wrap (BitVec.ofInt k.bits a ^^^ BitVec.ofInt k.bits b).toNat)) := rfl
theorem intA_andNot (k : IntKind) (a b : Int) : intA .andNot k a b = some (.int k (k.wrap (BitVec.ofInt k.bits a &&& ~~~ BitVec.ofInt k.bits b).toNat)) := rfl
theorem beq_dec {α : Type} [BEq α] [LawfulBEq α] [DecidableEq α] (a b : α) : (a == b) = decide (a = b) := by
  rw [Bool.eq_iff_iff]; simp
theorem bne_dec {α : Type} [BEq α] [LawfulBEq α] [DecidableEq α] (a b : α) : (a != b) = decide (a ≠ b) := by
  rw [Bool.eq_iff_iff]; simp
theorem intA_eql (k : IntKind) (a b : Int) : intA .eql k a b = some (.bool (decide (a = b))) := by
  simp only [intA, beq_dec]
theorem intA_neq (k : IntKind) (a b : Int) : intA .neq k a b = some (.bool (decide (a ≠ b))) := by
  simp only [intA, bne_dec]
theorem intA_lss (k : IntKind) (a b : Int) : intA .lss k a b = some (.bool (decide (a < b))) := rfl
theorem intA_leq (k : IntKind) (a b : Int) : intA .leq k a b = some (.bool (decide (a ≤ b))) := rfl
theorem intA_gtr (k : IntKind) (a b : Int) : intA .gtr k a b = some (.bool (decide (b < a))) := rfl
theorem intA_geq (k : IntKind) (a b : Int) : intA .geq k a b = some (.bool (decide (b ≤ a))) := rfl
theorem shiftA_shl (k : IntKind) (a b : Int) : shiftA .shl k a b = gd (0 ≤ b) (some (.int k (k.wrap (a * 2 ^ (min b.toNat k.bits))))) := by
  unfold shiftA gd
  by_cases h : 0 ≤ b
  · rw [if_neg (by omega), if_pos h]
  · rw [if_pos (by omega), if_neg h]
theorem shiftA_shr (k : IntKind) (a b : Int) : shiftA .shr k a b = gd (0 ≤ b) (some (.int k (a.fdiv (2 ^ (min b.toNat k.bits))))) := by
  unfold shiftA gd
  by_cases h : 0 ≤ b
  · rw [if_neg (by omega), if_pos h]
  · rw [if_pos (by omega), if_neg h]
theorem strA_add (a b : List UInt8) : strA .add a b = gd (a.length + b.length ≤ 9223372036854775807) (some (.str (a ++ b))) := rfl
theorem strA_eql (a b : List UInt8) : strA .eql a b = some (.bool (decide (a = b))) := by
  simp only [strA, beq_dec]
theorem strA_neq (a b : List UInt8) : strA .neq a b = some (.bool (decide (a ≠ b))) := by
  simp only [strA, bne_dec]
/-- The order of texts. -/
def ltS (a b : List UInt8) : Bool := Op.bytesLess a b
theorem strA_lss (a b : List UInt8) : strA .lss a b = some (.bool (ltS a b)) := rfl
theorem strA_leq (a b : List UInt8) : strA .leq a b = some (.bool (ltS a b || decide (a = b))) := by
  simp only [strA, ltS, beq_dec]
theorem strA_gtr (a b : List UInt8) : strA .gtr a b = some (.bool (!(ltS a b || decide (a = b)))) := by
  simp only [strA, ltS, beq_dec]
theorem strA_geq (a b : List UInt8) : strA .geq a b = some (.bool (!ltS a b)) := rfl
def appS (P : Program) (m : Mem) (nid : Oid) (k : Option TyK) (s : AV) (x : Option (List (Oid × AObj) × List AV)) : OpR :=
  match k, s, x with
  | some (.slice el _ sz by'), .nilSl, some (nd, ys) => gdR (zerOK P el sz = true ∧ 0 < by' ∧ ys.length * by' ≤ 140737488355328) (.eff ⟨nd, .sl nid sz ys.length, [(nid, some (.arr sz ys))]⟩)
  | some (.slice el _ sz by'), .sl id sz' len, some (nd, ys) => match m id with
    | some (.arr s' xs) => gdR (zerOK P el sz = true ∧ sz' = sz ∧ s' = sz ∧ xs.length = len ∧ 0 < by' ∧ (len + ys.length) * by' ≤ 140737488355328)
          (.eff ⟨(id, .arr s' xs) :: nd, .sl nid sz (len + ys.length), [(id, none), (nid, some (.arr sz (xs ++ ys)))]⟩)
    | _ => .no
  | _, _, _ => .no
def tykSz : Option TyK → Nat
  | some (.slice _ _ sz _) => sz
  | _ => 0
theorem appA_eq (P : Program) (m : Mem) (nid : Oid) (t : TypeId) (s x : AV) : appA P m nid t s x = appS P m nid (tyk P t) s (srcA m (tykSz (tyk P t)) x) := by
  unfold appA appS
  cases tyk P t with
  | none => rfl
  | some k =>
    cases k <;> try rfl
    simp only [tykSz]
    generalize srcA m _ x = r
    cases r with
    | none => cases s <;> rfl
    | some r =>
      obtain ⟨nd, ys⟩ := r
      cases s <;> rfl
/-! ### memory as a list -/
def putL (i : Oid) (x : Option AObj) : List (Oid × AObj) → List (Oid × AObj)
  | [] => match x with
    | some o => [(i, o)]
    | none => []
  | q :: l => if i = q.1 then (match x with
      | some o => (i, o) :: l
      | none => putL i none l) else q :: putL i x l
def putLs : List (Oid × Option AObj) → List (Oid × AObj) → List (Oid × AObj)
  | [], l => l
  | q :: u, l => putLs u (putL q.1 q.2 l)
theorem Mem.of_putL (i : Oid) (x : Option AObj) : ∀ l, (Mem.of l).set i x = Mem.of (putL i x l)
  | [] => by cases x <;> (funext k; simp [Mem.of, Mem.set, putL, Mem.emp])
  | q :: l => by
    have ih := fun x => Mem.of_putL i x l
    simp only [putL]
    by_cases h : i = q.1
    · rw [if_pos h]
      cases x with
      | some o => funext k; simp only [Mem.of, Mem.set]; subst h; split <;> rfl
      | none => rw [← ih]; funext k; simp only [Mem.of, Mem.set]; subst h; split <;> rfl
    · rw [if_neg h]; funext k; simp only [Mem.of]; rw [← ih]; simp only [Mem.set]
      by_cases h1 : k = i
      · rw [if_pos h1, if_pos h1, if_neg (fun h2 => h (h1.symm.trans h2))]
      · rw [if_neg h1, if_neg h1]
theorem Mem.of_upds : ∀ (u : List (Oid × Option AObj)) (l : List (Oid × AObj)), (Mem.of l).upds u = Mem.of (putLs u l)
  | [], _ => rfl
  | q :: u, l => by
    show ((Mem.of l).set q.1 q.2).upds u = _
    rw [Mem.of_putL, Mem.of_upds u]; rfl
theorem Mem.emp_of : Mem.emp = Mem.of [] := rfl
theorem Mem.of_nil_at (i : Oid) : Mem.of [] i = none := rfl
theorem Mem.of_cons_at (q : Oid × AObj) (l : List (Oid × AObj)) (i : Oid) : Mem.of (q :: l) i = if i = q.1 then some q.2 else Mem.of l i := rfl
theorem fa_nil {α : Type} (p : α → Prop) : (∀ q, q ∈ ([] : List α) → p q) = True := by simp
theorem fa_cons {α : Type} (p : α → Prop) (a : α) (l : List α) : (∀ q, q ∈ (a :: l) → p q) = (p a ∧ ∀ q, q ∈ l → p q) := by simp
/-! ### names -/
theorem Oid.sub_ne_self (c i : Nat) (p : Oid) : (Oid.sub c i p = p) = False := by
  apply eq_false
  intro h
  have : (Oid.sub c i p).depth = p.depth := by rw [h]
  simp only [Oid.depth] at this; omega
theorem Oid.self_ne_sub (c i : Nat) (p : Oid) : (p = Oid.sub c i p) = False := by
  apply eq_false
  intro h
  have : p.depth = (Oid.sub c i p).depth := by rw [← h]
  simp only [Oid.depth] at this; omega
theorem Oid.sub_ne {c c' i i' : Nat} {p p' : Oid} (h : c ≠ c') : (Oid.sub c i p = Oid.sub c' i' p') = False := by
  apply eq_false; intro e; injection e with h1 _ _; exact h h1
theorem Oid.not_under_sub {p q : Oid} (h : ¬ Oid.under p q) (c i : Nat) : (q = Oid.sub c i p) = False := by
  apply eq_false; intro e; subst e; exact h (Oid.under_sub (Oid.under_refl _))
theorem Oid.sub_not_under {p q : Oid} (h : ¬ Oid.under p q) (c i : Nat) : (Oid.sub c i p = q) = False := by
  apply eq_false; intro e; subst e; exact h (Oid.under_sub (Oid.under_refl _))
theorem Oid.not_under_self {p q : Oid} (h : ¬ Oid.under p q) : (q = p) = False := by
  apply eq_false; intro e; subst e; exact h (Oid.under_refl _)
theorem Oid.self_not_under {p q : Oid} (h : ¬ Oid.under p q) : (p = q) = False := by
  apply eq_false; intro e; subst e; exact h (Oid.under_refl _)
/-! ### the unsafe builtins, bytes -/
theorem dataA_nil : dataA .nilSl = some .nilPtr := rfl
theorem dataA_sl (id : Oid) (sz n : Nat) : dataA (.sl id sz n) = gd (0 < n) (some (.aptr id sz 0 0)) := rfl
theorem strU_nil (P : Program) (m : Mem) (t : TypeId) (n : Int) : strU P m t .nilPtr (.int .i64 n) = gdR (n = 0) (.eff ⟨[], .str [], []⟩) := rfl
def strS (P : Program) (id : Oid) (sz i off : Nat) (n : Int) (o : Option AObj) (k : Option TyK) : OpR :=
  match o, k with
  | some (.arr s xs), some (.ptr e) => gdR (sz = 1 ∧ i = 0 ∧ off = 0 ∧ s = 1 ∧ id.tyd = some e ∧ shp P e = some (false, 1) ∧ 0 < xs.length ∧ n = xs.length ∧ xs.length ≤ 140737488355328 ∧ xs.all byteOK = true)
      (.eff ⟨[(id, .arr s xs)], .str (xs.map byteOf), [(id, none)]⟩)
  | _, _ => .no
theorem strU_ptr (P : Program) (m : Mem) (t : TypeId) (id : Oid) (sz i off : Nat) (n : Int) : strU P m t (.aptr id sz i off) (.int .i64 n) = strS P id sz i off n (m id) (tyk P t) := by
  simp only [strU]
  generalize m id = a
  generalize tyk P t = b
  cases a with
  | none => rfl
  | some a => cases a <;> first | rfl | (cases b with
    | none => rfl
    | some b => cases b <;> rfl)
/-- Bytes, as a row has them. -/
def byA (b : UInt8) : AV := .int .u8 b.toNat
theorem byteOK_byA (l : List UInt8) : (l.map byA).all byteOK = true := by
  rw [List.all_eq_true]; intro v hv
  obtain ⟨b, _, rfl⟩ := List.mem_map.1 hv
  have := b.toNat_lt
  show decide (b.toNat < 256) = true
  simp; omega
theorem byteOf_byA (l : List UInt8) : (l.map byA).map byteOf = l := by
  rw [List.map_map]
  have : byteOf ∘ byA = id := by funext b; simp [byteOf, byA, Int.toNat_natCast]
  rw [this, List.map_id]
def convS (P : Program) (sz : Nat) (xs : List AV) (a b : Option TyK) : Option AV :=
  match a, b with
  | some (.slice el _ _ _), some .str => gd (sz = 1 ∧ u8K (tyk P el) = true ∧ 0 < xs.length ∧ xs.all byteOK = true) (some (.str (xs.map byteOf)))
  | _, _ => none
theorem convL_list (P : Program) (src dst : TypeId) (sz : Nat) (xs : List AV) : convL P src dst (.list sz xs) = convS P sz xs (tyk P src) (tyk P dst) := by
  simp only [convL]
  generalize tyk P src = a
  generalize tyk P dst = b
  cases a with
  | none => rfl
  | some a => cases a <;> first | rfl | (cases b with
    | none => rfl
    | some b => cases b <;> rfl)
theorem byteOK_int (b : UInt8) : byteOK (.int .u8 (b.toNat : Int)) = true := by
  have := b.toNat_lt
  show decide (b.toNat < 256) = true
  simp; omega
theorem byteOf_int (b : UInt8) : byteOf (.int .u8 (b.toNat : Int)) = b := by simp [byteOf, Int.toNat_natCast]
attribute [go_sem] convL_list convS byteOK_int byteOf_int
attribute [go_sem] dataA_nil dataA_sl strU_nil strU_ptr strS byteOK_byA byteOf_byA deleteA
/-! ### typed names -/
def nameT : Bool → Nat → Oid → Oid
  | true, t, nid => .ty t nid
  | false, _, nid => nid
theorem nameB_eq (P : Program) (t : TypeId) (nid : Oid) : nameB P t nid = nameT (isBld P t) t nid := by
  unfold nameB; cases isBld P t <;> rfl
def nameV : Bool → Option Nat → Nat → Oid → Oid
  | true, some t', t, nid => if t' = t then .ty t nid else nid
  | _, _, _, nid => nid
def nameS (P : Program) (k : Option TyK) (nid : Oid) (s : AV) : Oid :=
  match k, s with
  | some (.slice el _ _ _), .nilSl => nameT (isU8 (tyk P el)) el nid
  | some (.slice el _ _ _), .sl id _ _ => nameV (isU8 (tyk P el)) id.tyd el nid
  | _, _ => nid
theorem nameA_eq (P : Program) (t : TypeId) (nid : Oid) (s : AV) : nameA P t nid s = nameS P (tyk P t) nid s := by
  unfold nameA nameS
  split
  · rename_i el _ _ _ h
    try rw [h]
    show _ = nameT (isU8 (tyk P el)) el nid
    cases isU8 (tyk P el) <;> rfl
  · rename_i el _ _ _ id _ _ h
    try rw [h]
    show _ = nameV (isU8 (tyk P el)) id.tyd el nid
    cases isU8 (tyk P el) <;> cases id.tyd <;> simp [nameV]
  · rename_i h1 h2
    first
      | rfl
      | (split
         · rename_i h; exact (h1 _ _ _ _ h rfl).elim
         · rename_i h; exact (h2 _ _ _ _ _ _ _ h rfl).elim
         · rfl)
theorem tyd_root (n : Nat) : (Oid.root n).tyd = none := rfl
theorem tyd_sub (c i : Nat) (p : Oid) : (Oid.sub c i p).tyd = none := rfl
theorem tyd_ty (t : Nat) (p : Oid) : (Oid.ty t p).tyd = some t := rfl
theorem Oid.not_under_ty {p q : Oid} (h : ¬ Oid.under p q) (t c i : Nat) : (q = Oid.ty t (Oid.sub c i p)) = False := by
  apply eq_false; intro e; subst e; exact h (.inr (Oid.under_sub (Oid.under_refl _)))
theorem Oid.ty_not_under {p q : Oid} (h : ¬ Oid.under p q) (t c i : Nat) : (Oid.ty t (Oid.sub c i p) = q) = False := by
  apply eq_false; intro e; subst e; exact h (.inr (Oid.under_sub (Oid.under_refl _)))
attribute [go_sem] nameB_eq nameT nameV nameS nameA_eq tyd_root tyd_sub tyd_ty isU8 Oid.not_under_ty Oid.ty_not_under Oid.ty.injEq
/-! ### lists of values -/
theorem getD_map_in {α : Type} [Inhabited α] (f : α → AV) {l : List α} {i : Nat} (h : i < l.length) (d : AV) : (l.map f).getD i d = f (l.getD i default) := by
  simp [List.getD_eq_getElem?_getD, List.getElem?_map, List.getElem?_eq_getElem h]
attribute [go_sem] gd_pos gdR_pos indexA_str indexAddrA_list indexAddrA_sl indexAddrA_arr pieceA_strL pieceA_strH pieceA_strB pieceA_listL pieceA_listH pieceA_listB
  intA_add intA_sub intA_mul intA_quo intA_rem intA_and intA_or intA_xor intA_andNot intA_eql intA_neq intA_lss intA_leq intA_gtr intA_geq shiftA_shl shiftA_shr strA_add strA_eql strA_neq strA_lss strA_leq strA_gtr strA_geq
  appA_eq appS tykSz litOK zerOK ev_nil ev_one ev_guard evR_eff evR_call evR_no evG_true evG_false logE leOf fsts opL prs wantL lookN light lights dynN disjN putL putLs Mem.of_upds Mem.emp_of Mem.of_nil_at Mem.of_cons_at Oid.sub_ne Oid.not_under_sub Oid.sub_not_under Oid.not_under_self Oid.self_not_under Oid.sub_ne_self Oid.self_ne_sub Oid.sub.injEq
  getD_map_in w64 Option.isSome_some Option.isSome_none beq_self_eq_true Option.bind_some Option.bind_none Option.map_some Option.map_none Int.toNat_natCast List.length_map List.length_take List.length_drop List.length_append List.length_cons List.length_nil List.map_cons List.map_nil List.getD_cons_zero List.getD_cons_succ List.getD_nil
  List.take_succ_cons List.take_zero List.take_nil List.drop_succ_cons List.drop_zero List.drop_nil List.cons_append List.nil_append List.all_cons List.all_nil Bool.and_true Bool.true_and Bool.and_false Bool.false_and Bool.or_true Bool.true_or Bool.or_false Bool.false_or Bool.not_true Bool.not_false
  true_and and_true and_self or_true true_or or_false false_or false_and and_false eq_self List.getElem?_cons_zero List.getElem?_cons_succ List.getElem?_toArray fa_nil fa_cons resM retM tupA resOKs
theorem bt1 (b : Bool) : (b == true) = b := by cases b <;> rfl
theorem bt2 (b : Bool) : (b == false) = !b := by cases b <;> rfl
attribute [go_sem] frz frzV Mem.of_putL
attribute [go_sem] bt1 bt2 decide_true decide_false
attribute [go_sem] decide_eq_true_eq decide_eq_false_iff_not Bool.and_eq_true Bool.or_eq_true Bool.not_eq_true' Bool.not_eq_false'
/-- No literal is memory. -/
def nmd : Nat → Bool := fun _ => false
theorem nmd_at (d : Nat) : nmd d = false := rfl
attribute [go_sem] nmd_at List.contains_cons List.contains_nil
/-! ### bytes -/
theorem getD_in {α : Type} {l : List α} {i : Nat} (h : i < l.length) (d : α) : l.getD i d = l[i] := by
  simp [List.getD_eq_getElem?_getD, List.getElem?_eq_getElem h]
theorem u8_lit {x : UInt8} {n : Nat} (hn : n < 256) : ((x.toNat : Int) = (n : Int)) ↔ x = UInt8.ofNat n := by
  constructor
  · intro h
    apply UInt8.toNat_inj.1
    rw [UInt8.toNat_ofNat', Nat.mod_eq_of_lt (by omega)]; omega
  · rintro rfl
    rw [UInt8.toNat_ofNat', Nat.mod_eq_of_lt (by omega)]
theorem drop_cons {α : Type} [Inhabited α] {l : List α} {i : Nat} (h : i < l.length) : l.drop i = l.getD i default :: l.drop (i + 1) := by
  rw [List.drop_eq_getElem_cons h, getD_in h]
theorem take_map_snoc {α β : Type} [Inhabited α] (f : α → β) {l : List α} {i : Nat} (h : i < l.length) : (l.take (i + 1)).map f = (l.take i).map f ++ [f (l.getD i default)] := by
  rw [List.take_succ_eq_append_getElem h, List.map_append, getD_in h]; rfl
theorem tmod_nat (a b : Nat) : (a : Int).tmod b = ((a % b : Nat) : Int) := by
  rw [Int.tmod_eq_emod_of_nonneg (by omega)]; rfl
theorem tdiv_nat (a b : Nat) : (a : Int).tdiv b = ((a / b : Nat) : Int) := by
  rw [Int.tdiv_eq_ediv_of_nonneg (by omega)]; rfl
theorem w8 {n : Int} (h1 : 0 ≤ n) (h2 : n ≤ 255) : IntKind.u8.wrap n = n := by
  simp [IntKind.wrap, IntKind.bits, IntKind.signed]; omega
end Go.Ab
/- Maps as lists: the entries of a map whose keys are encoded values. -/
namespace Go.Ab
variable {α : Type} [DecidableEq α]
/-- A key's encoding tells the key. -/
def EncOK (enc : α → AV) : Prop := ∀ a b, sameK (enc a) (enc b) = decide (a = b)
variable {enc : α → AV}
end Go.Ab
/- A walk over a map: what has been seen. A range's rounds: the memory behind a round. -/
namespace Go.Ab
/-! ### numbers below n, each once -/
/-! ### the entries -/
/-! ### memory that says what it holds -/
theorem callND_cons {P : Program} [Laid P] {f : FuncId} {xs : List AV} {sp : Oid → Prop} {L : List (Oid × AObj)} {R Rp : AV → List (Oid × Option AObj) → Prop} (he : entersB P f = true)
    (h : (∀ q ∈ L, Mem.of L q.1 = some q.2) → CallND P f xs sp L R Rp) : CallND P f xs sp L R Rp := by
  by_cases hc : ∀ q ∈ L, Mem.of L q.1 = some q.2
  · exact h hc
  · refine ⟨he, fun x g args w m hm hn _ _ _ => absurd (fun q hq => ?_) hc⟩
    obtain ⟨o, ho⟩ := Mem.of_some hq
    obtain ⟨q', h1, h2, h3⟩ := Mem.of_mem ho
    have h4 := hn q hq
    have h5 := hn q' h1
    rw [h2, h4, h3] at h5
    rw [ho]; exact h5.symm
/-- Behind a round: what was not the round's is as it was; what was the round's is what it says. -/
theorem yield_mem {B L L' : List (Oid × AObj)} {m : Mem} {upd : List (Oid × Option AObj)} {sp : Oid → Prop} (hU : UpdOK L sp upd L') (hL : ∀ q ∈ L, m q.1 = some q.2) (hB : ∀ q ∈ B, m q.1 = some q.2)
    (hd : ∀ q ∈ B, (∀ q' ∈ L, ¬ q'.1 = q.1) ∧ ¬ sp q.1) : ∀ q, q ∈ B ++ L' → (m.upds upd) q.1 = some q.2 := by
  intro q hq
  rcases List.mem_append.1 hq with hq | hq
  · rw [upds_nokey fun q' hq' e => ?_]
    · exact hB q hq
    · obtain ⟨h1, h2⟩ := hd q hq
      rcases hU.tou q' hq' with ⟨q2, h3, h4⟩ | h3
      · exact h1 q2 h3 (h4.trans e)
      · exact h2 (e ▸ h3)
  · exact upds_sub hL (hU.got q hq)
/-- What a list says of itself, put behind names of its own. -/
theorem cons_app {B L : List (Oid × AObj)} (hB : ∀ q ∈ B, Mem.of (B ++ L) q.1 = some q.2) (hd : ∀ q ∈ L, ∀ q' ∈ B, ¬ q.1 = q'.1) (hL : ∀ q ∈ L, Mem.of L q.1 = some q.2) : ∀ q ∈ B ++ L, Mem.of (B ++ L) q.1 = some q.2 := by
  intro q hq
  rcases List.mem_append.1 hq with hq | hq
  · exact hB q hq
  · have : ∀ (B : List (Oid × AObj)), (∀ q' ∈ B, ¬ q.1 = q'.1) → Mem.of (B ++ L) q.1 = Mem.of L q.1 := by
      intro B h
      induction B with
      | nil => rfl
      | cons b B ih => rw [List.cons_append, Mem.of_cons_at, if_neg (h b List.mem_cons_self)]; exact ih fun q' hq' => h q' (List.mem_cons_of_mem _ hq')
    rw [this B (hd q hq)]; exact hL q hq
theorem K_mem {P : Program} [Laid P] {x : Ctx} {n : Nat} {a : Code} {Q : AX → AS → Prop} {fr : List (Nat × AV)} {m : Mem} {c : Nat} {ds : List AD} (L : List (Oid × AObj)) (hm : ∀ q, q ∈ L → m q.1 = some q.2) (h : T P x n a ⟨fr, Mem.of L, c, ds⟩ Q) : T P x n a ⟨fr, m, c, ds⟩ Q :=
  K_drop (Mem.of L) (fun i o hi => by obtain ⟨q, h1, rfl, rfl⟩ := Mem.of_mem hi; exact hm q h1) h
theorem mem_sub {L : List (Oid × AObj)} {m : Mem} (hm : ∀ q, q ∈ L → m q.1 = some q.2) : ∀ i o, Mem.of L i = some o → m i = some o := fun i o hi => by
  obtain ⟨q, h1, rfl, rfl⟩ := Mem.of_mem hi; exact hm q h1
theorem of_put_at (i : Oid) (x : Option AObj) (l : List (Oid × AObj)) (j : Oid) : Mem.of (putL i x l) j = if j = i then x else Mem.of l j := by rw [← Mem.of_putL]; rfl
end Go.Ab
/- From an argument that is read whole to an abstract value; from a contract to what a row asks. -/
namespace Go.Ab
open Go.ChangeShapes Go.WideShapes
/-- What an abstract value says of a value, another one says too. -/
def AVle (a b : AV) : Prop := ∀ g v, VR g a v → VR g b v
theorem AVle.refl (a : AV) : AVle a a := fun _ _ h => h
theorem AVle.nil (sz : Nat) : AVle .nilSl (.list sz []) := fun _ _ h => by rw [h.nilSl_inv]; exact .listNil sz
inductive AVles : List AV → List AV → Prop
  | nil : AVles [] []
  | cons {a b : AV} {l m : List AV} (h : AVle a b) (t : AVles l m) : AVles (a :: l) (b :: m)
theorem AVles.length {l m : List AV} (h : AVles l m) : l.length = m.length := by
  induction h with
  | nil => rfl
  | cons _ _ ih => simp [ih]
theorem AVles.at {l m : List AV} (h : AVles l m) : ∀ j, AVle (l.getD j .undef) (m.getD j .undef) := by
  induction h with
  | nil => exact fun j => .refl _
  | cons h _ ih =>
    intro j
    cases j with
    | zero => exact h
    | succ j => simpa using ih j
theorem AVle.agg {l m : List AV} (h : AVles l m) : AVle (.agg l) (.agg m) := fun g v hv => by
  obtain ⟨a, rfl, h1, h2⟩ := hv.agg_inv
  exact .agg _ _ (h1.trans h.length) fun j hj => h.at j _ _ (h2 j (by rw [h.length]; exact hj))
/-- Cell by cell. -/
def ACle (a b : AV) : Prop := AVles a.cells b.cells
theorem ACle.agg {l m : List AV} (h : AVles l m) : ACle (.agg l) (.agg m) := h
inductive ACles : List AV → List AV → Prop
  | nil : ACles [] []
  | cons {a b : AV} {l m : List AV} (h : ACle a b) (t : ACles l m) : ACles (a :: l) (b :: m)
theorem ACles.length {l m : List AV} (h : ACles l m) : l.length = m.length := by
  induction h with
  | nil => rfl
  | cons _ _ ih => simp [ih]
theorem ACles.at {l m : List AV} (h : ACles l m) : ∀ j, ACle (l.getD j .undef) (m.getD j .undef) := by
  induction h with
  | nil => exact fun j => .cons (.refl _) .nil
  | cons h _ ih =>
    intro j
    cases j with
    | zero => exact h
    | succ j => simpa using ih j
theorem AVle.list {sz : Nat} {l m : List AV} (h : ACles l m) : AVle (.list sz l) (.list sz m) := fun g v hv => by
  rcases hv.list_inv with ⟨rfl, hu | ⟨a, cap, hu⟩⟩ | ⟨b, o, cap, cs, hu, h1, h2, h3, h4⟩
  · cases h; rw [hu]; exact .listNil _
  · cases h; rw [hu]; exact .listAny _ _ _
  · rw [hu, h.length]
    have hl := h.length
    exact .list sz m b o cap cs (by omega) (fun i hi => by have := (h.at i).length; have := h2 i (by omega); omega) (fun i j hi hj => h3 i j (by omega) hj) fun i j hi hj => (h.at i).at j _ _ (h4 i j (by omega) hj)
/-! ### the reading of arguments -/
/-- The ghost of a world in which everything is for good. -/
def ghAll (ng : Nat) (w : World) : Gh :=
  ⟨fun i => match i with | .root k => if k < ng then some (some k) else none | .sub .. => none | .ty .. => none,
    fun b o => match w.cell? ⟨b, o, none⟩ with | some v => if v.oneCell' = true then some v else none | none => none, fun b => match w.heap[b]? with | some (.cells c _ _) => some c.size | _ => none⟩
theorem ghAll_com {ng : Nat} {w : World} {b o : Nat} {v : Value} (h : w.cell? ⟨b, o, none⟩ = some v) (hv : v.oneCell' = true) : (ghAll ng w).com b o = some v := by
  simp only [ghAll, h, hv, if_true]
theorem ghAll_com' {ng : Nat} {w : World} {b o : Nat} {v : Value} (h : (ghAll ng w).com b o = some v) : w.cell? ⟨b, o, none⟩ = some v ∧ v.oneCell' = true := by
  simp only [ghAll] at h
  split at h
  · rename_i u hu
    split at h
    · rename_i h1; cases h; exact ⟨hu, h1⟩
    · cases h
  · cases h
theorem memRel_all (ng : Nat) (w : World) : MemRel ⟨ng, ghAll ng w, w, fun _ => False, .root ng, none⟩ (ghAll ng w) Mem.emp w where
  le := Gh.le_refl _
  locs _ _ := rfl
  glob k hk := by simp [ghAll, hk]
  coms _ _ _ h := .inl h
  obj0 _ _ h := by cases h
  inj _ _ _ _ _ h := by cases h
  com _ _ _ h := (ghAll_com' h).1
  one _ _ _ h := (ghAll_com' h).2
  rows b r h := by
    simp only [ghAll] at h
    split at h
    · rename_i c t fz hc; simp only [Option.some.injEq] at h; exact ⟨c, t, fz, hc, h⟩
    · cases h
  os := rfl
  tape := rfl
  output := ⟨rfl, fun _ => Nat.le_refl _⟩
  size := Nat.le_refl _
  kept _ _ _ := rfl
  typs _ _ _ h := by cases h
/-- What a value of type t reads as. -/
structure Rd (P : Program) (t : TypeId) {α : Type} (A : α → AV) (V : α → Prop) : Prop where
  len : ∀ a, (A a).cells.length = P.cellsOf t
  rd : ∀ {H : Type} {enc : TypeId × Value → H} {w : World} {ng base fuel : Nat} {spare : Nat → Bool} {held : Bool} {cs : List Value} {x : DataW H × List MemPlace}, DataW.trod enc P w base spare held fuel t cs = some x →
    (∀ n ∈ x.1.weights P t, n ≤ reachBytes) → ∃ a : α, V a ∧ cs.length = P.cellsOf t ∧ ∀ j, j < cs.length → (cs.getD j undef).oneCell' = true ∧ VR (ghAll ng w) ((A a).cells.getD j .undef) (cs.getD j undef)
section
variable {P : Program} [Laid P] {t : TypeId} {α β : Type} {A : α → AV} {V : α → Prop}
theorem Rd.map {B : β → AV} {W : β → Prop} (h : Rd P t A V) (f : α → β) (hA : ∀ a, V a → A a = B (f a)) (hl : ∀ b, (B b).cells.length = P.cellsOf t) (hV : ∀ a, V a → W (f a)) : Rd P t B W :=
  ⟨hl, fun {H enc w ng base fuel spare held cs x} h1 h2 => by
    obtain ⟨a, k1, k2, k3⟩ := h.rd (ng := ng) h1 h2
    exact ⟨f a, hV a k1, k2, by rw [← hA a k1]; exact k3⟩⟩
theorem rd_one {a : AV} {v : Value} {g : Gh} (hc : a.cells = [a]) (hv : VR g a v) (h1 : v.oneCell' = true) : ∀ j, j < [v].length → (([v] : List Value).getD j undef).oneCell' = true ∧ VR g (a.cells.getD j .undef) (([v] : List Value).getD j undef) := by
  intro j hj
  obtain rfl : j = 0 := by simp at hj; exact hj
  rw [hc]; exact ⟨h1, hv⟩
theorem rd_int {k : IntKind} (ht : P.underlying t = some (.int k)) (hc : P.cellsOf t = 1) : Rd P t (AV.int k) (fun n => (Lit.int k n).wf = true) :=
  ⟨fun _ => hc.symm, fun h _ => by
    obtain ⟨n, rfl, rfl, hw⟩ := DataW.trod_int ht h
    exact ⟨n, hw, hc.symm, rd_one rfl (.int k n) rfl⟩⟩
theorem rd_u8 (ht : P.underlying t = some (.int .u8)) (hc : P.cellsOf t = 1) : Rd P t (fun b : UInt8 => AV.int .u8 b.toNat) (fun _ => True) :=
  (rd_int ht hc).map (fun n => UInt8.ofNat n.toNat) (fun n hn => by
    have h1 : 0 ≤ n ∧ n ≤ 255 := by simpa [Lit.wf, IntKind.min, IntKind.max, IntKind.signed, IntKind.bits] using hn
    show AV.int .u8 n = AV.int .u8 _
    congr 1
    rw [UInt8.toNat_ofNat', Nat.mod_eq_of_lt (by omega)]; omega) (fun _ => hc.symm) (fun _ _ => trivial)
theorem mem_weightsAll {H : Type} {e : TypeId} {n : Nat} : ∀ {l : List (DataW H)} {d : DataW H}, d ∈ l → n ∈ d.weights P e → n ∈ DataW.weightsAll P e l
  | [], _, h, _ => by cases h
  | x :: l, d, h, hn => by
    rw [DataW.weightsAll]
    rcases List.mem_cons.1 h with rfl | h
    · exact List.mem_append_left _ hn
    · exact List.mem_append_right _ (mem_weightsAll h hn)
theorem choose_list {p : Nat → α → Prop} : ∀ (n : Nat), (∀ i, i < n → ∃ a, p i a) → ∃ l : List α, l.length = n ∧ ∀ i, i < n → ∃ a, l[i]? = some a ∧ p i a
  | 0, _ => ⟨[], rfl, fun i hi => absurd hi (Nat.not_lt_zero _)⟩
  | n + 1, h => by
    obtain ⟨l, h1, h2⟩ := choose_list n fun i hi => h i (Nat.lt_succ_of_lt hi)
    obtain ⟨a, ha⟩ := h n (Nat.lt_succ_self _)
    refine ⟨l ++ [a], by simp [h1], fun i hi => ?_⟩
    by_cases e : i < n
    · obtain ⟨b, hb, hp⟩ := h2 i e
      exact ⟨b, by rw [List.getElem?_append_left (by omega)]; exact hb, hp⟩
    · obtain rfl : i = n := by omega
      exact ⟨a, by rw [List.getElem?_append_right (by omega), h1, Nat.sub_self]; rfl, ha⟩
theorem mapM_at {β : Type} {f : Nat → Option β} : ∀ {l : List Nat} {r : List β}, l.mapM f = some r → r.length = l.length ∧ ∀ i, i < l.length → f (l.getD i 0) = r[i]?
  | [], r, h => by simp at h; subst h; exact ⟨rfl, fun i hi => absurd hi (Nat.not_lt_zero _)⟩
  | x :: l, r, h => by
    simp only [List.mapM_cons, Option.bind_eq_bind, Option.bind_eq_some_iff] at h
    obtain ⟨y, hy, ys, hys, e⟩ := h
    cases e
    obtain ⟨h1, h2⟩ := mapM_at hys
    refine ⟨by simp [h1], fun i hi => ?_⟩
    cases i with
    | zero => simpa using hy
    | succ i => simpa using h2 i (by simpa using hi)
theorem cells?_at {w : World} {base n : Nat} {a : Addr} {cs : List Value} (h : w.cells? base a n = some cs) : cs.length = n ∧ ∀ j, j < n → w.cell? (a.add j) = cs[j]? := by
  unfold World.cells? at h
  split at h
  · obtain ⟨h1, h2⟩ := mapM_at h
    rw [List.length_range] at h1
    refine ⟨h1, fun j hj => ?_⟩
    have := h2 j (by simpa using hj)
    rwa [List.getD_eq_getElem?_getD, List.getElem?_range hj] at this
  · cases h
theorem spot_none {w : World} {a : Addr} {v : Value} (h : w.cell? a = some v) : a.spot = none := by
  unfold World.cell? at h
  split at h
  · split at h
    · cases h
    · rename_i e; simpa using e
  · cases h
theorem addr_spot {a : Addr} (h : a.spot = none) (n : Nat) : a.add n = ⟨a.block, a.off + n, none⟩ := by
  unfold Addr.add
  split
  · rename_i e; subst e; cases a; simp_all
  · rfl
theorem rd_slice {e : TypeId} (ht : P.underlying t = some (.slice e)) (hc : P.cellsOf t = 1) (hp : 0 < P.cellsOf e) (hE : Rd P e A V) : Rd P t (fun l : List α => .list (P.cellsOf e) (l.map A)) (fun l => l.length * P.bytesOf e ≤ reachBytes ∧ ∀ a ∈ l, V a) :=
  ⟨fun _ => hc.symm, fun {H enc w ng base fuel spare held cs x} h hw => by
    rcases DataW.trod_slice ht h with ⟨rfl, rfl⟩ | ⟨a, len, cap, elems, rest, n, _, rfl, rfl, hb, hl, hm, hlen, hel, _, _⟩
    · exact ⟨[], ⟨by simp, fun _ h => by cases h⟩, hc.symm, rd_one rfl (.listNil _) rfl⟩
    simp only [DataW.weights, ht, List.mem_cons, List.mem_append] at hw
    have hwt := hw _ (.inl rfl)
    simp only [List.length_map] at hwt
    have key : ∀ i, i < len → ∃ (y : α × (Nat → Value)), V y.1 ∧ ∀ j, j < P.cellsOf e → w.cell? ((a.add (i * P.cellsOf e)).add j) = some (y.2 j) ∧ (y.2 j).oneCell' = true ∧ VR (ghAll ng w) ((A y.1).cells.getD j .undef) (y.2 j) := by
      intro i hi
      have h1 := hel i hi
      rw [List.getElem?_eq_getElem (by omega)] at h1
      simp only [Option.bind_eq_some_iff] at h1
      obtain ⟨cs', h2, h3⟩ := h1
      obtain ⟨h4, h5⟩ := cells?_at h2
      obtain ⟨y, k1, k2, k3⟩ := hE.rd (ng := ng) h3 fun m hm => hw m (.inr (.inl (mem_weightsAll (List.mem_map.2 ⟨_, List.getElem_mem (by omega : i < elems.length), rfl⟩) hm)))
      refine ⟨(y, fun j => cs'.getD j undef), k1, fun j hj => ⟨?_, k3 j (by omega)⟩⟩
      show _ = some (cs'.getD j undef)
      rw [h5 j hj, List.getD_eq_getElem?_getD, List.getElem?_eq_getElem (by omega)]; rfl
    obtain ⟨l, hl1, hl2⟩ := choose_list len key
    have hsp : 0 < len → a.spot = none := fun h0 => by
      obtain ⟨y, _, _, h2⟩ := hl2 0 h0
      have h3 := spot_none (h2 0 hp).1
      simpa [Addr.add] using h3
    refine ⟨l.map (·.1), ⟨?_, fun b hb => ?_⟩, hc.symm, rd_one rfl ?_ rfl⟩
    · rw [List.length_map, hl1]
      exact Nat.le_trans (Nat.mul_le_mul_right _ (by omega)) hwt
    · obtain ⟨y, hy, rfl⟩ := List.mem_map.1 hb
      obtain ⟨i, hi, e1⟩ := List.getElem_of_mem hy
      obtain ⟨z, hz, h1, _⟩ := hl2 i (by omega)
      rw [List.getElem?_eq_getElem hi, e1] at hz
      cases hz; exact h1
    · by_cases h0 : len = 0
      · subst h0
        obtain rfl := List.eq_nil_of_length_eq_zero hl1
        exact .listAny _ _ _
      have hs := hsp (by omega)
      have e1 : ((l.map (·.1)).map A).length = len := by simp [hl1]
      have hat : ∀ i, i < len → ∃ y : α × (Nat → Value), ((l.map (·.1)).map A).getD i .undef = A y.1 ∧ (l.getD i (y.1, fun _ => undef)).2 = y.2 ∧ (∀ j, j < P.cellsOf e → w.cell? ((a.add (i * P.cellsOf e)).add j) = some (y.2 j) ∧ (y.2 j).oneCell' = true ∧ VR (ghAll ng w) ((A y.1).cells.getD j .undef) (y.2 j)) := by
        intro i hi
        obtain ⟨y, hy, _, h2⟩ := hl2 i hi
        refine ⟨y, ?_, ?_, h2⟩
        · simp [List.getD_eq_getElem?_getD, hy]
        · simp [List.getD_eq_getElem?_getD, hy]
      have := VR.list (g := ghAll ng w) (P.cellsOf e) ((l.map (·.1)).map A) a.block a.off cap (fun i j => (match l[i]? with | some y => y.2 | none => fun _ => undef) j) (by omega)
        (fun i hi => by
          obtain ⟨y, h1, _⟩ := hat i (by omega)
          rw [h1]; exact hE.len _)
        (fun i j hi hj => by
          obtain ⟨y, hy, _, h2⟩ := hl2 i (by omega)
          simp only [hy]
          obtain ⟨h3, h4, _⟩ := h2 j hj
          rw [addr_spot hs, addr_spot rfl] at h3
          exact ghAll_com h3 h4)
        (fun i j hi hj => by
          obtain ⟨y, hy, _, h2⟩ := hl2 i (by omega)
          simp only [hy, List.getD_eq_getElem?_getD, List.getElem?_map, Option.map_some, Option.getD_some]
          have h5 := (h2 j hj).2.2
          rwa [List.getD_eq_getElem?_getD] at h5)
      rw [e1] at this
      have ea : a = ⟨a.block, a.off, none⟩ := by cases a; simp_all
      rw [ea]; exact this⟩
end
/-- A struct's fields, one by one. -/
structure RdF (P : Program) (fs : List Field) (off tot : Nat) {β : Type} (B : β → List AV) (W : β → Prop) : Prop where
  len : ∀ b, (B b).length = tot
  rd : ∀ {H : Type} {enc : TypeId × Value → H} {w : World} {ng base fuel : Nat} {spare : Nat → Bool} {held : Bool} {cs : List Value} {xs : List (DataW H × List MemPlace)}, xs.length = fs.length →
    (∀ (i : Nat) (f : Field), fs[i]? = some f → DataW.trod enc P w base spare held fuel f.type ((cs.drop f.offset).take (P.cellsOf f.type)) = xs[i]?) → (∀ n ∈ DataW.weightsEach P (fs.map (·.type)) (xs.map (·.1)), n ≤ reachBytes) → cs.length = off + tot →
    ∃ b : β, W b ∧ ∀ j, j < tot → (cs.getD (off + j) undef).oneCell' = true ∧ VR (ghAll ng w) ((B b).getD j .undef) (cs.getD (off + j) undef)
section
variable {P : Program} [Laid P] {t : TypeId} {α β : Type} {A : α → AV} {V : α → Prop}
theorem rdF_nil (off : Nat) : RdF P [] off 0 (fun _ : Unit => []) (fun _ => True) := ⟨fun _ => rfl, fun _ _ _ _ => ⟨(), trivial, fun j hj => absurd hj (Nat.not_lt_zero _)⟩⟩
theorem rdF_cons {f : Field} {fs : List Field} {off tot : Nat} {B : β → List AV} {W : β → Prop} (ho : f.offset = off) (hA : Rd P f.type A V) (hB : RdF P fs (off + P.cellsOf f.type) tot B W) :
    RdF P (f :: fs) off (P.cellsOf f.type + tot) (fun p : α × β => (A p.1).cells ++ B p.2) (fun p => V p.1 ∧ W p.2) :=
  ⟨fun p => by rw [List.length_append, hA.len, hB.len], fun {H enc w ng base fuel spare held cs xs} hx hf hw hl => by
    match xs, hx with
    | x :: xs, hx =>
      have h0 := hf 0 f rfl
      simp only [List.getElem?_cons_zero] at h0
      simp only [List.map_cons, DataW.weightsEach, List.mem_append] at hw
      obtain ⟨a, k1, k2, k3⟩ := hA.rd (ng := ng) h0 fun n hn => hw n (.inl hn)
      obtain ⟨b, k4, k5⟩ := hB.rd (ng := ng) (cs := cs) (xs := xs) (by simpa using hx) (fun i f' hi => by simpa using hf (i + 1) f' (by simpa using hi)) (fun n hn => hw n (.inr hn)) (by omega)
      refine ⟨(a, b), ⟨k1, k4⟩, fun j hj => ?_⟩
      have hla := hA.len a
      by_cases e : j < P.cellsOf f.type
      · have := k3 j (by rw [k2]; exact e)
        have e1 : ((cs.drop f.offset).take (P.cellsOf f.type)).getD j undef = cs.getD (off + j) undef := by
          simp [List.getD_eq_getElem?_getD, List.getElem?_take, e, List.getElem?_drop, ho]
        rw [e1] at this
        have e2 : ((A a).cells ++ B b).getD j .undef = (A a).cells.getD j .undef := by
          simp [List.getD_eq_getElem?_getD, List.getElem?_append_left (by omega : j < (A a).cells.length)]
        show _ ∧ VR _ (((A a).cells ++ B b).getD j .undef) _
        rw [e2]; exact this
      · have := k5 (j - P.cellsOf f.type) (by omega)
        rw [show off + P.cellsOf f.type + (j - P.cellsOf f.type) = off + j by omega] at this
        have e2 : ((A a).cells ++ B b).getD j .undef = (B b).getD (j - P.cellsOf f.type) .undef := by
          simp [List.getD_eq_getElem?_getD, List.getElem?_append_right (by omega : (A a).cells.length ≤ j), hla]
        show _ ∧ VR _ (((A a).cells ++ B b).getD j .undef) _
        rw [e2]; exact this⟩
theorem rd_struct {fs : Array Field} {tot : Nat} {B : β → List AV} {W : β → Prop} (ht : P.underlying t = some (.struct fs)) (hc : P.cellsOf t = tot) (hF : RdF P fs.toList 0 tot B W) : Rd P t (fun b => .agg (B b)) W :=
  ⟨fun b => (hF.len b).trans hc.symm, fun {H enc w ng base fuel spare held cs x} h hw => by
    obtain ⟨xs, n, _, rfl, hl, hlen, hf⟩ := DataW.trod_struct ht h
    simp only [DataW.weights, ht] at hw
    obtain ⟨b, k1, k2⟩ := hF.rd (ng := ng) (xs := xs) (by simpa using hlen) (fun i f hi => hf i f (by simpa using hi)) hw (by omega)
    refine ⟨b, k1, hl, fun j hj => ?_⟩
    have := k2 j (by omega)
    rwa [Nat.zero_add] at this⟩
/-- An argument. -/
theorem Rd.arg_one (h : Rd P t A V) (hc : P.cellsOf t = 1) {H : Type} {enc : TypeId × Value → H} {w : World} {ng base : Nat} {spare : Nat → Bool} {held : Bool} {v : Value} {d : DataW H} {ps : List MemPlace} (hone : v.oneCell' = true)
    (hA : ∀ a, V a → (A a).cells = [A a]) (hd : DataW.Trod enc P w base spare held t v d ps) (hw : ∀ n ∈ d.weights P t, n ≤ reachBytes) : ∃ a, V a ∧ VR (ghAll ng w) (A a) v := by
  obtain ⟨fuel, hd⟩ := hd
  obtain ⟨a, k1, k2, k3⟩ := h.rd (ng := ng) hd hw
  refine ⟨a, k1, ?_⟩
  have e : v.cells.toList = [v] := by cases v <;> first | rfl | (simp [Value.oneCell'] at hone)
  rw [e] at k3
  have := (k3 0 (by simp)).2
  rwa [hA a k1] at this
/-! ### what a row asks -/
theorem trodAll_carry {H : Type} {enc : TypeId × Value → H} {w w' : World} {base : Nat} {spare' : Nat → Bool} (hl : laidOutB P = true) (hz : ∀ t e, t < P.types.size → P.underlying t = some (.slice e) → 0 < P.cellsOf e) :
    ∀ {ts : List TypeId} {vs : List Value} {ds : List (DataW H)} {ps : List MemPlace}, (∀ t ∈ ts, P.readableRec t = true ∧ t < P.types.size) → DataW.TrodAll enc P w base (fun _ => true) true ts vs ds ps → (∀ p ∈ ps, w.sameAt w' p) → (∀ p ∈ ps, spare' p.block = true) →
      DataW.TrodAll enc P w' base spare' true ts vs ds ps
  | [], [], [], _, _, h, _, _ => h
  | t :: ts, v :: vs, d :: ds, ps, hr, ⟨p, q, h1, h2, e⟩, hs, hsp => by
    have ht := hr t List.mem_cons_self
    refine ⟨p, q, ?_, trodAll_carry hl hz (fun t ht => hr t (List.mem_cons_of_mem _ ht)) h2 (fun x hx => hs x (by rw [e]; exact List.mem_append_right _ hx)) (fun x hx => hsp x (by rw [e]; exact List.mem_append_right _ hx)), e⟩
    have h3 : DataW.Trod enc P w base spare' true t v d p := h1.respare (kids_book hl ht.1) (fun u e' hu => hz u e' hu.1) ⟨ht.2, book_self t⟩ fun x hx => hsp x (by rw [e]; exact List.mem_append_left _ hx)
    obtain ⟨n, hn⟩ := h3
    exact ⟨n, DataW.trod_carry n _ _ _ hn fun x hx => hs x (by rw [e]; exact List.mem_append_left _ hx)⟩
theorem law_post {H : Type} {enc : TypeId × Value → H} {f : FuncId} {fn : Func} {s : ChangeSpec} {tb : TypeId} (hl : laidOutB P = true) (hz : ∀ t e, t < P.types.size → P.underlying t = some (.slice e) → 0 < P.cellsOf e) (hr : ∀ t ∈ fn.params.toList, P.readableRec t = true ∧ t < P.types.size)
    (hrt : fn.resultTypes = #[tb]) (htb : P.underlying tb = some .bool) (hv : s.vars = []) {W : World} {args : Array Value} {ds gs : List (DataW H)} {before : List MemPlace} (hW : DataW.Whole enc P fn.params.toList s.vars false W args.toList ds gs before)
    (hfn : s.fn H ds = { results := [.lit (.bool true)], args := ds }) {avs : List AV} (ha : VRs (ghAll P.globals.size W) avs args) (hcall : CallOK P f avs (Oid.under (.root P.globals.size)) ⟨[], .bool true, []⟩) (hLaid : Laid.facts P (ghAll P.globals.size W)) :
    Calls P f args W fun e W' => ∃ v, e = .returned v ∧ s.post enc P fn false true false false W args v W' := by
  refine (hcall.calls ⟨P.globals.size, ghAll P.globals.size W, W, fun _ => False, .root P.globals.size, none⟩ _ args W Mem.emp (memRel_all _ _) (fun q hq => by cases hq) ha (fun i hi => ⟨?_, hi⟩) ⟨Nat.le_refl _, hLaid⟩).mono ?_
  · cases i with
    | root k =>
      simp only [Oid.under, Oid.root.injEq] at hi
      subst hi
      simp [ghAll]
    | sub => rfl
    | ty => rfl
  rintro en W' ⟨g', v, rfl, hle, hloc, hvr, hm⟩
  obtain rfl := hvr.bool_inv
  refine ⟨_, rfl, ?_⟩
  have hW0 := hW
  obtain ⟨p, q, hA, hV, rfl, hfz, hnd⟩ := hW
  rw [hv] at hV
  obtain ⟨rfl, rfl⟩ := trodVars_none hV
  rw [List.append_nil] at hW0 hfz
  have hsame : ∀ p' ∈ p, W.sameAt W' p' := fun p' hp' => by
    have hlt := hW0.lt p' hp'
    have hh := hm.kept p'.block hlt (fun h => h)
    cases p' with
    | cell b o => simp only [World.sameAt, World.cell?]; simp only [MemPlace.block] at hh; rw [hh]
    | map b => exact hh
  have hargs : ∀ sp : Nat → Bool, (∀ p' ∈ p, sp p'.block = true) → DataW.TrodAll enc P W' 0 sp true fn.params.toList args.toList ds p := fun sp hsp => trodAll_carry hl hz hr hA hsame hsp
  have hres : ∀ (b : Nat) (sp : Nat → Bool) (hd : Bool), DataW.TrodAll enc P W' b sp hd fn.resultTypes.toList ((Value.bool true).resultList fn.resultTypes.size) [.lit (.bool true)] [] := by
    intro b sp hd
    rw [hrt]
    exact ⟨[], [], RowKit.shut_bool htb _, rfl, rfl⟩
  have hold : ∀ p' ∈ p, (fun b => decide (b < W.heap.size)) p'.block = true := fun p' hp' => by simpa using hW0.lt p' hp'
  refine ⟨ds, [], p, [], p, [], hW0, by rw [List.append_nil, hfn]; exact hres _ _ _, by rw [List.append_nil, hfn]; exact hargs _ hold, by rw [hv, List.append_nil, hfn]; exact rfl, ?_, fun h => by cases h⟩
  exact World.keptBut_mono (fun p' hp' => hp'.elim) (may := fun _ => False) ⟨hm.os, hm.output.1, fun i hi => by
    have hk : W'.heap[i]? = W.heap[i]? := hm.kept i hi (fun h => h)
    rw [hk]
    exact (World.keptBut_refl W (fun _ => False)).2.2 i hi⟩
/-- The arguments, one by one. -/
structure RdA (P : Program) (ts : List TypeId) {β : Type} (B : β → List AV) (W : β → Prop) : Prop where
  rd : ∀ {H : Type} {enc : TypeId × Value → H} {w : World} {ng base b0 : Nat} {r : Reach} {vs : List Value} {ds : List (DataW H)} {ps : List MemPlace}, (∀ (j : Nat) t v, ts[j]? = some t → vs[j]? = some v → Value.okWide P w r base t v) →
    DataW.TrodAll enc P w b0 (fun _ => true) true ts vs ds ps → (∀ n ∈ DataW.weightsEach P ts ds, n ≤ reachBytes) → ∃ b, W b ∧ vs.length = (B b).length ∧ ∀ j, j < vs.length → VR (ghAll ng w) ((B b).getD j .undef) (vs.getD j undef)
theorem okWide_slice {w : World} {r : Reach} {base : Nat} {e : TypeId} {v : Value} (ht : P.underlying t = some (.slice e)) (h : Value.okWide P w r base t v) : v.oneCell' = true := by
  simp only [Value.okWide, ht, Cell.okWide, Cell.ok] at h
  cases v <;> first | rfl | exact h.elim
theorem rdA_nil : RdA P [] (fun _ : Unit => []) (fun _ => True) := ⟨fun {H enc w ng base b0 r vs ds ps} _ h _ => by
  obtain ⟨rfl, rfl, rfl⟩ := trodAll_nil h
  exact ⟨(), trivial, rfl, fun j hj => absurd hj (Nat.not_lt_zero _)⟩⟩
theorem rdA_cons {ts : List TypeId} {B : β → List AV} {W : β → Prop} (k : ∀ {H : Type} {enc : TypeId × Value → H} {w : World} {ng base b0 : Nat} {r : Reach} {v : Value} {d : DataW H} {ps : List MemPlace}, Value.okWide P w r base t v →
    DataW.Trod enc P w b0 (fun _ => true) true t v d ps → (∀ n ∈ d.weights P t, n ≤ reachBytes) → ∃ a, V a ∧ VR (ghAll ng w) (A a) v) (hB : RdA P ts B W) : RdA P (t :: ts) (fun p : α × β => A p.1 :: B p.2) (fun p => V p.1 ∧ W p.2) :=
  ⟨fun {H enc w ng base b0 r vs ds ps} hok h hw => by
    obtain ⟨v, vs', d, ds', p, q, rfl, rfl, rfl, h1, h2⟩ := trodAll_cons h
    simp only [DataW.weightsEach, List.mem_append] at hw
    obtain ⟨a, k1, k2⟩ := k (ng := ng) (hok 0 t v rfl rfl) h1 fun n hn => hw n (.inl hn)
    obtain ⟨b, k3, k4, k5⟩ := hB.rd (ng := ng) (fun j t v ht hv => hok (j + 1) t v ht hv) h2 fun n hn => hw n (.inr hn)
    refine ⟨(a, b), ⟨k1, k3⟩, by simp [k4], fun j hj => ?_⟩
    cases j with
    | zero => exact k2
    | succ j => simpa using k5 j (by simpa using hj)⟩
theorem rdA_slice {ts : List TypeId} {B : β → List AV} {W : β → Prop} {e : TypeId} (ht : P.underlying t = some (.slice e)) (hc : P.cellsOf t = 1) (hA1 : ∀ a, (A a).cells = [A a]) (hA : Rd P t A V) (hB : RdA P ts B W) : RdA P (t :: ts) (fun p : α × β => A p.1 :: B p.2) (fun p => V p.1 ∧ W p.2) :=
  rdA_cons (fun hok hd hw => hA.arg_one hc (okWide_slice ht hok) (fun a _ => hA1 a) hd hw) hB
theorem trodAll_length {H : Type} {enc : TypeId × Value → H} {w : World} {base : Nat} {sp : Nat → Bool} {held : Bool} : ∀ {ts : List TypeId} {vs : List Value} {ds : List (DataW H)} {ps : List MemPlace}, DataW.TrodAll enc P w base sp held ts vs ds ps → ds.length = ts.length
  | [], [], [], _, _ => rfl
  | _ :: _, _ :: _, _ :: _, _, ⟨_, _, _, h, _⟩ => by simp [trodAll_length h]
end
end Go.Ab
/- The walk's own words, short: the structural steps as one inductive predicate; the closed sums as a part of the simp set. -/
namespace Go.Ab
attribute [go_sem] Nat.reduceEqDiff Nat.reduceAdd Nat.reduceMul Nat.reduceLT Nat.reduceLeDiff reduceCtorEq Nat.reduceBEq Int.reduceToNat Int.reduceNeg
attribute [go_sem ↓] reduceIte
theorem zb1 {p : Prop} [Decidable p] : (decide p = true) = p := decide_eq_true_eq
theorem zb2 {p : Prop} [Decidable p] : (decide p = false) = ¬ p := propext decide_eq_false_iff_not
theorem zb3 (b : Bool) : ((!b) = true) = (b = false) := Bool.not_eq_true' b
theorem zb4 (b : Bool) : ((!b) = false) = (b = true) := Bool.not_eq_false' b
theorem zb5 (a b : Bool) : ((a && b) = true) = (a = true ∧ b = true) := Bool.and_eq_true a b
/-- Where a walk stands: at a piece of code, behind one, on the way out of a block. -/
inductive Ps where
  | at (c : Code)
  | nrm
  | ex (i : Nat)
@[irreducible] def Lend (P : Prop) : Prop := P
theorem zl {p : Prop} (h : p) : Lend p := by unfold Lend; exact h
theorem lendOut {p : Prop} (h : Lend p) : p := by unfold Lend at h; exact h
inductive Stp (P : Program) (x : Ctx) (n : Nat) (Q : AX → AS → Prop) : Bool → Bool → Ps → List Pc → AS → Prop
  | seq {u v} {a b : Code} {ks s} : Stp P x n Q u true (.at a) (.code b :: ks) s → Stp P x n Q u v (.at (.seq a b)) ks s
  | skip {u v ks s} : Stp P x n Q u true .nrm ks s → Stp P x n Q u v (.at .skip) ks s
  | block {v i a ks s} : Stp P x n Q true true (.at a) (.bend i :: ks) s → Stp P x n Q true v (.at (.block i a)) ks s
  | exit {u v i ks s} : Stp P x n Q u true (.ex i) ks s → Stp P x n Q u v (.at (.exit i)) ks s
  | next {u v a ks s} : Stp P x n Q u true (.at a) ks s → Stp P x n Q u v .nrm (.code a :: ks) s
  | bend {u v i ks s} : Stp P x n Q u true .nrm ks s → Stp P x n Q u v .nrm (.bend i :: ks) s
  | lend {u v ts I k ks fr m c ds} : Lend (∃ k' m', k' < k ∧ (∀ i o, m' i = some o → m i = some o) ∧ I k' ⟨keepF ts fr, m', c, ds⟩) → Stp P x n Q u v .nrm (.lend ts I k :: ks) ⟨fr, m, c, ds⟩
  | xcode {u v a i ks s} : Stp P x n Q u true (.ex i) ks s → Stp P x n Q u v (.ex i) (.code a :: ks) s
  | xlend {u v ts I k i ks s} : Stp P x n Q u true (.ex i) ks s → Stp P x n Q u v (.ex i) (.lend ts I k :: ks) s
  | xhere {u v i ks s} : Stp P x n Q u true .nrm ks s → Stp P x n Q u v (.ex i) (.bend i :: ks) s
  | xon {u v i j ks s} : Nat.beq i j = false → Stp P x n Q u true (.ex i) ks s → Stp P x n Q u v (.ex i) (.bend j :: ks) s
  | ofT {u c ks s} : T P x n c s (after P x n Q ks) → Stp P x n Q u true (.at c) ks s
  | ofN {u ks s} : after P x n Q ks .normal s → Stp P x n Q u true .nrm ks s
  | ofX {u i ks s} : after P x n Q ks (.exit i) s → Stp P x n Q u true (.ex i) ks s
def StpG (P : Program) (x : Ctx) (n : Nat) (Q : AX → AS → Prop) : Ps → List Pc → AS → Prop
  | .at c, ks, s => T P x n c s (after P x n Q ks)
  | .nrm, ks, s => after P x n Q ks .normal s
  | .ex i, ks, s => after P x n Q ks (.exit i) s
theorem Stp.ok {P : Program} [Laid P] {x : Ctx} {n : Nat} {Q : AX → AS → Prop} {p : Ps} {ks : List Pc} {s : AS} {u v : Bool} (h : Stp P x n Q u v p ks s) : StpG P x n Q p ks s := by
  induction h with
  | seq _ ih => exact K_seq ih
  | skip _ ih => exact K_skip ih
  | block _ ih => exact K_block ih
  | exit _ ih => exact K_exit ih
  | next _ ih => exact ih
  | bend _ ih => exact ih
  | lend h => exact lendOut h
  | xcode _ ih => exact ih
  | xlend _ ih => exact ih
  | xhere _ ih => exact X_here ih
  | xon hb _ ih => exact X_on hb ih
  | ofT h => exact h
  | ofN h => exact h
  | ofX h => exact h
section
variable {P : Program} [Laid P] {x : Ctx} {n : Nat} {Q : AX → AS → Prop} {ks : List Pc} {s : AS}
theorem zk {c : Code} (h : Stp P x n Q true false (.at c) ks s) : T P x n c s (after P x n Q ks) := h.ok
theorem zn (h : Stp P x n Q true false .nrm ks s) : after P x n Q ks .normal s := h.ok
theorem ze {i : Nat} (h : Stp P x n Q true false (.ex i) ks s) : after P x n Q ks (.exit i) s := h.ok
theorem zu {c : Code} (h : Stp P x n Q false false (.at c) ks s) : T P x n c s (after P x n Q ks) := h.ok
theorem zv (h : Stp P x n Q false false .nrm ks s) : after P x n Q ks .normal s := h.ok
theorem zw {i : Nat} (h : Stp P x n Q false false (.ex i) ks s) : after P x n Q ks (.exit i) s := h.ok
end
end Go.Ab
namespace Go.Ab
open Go.RowKit
theorem mono_of_sub {p q : Oid} (h : Oid.under p q) (hq : q.mono = false) : p.mono = false := by
  cases hp : p.mono with
  | false => rfl
  | true => rw [Oid.mono_under h hp] at hq; cases hq
/-- Nothing old has turned: all that is told of the world still holds. -/
theorem MemRel.below {x : Ctx} {g : Gh} {m : Mem} {w w' : World} (h : MemRel x g m w) (hb : Below w.heap.size w w') (hp : x.p.mono = false) : MemRel x g m w' where
  le := h.le
  locs := h.locs
  glob := h.glob
  coms := h.coms
  obj0 i o hi := (h.obj0 i o hi).imp id fun ⟨b, h1, h2, h3, h4⟩ => ⟨b, h1, h2, h3, ObjAt.block (hb.block b h4.lt) h4⟩
  inj := h.inj
  com b o v hv := by
    have h1 := h.com b o v hv
    have hlt : b < w.heap.size := by
      rcases Nat.lt_or_ge b w.heap.size with h2 | h2
      · exact h2
      · simp [World.cell?, Array.getElem?_eq_none h2] at h1
    simp only [World.cell?] at h1 ⊢
    rw [hb.block b hlt]; exact h1
  one := h.one
  rows b r hr := by
    obtain ⟨c, t, fz, h1, h2⟩ := h.rows b r hr
    exact ⟨c, t, fz, by rw [hb.block b (Array.getElem?_eq_some_iff.1 h1).1]; exact h1, h2⟩
  os := hb.os.trans h.os
  tape := hb.tape.trans h.tape
  output := ⟨hb.output.trans h.output.1, fun hm => by rw [hp] at hm; cases hm⟩
  size := Nat.le_trans h.size hb.size
  kept b hlt hm := (hb.block b (Nat.lt_of_lt_of_le hlt h.size)).trans (h.kept b hlt hm)
  typs t q b hl := (h.typs t q b hl).imp fun c ⟨fz, h1⟩ => ⟨fz, by rw [hb.block b (Array.getElem?_eq_some_iff.1 h1).1]; exact h1⟩
/-- What is told of a world: the cells that are for good, the rows' lengths, the program's own facts. -/
structure TellsW (P : Program) [Laid P] (g : Gh) (w : World) : Prop where
  com : ∀ b o v, g.com b o = some v → w.cell? ⟨b, o, none⟩ = some v
  rows : ∀ b r, g.row b = some r → ∃ c t fz, w.heap[b]? = some (.cells c t fz) ∧ c.size = r
  glob : ∀ k, k < P.globals.size → g.loc (.root k) = some (some k)
  facts : Laid.facts P g
theorem MemRel.told {P : Program} [Laid P] {x : Ctx} {g : Gh} {m : Mem} {w : World} (h : MemRel x g m w) (hx : Fit P x) : TellsW P g w :=
  ⟨h.com, h.rows, fun k hk => h.glob k (Nat.lt_of_lt_of_le hk hx.1), Laid.mono h.le hx.2⟩
/-- A contract of the shelf that hands back a value and turns nothing old. -/
theorem callOK_below {P : Program} [Laid P] {f : FuncId} {xs : List AV} {p : Oid} {val : AV} (he : entersB P f = true) (hp : p.mono = false)
    (h : ∀ (g : Gh) (args : Array Value) (w : World), VRs g xs args → TellsW P g w → Calls P f args w fun en w' => ∃ v, en = .returned v ∧ VR g val v ∧ Below w.heap.size w w') : CallOK P f xs (Oid.under p) ⟨[], val, []⟩ :=
  ⟨he, fun x g args w m hm _ ha hs hx => (h g args w ha (hm.told hx)).mono fun _ _ ⟨v, h1, h2, h3⟩ => ⟨g, v, h1, Gh.le_refl g, fun _ _ => rfl, h2, hm.below h3 (mono_of_sub (hs p (Oid.under_refl p)).2 hp)⟩⟩
/-- One whose world is as it was. -/
theorem callOK_same {P : Program} [Laid P] {f : FuncId} {xs : List AV} {sp : Oid → Prop} {val : AV} (he : entersB P f = true)
    (h : ∀ (g : Gh) (args : Array Value) (w : World), VRs g xs args → TellsW P g w → Calls P f args w fun en w' => ∃ v, en = .returned v ∧ VR g val v ∧ w' = w) : CallOK P f xs sp ⟨[], val, []⟩ :=
  ⟨he, fun x g args w m hm _ ha hs hx => (h g args w ha (hm.told hx)).mono fun _ _ ⟨v, h1, h2, h3⟩ => ⟨g, v, h1, Gh.le_refl g, fun _ _ => rfl, h2, by rw [h3]; exact hm⟩⟩
/-! arguments -/
theorem VRs.one {g : Gh} {x : AV} {args : Array Value} (h : VRs g [x] args) : ∃ v, args = #[v] ∧ VR g x v := by
  obtain ⟨h1, h2⟩ := h
  refine ⟨args.getD 0 undef, ?_, h2 0 (by simp)⟩
  apply Array.ext
  · rw [h1]; rfl
  · intro i hi hj
    obtain rfl : i = 0 := by simp at h1; omega
    simp [Array.getD_eq_getD_getElem?, Array.getElem?_eq_getElem hi]
theorem VRs.two {g : Gh} {x y : AV} {args : Array Value} (h : VRs g [x, y] args) : ∃ v u, args = #[v, u] ∧ VR g x v ∧ VR g y u := by
  obtain ⟨h1, h2⟩ := h
  refine ⟨args.getD 0 undef, args.getD 1 undef, ?_, h2 0 (by simp), h2 1 (by simp)⟩
  apply Array.ext
  · rw [h1]; rfl
  · intro i hi hj
    have : i < 2 := by simpa using hj
    rcases i with _ | _ | i
    · simp [Array.getD_eq_getD_getElem?, Array.getElem?_eq_getElem hi]
    · simp [Array.getD_eq_getD_getElem?, Array.getElem?_eq_getElem hi]
    · omega
end Go.Ab
namespace Go.Proofs.YtaecbmbecofijaaGreatDoor
open Go Go.Ab
theorem ty_k3 : tyk Tryz.prog 3 = some (TyK.int .i64) := by kernel_rfl
theorem ty_s3 : shp Tryz.prog 3 = some (false, 1) := by kernel_rfl
theorem ty_z3 : zer Tryz.prog 3 = some [(AV.int .i64 0)] := by kernel_rfl
theorem ty_k4 : tyk Tryz.prog 4 = some TyK.bool := by kernel_rfl
theorem ty_s4 : shp Tryz.prog 4 = some (false, 1) := by kernel_rfl
theorem ty_k5 : tyk Tryz.prog 5 = some (TyK.int .u8) := by kernel_rfl
theorem ty_s5 : shp Tryz.prog 5 = some (false, 1) := by kernel_rfl
theorem ty_z5 : zer Tryz.prog 5 = some [(AV.int .u8 0)] := by kernel_rfl
theorem ty_k9 : tyk Tryz.prog 9 = some TyK.str := by kernel_rfl
theorem ty_s9 : shp Tryz.prog 9 = some (false, 1) := by kernel_rfl
theorem ty_z9 : zer Tryz.prog 9 = some [(AV.str [])] := by kernel_rfl
theorem ty_b9 : isBld Tryz.prog 9 = false := by kernel_rfl
theorem ty_k22 : tyk Tryz.prog 22 = some (TyK.slice 34 true 5 5) := by kernel_rfl
theorem ty_k25 : tyk Tryz.prog 25 = some (TyK.ptr 94) := by kernel_rfl
theorem ty_s25 : shp Tryz.prog 25 = some (false, 1) := by kernel_rfl
theorem ty_b25 : isBld Tryz.prog 25 = false := by kernel_rfl
theorem ty_s27 : shp Tryz.prog 27 = some (false, 1) := by kernel_rfl
theorem ty_k29 : tyk Tryz.prog 29 = some (TyK.slice 107 true 3 40) := by kernel_rfl
theorem ty_s29 : shp Tryz.prog 29 = some (false, 1) := by kernel_rfl
theorem ty_k31 : tyk Tryz.prog 31 = some (TyK.struct [(0, (false, 1)), (1, (false, 1)), (2, (false, 1)), (3, (false, 1))]) := by kernel_rfl
theorem ty_z31 : zer Tryz.prog 31 = some [AV.nilPtr, AV.nilPtr, AV.nilSl, AV.nilSl] := by kernel_rfl
theorem ty_b31 : isBld Tryz.prog 31 = false := by kernel_rfl
theorem ty_d31_0 : fldOf Tryz.prog 31 0 = some (0, false, 1) := by kernel_rfl
theorem ty_d31_1 : fldOf Tryz.prog 31 1 = some (1, false, 1) := by kernel_rfl
theorem ty_d31_2 : fldOf Tryz.prog 31 2 = some (2, false, 1) := by kernel_rfl
theorem ty_d31_3 : fldOf Tryz.prog 31 3 = some (3, false, 1) := by kernel_rfl
theorem ty_s34 : shp Tryz.prog 34 = some (true, 5) := by kernel_rfl
theorem ty_b34 : isBld Tryz.prog 34 = false := by kernel_rfl
theorem ty_d34_0 : fldOf Tryz.prog 34 0 = some (0, false, 1) := by kernel_rfl
theorem ty_d34_1 : fldOf Tryz.prog 34 1 = some (1, false, 1) := by kernel_rfl
theorem ty_d34_2 : fldOf Tryz.prog 34 2 = some (2, false, 1) := by kernel_rfl
theorem ty_d34_3 : fldOf Tryz.prog 34 3 = some (3, false, 1) := by kernel_rfl
theorem ty_d34_4 : fldOf Tryz.prog 34 4 = some (4, false, 1) := by kernel_rfl
theorem ty_k37 : tyk Tryz.prog 37 = some (TyK.struct [(0, (false, 1)), (1, (false, 1)), (2, (false, 1))]) := by kernel_rfl
theorem ty_s37 : shp Tryz.prog 37 = some (true, 3) := by kernel_rfl
theorem ty_z37 : zer Tryz.prog 37 = some [(AV.int .i64 0), (AV.int .i64 0), (AV.str [])] := by kernel_rfl
theorem ty_b37 : isBld Tryz.prog 37 = false := by kernel_rfl
theorem ty_f37 : flatT Tryz.prog 10 37 = some [(TyS.si .i64), (TyS.si .i64), TyS.ss] := by kernel_rfl
theorem ty_g37 : Tryz.prog.eqGuardType Tryz.prog.depth 37 = false := by kernel_rfl
theorem ty_d37_0 : fldOf Tryz.prog 37 0 = some (0, false, 1) := by kernel_rfl
theorem ty_d37_1 : fldOf Tryz.prog 37 1 = some (1, false, 1) := by kernel_rfl
theorem ty_d37_2 : fldOf Tryz.prog 37 2 = some (2, false, 1) := by kernel_rfl
theorem ty_k43 : tyk Tryz.prog 43 = some (TyK.slice 9 false 1 16) := by kernel_rfl
theorem ty_s43 : shp Tryz.prog 43 = some (false, 1) := by kernel_rfl
theorem ty_b43 : isBld Tryz.prog 43 = false := by kernel_rfl
theorem ty_k74 : tyk Tryz.prog 74 = some (TyK.slice 5 false 1 1) := by kernel_rfl
theorem ty_s74 : shp Tryz.prog 74 = some (false, 1) := by kernel_rfl
theorem ty_k91 : tyk Tryz.prog 91 = some (TyK.map 9 37) := by kernel_rfl
theorem ty_s91 : shp Tryz.prog 91 = some (false, 1) := by kernel_rfl
theorem ty_b91 : isBld Tryz.prog 91 = false := by kernel_rfl
theorem ty_m91 : mapD Tryz.prog 91 = some ([TyS.ss], (false, (AV.agg [(AV.int .i64 0), (AV.int .i64 0), (AV.str [])]))) := by kernel_rfl
theorem ty_h91 : keyShape Tryz.prog 91 = some ([TyS.ss], false) := by kernel_rfl
theorem ty_k92 : tyk Tryz.prog 92 = some (TyK.ptr 102) := by kernel_rfl
theorem ty_s92 : shp Tryz.prog 92 = some (false, 1) := by kernel_rfl
theorem ty_k94 : tyk Tryz.prog 94 = some (TyK.struct [(0, (false, 1)), (1, (false, 1))]) := by kernel_rfl
theorem ty_z94 : zer Tryz.prog 94 = some [AV.nilMap, AV.nilPtr] := by kernel_rfl
theorem ty_b94 : isBld Tryz.prog 94 = false := by kernel_rfl
theorem ty_d94_0 : fldOf Tryz.prog 94 0 = some (0, false, 1) := by kernel_rfl
theorem ty_d94_1 : fldOf Tryz.prog 94 1 = some (1, false, 1) := by kernel_rfl
theorem ty_k95 : tyk Tryz.prog 95 = some (TyK.slice 135 true 4 48) := by kernel_rfl
theorem ty_s95 : shp Tryz.prog 95 = some (false, 1) := by kernel_rfl
theorem ty_k97 : tyk Tryz.prog 97 = some (TyK.struct [(0, (false, 1)), (1, (false, 1)), (2, (false, 1)), (3, (false, 1)), (4, (false, 1))]) := by kernel_rfl
theorem ty_z97 : zer Tryz.prog 97 = some [AV.nilSl, AV.nilSl, AV.nilSl, AV.nilSl, (AV.bool false)] := by kernel_rfl
theorem ty_b97 : isBld Tryz.prog 97 = false := by kernel_rfl
theorem ty_d97_0 : fldOf Tryz.prog 97 0 = some (0, false, 1) := by kernel_rfl
theorem ty_d97_1 : fldOf Tryz.prog 97 1 = some (1, false, 1) := by kernel_rfl
theorem ty_d97_2 : fldOf Tryz.prog 97 2 = some (2, false, 1) := by kernel_rfl
theorem ty_d97_3 : fldOf Tryz.prog 97 3 = some (3, false, 1) := by kernel_rfl
theorem ty_d97_4 : fldOf Tryz.prog 97 4 = some (4, false, 1) := by kernel_rfl
theorem ty_k99 : tyk Tryz.prog 99 = some (TyK.map 105 9) := by kernel_rfl
theorem ty_s99 : shp Tryz.prog 99 = some (false, 1) := by kernel_rfl
theorem ty_m99 : mapD Tryz.prog 99 = some ([TyS.ss, TyS.sb], (true, (AV.str []))) := by kernel_rfl
theorem ty_h99 : keyShape Tryz.prog 99 = some ([TyS.ss, TyS.sb], true) := by kernel_rfl
theorem ty_k100 : tyk Tryz.prog 100 = some (TyK.map 9 4) := by kernel_rfl
theorem ty_s100 : shp Tryz.prog 100 = some (false, 1) := by kernel_rfl
theorem ty_b100 : isBld Tryz.prog 100 = false := by kernel_rfl
theorem ty_m100 : mapD Tryz.prog 100 = some ([TyS.ss], (false, (AV.bool false))) := by kernel_rfl
theorem ty_h100 : keyShape Tryz.prog 100 = some ([TyS.ss], false) := by kernel_rfl
theorem ty_k102 : tyk Tryz.prog 102 = some (TyK.struct [(0, (false, 1)), (1, (false, 1)), (2, (false, 1))]) := by kernel_rfl
theorem ty_z102 : zer Tryz.prog 102 = some [AV.nilMap, AV.nilMap, AV.nilMap] := by kernel_rfl
theorem ty_b102 : isBld Tryz.prog 102 = false := by kernel_rfl
theorem ty_d102_0 : fldOf Tryz.prog 102 0 = some (0, false, 1) := by kernel_rfl
theorem ty_d102_1 : fldOf Tryz.prog 102 1 = some (1, false, 1) := by kernel_rfl
theorem ty_d102_2 : fldOf Tryz.prog 102 2 = some (2, false, 1) := by kernel_rfl
theorem ty_k105 : tyk Tryz.prog 105 = some (TyK.struct [(0, (false, 1)), (1, (false, 1))]) := by kernel_rfl
theorem ty_s105 : shp Tryz.prog 105 = some (true, 2) := by kernel_rfl
theorem ty_z105 : zer Tryz.prog 105 = some [(AV.str []), (AV.bool false)] := by kernel_rfl
theorem ty_b105 : isBld Tryz.prog 105 = false := by kernel_rfl
theorem ty_d105_0 : fldOf Tryz.prog 105 0 = some (0, false, 1) := by kernel_rfl
theorem ty_d105_1 : fldOf Tryz.prog 105 1 = some (1, false, 1) := by kernel_rfl
theorem ty_k107 : tyk Tryz.prog 107 = some (TyK.struct [(0, (false, 1)), (1, (false, 1)), (2, (false, 1))]) := by kernel_rfl
theorem ty_s107 : shp Tryz.prog 107 = some (true, 3) := by kernel_rfl
theorem ty_z107 : zer Tryz.prog 107 = some [(AV.str []), (AV.bool false), (AV.str [])] := by kernel_rfl
theorem ty_b107 : isBld Tryz.prog 107 = false := by kernel_rfl
theorem ty_f107 : flatT Tryz.prog 10 107 = some [TyS.ss, TyS.sb, TyS.ss] := by kernel_rfl
theorem ty_g107 : Tryz.prog.eqGuardType Tryz.prog.depth 107 = false := by kernel_rfl
theorem ty_d107_0 : fldOf Tryz.prog 107 0 = some (0, false, 1) := by kernel_rfl
theorem ty_d107_1 : fldOf Tryz.prog 107 1 = some (1, false, 1) := by kernel_rfl
theorem ty_d107_2 : fldOf Tryz.prog 107 2 = some (2, false, 1) := by kernel_rfl
theorem ty_k117 : tyk Tryz.prog 117 = some (TyK.slice 37 true 3 32) := by kernel_rfl
theorem ty_k135 : tyk Tryz.prog 135 = some (TyK.struct [(0, (false, 1)), (1, (true, 3))]) := by kernel_rfl
theorem ty_s135 : shp Tryz.prog 135 = some (true, 4) := by kernel_rfl
theorem ty_z135 : zer Tryz.prog 135 = some [(AV.str []), (AV.int .i64 0), (AV.int .i64 0), (AV.str [])] := by kernel_rfl
theorem ty_d135_0 : fldOf Tryz.prog 135 0 = some (0, false, 1) := by kernel_rfl
theorem ty_d135_1 : fldOf Tryz.prog 135 1 = some (1, true, 3) := by kernel_rfl
theorem ty_k153 : tyk Tryz.prog 153 = some (TyK.int .u64) := by kernel_rfl
theorem ty_k166 : tyk Tryz.prog 166 = some (TyK.iface 1) := by kernel_rfl
theorem ty_k172 : tyk Tryz.prog 172 = some (TyK.struct [(0, (false, 1)), (1, (false, 1))]) := by kernel_rfl
theorem ty_z172 : zer Tryz.prog 172 = some [AV.nilPtr, AV.nilSl] := by kernel_rfl
theorem ty_b172 : isBld Tryz.prog 172 = true := by kernel_rfl
theorem ty_d172_1 : fldOf Tryz.prog 172 1 = some (1, false, 1) := by kernel_rfl
theorem ty_k187 : tyk Tryz.prog 187 = some (TyK.slice 3 false 1 8) := by kernel_rfl
theorem ty_k195 : tyk Tryz.prog 195 = some (TyK.ptr 5) := by kernel_rfl
attribute [go_sem] ty_k3 ty_s3 ty_z3 ty_k4 ty_s4 ty_k5 ty_s5 ty_z5
attribute [go_sem] ty_k9 ty_s9 ty_z9 ty_b9
attribute [go_sem] ty_k22 ty_k25 ty_s25 ty_b25 ty_s27 ty_k29 ty_s29
attribute [go_sem] ty_k31 ty_z31 ty_b31 ty_d31_0 ty_d31_1 ty_d31_2 ty_d31_3 ty_s34 ty_b34 ty_d34_0 ty_d34_1 ty_d34_2 ty_d34_3 ty_d34_4
attribute [go_sem] ty_k37 ty_s37 ty_z37 ty_b37 ty_f37 ty_g37 ty_d37_0 ty_d37_1 ty_d37_2
attribute [go_sem] ty_k43 ty_s43 ty_b43
attribute [go_sem] ty_k74 ty_s74
attribute [go_sem] ty_k91 ty_s91 ty_b91 ty_m91 ty_h91 ty_k92 ty_s92 ty_k94 ty_z94 ty_b94
attribute [go_sem] ty_d94_0 ty_d94_1 ty_k95 ty_s95 ty_k97 ty_z97 ty_b97 ty_d97_0 ty_d97_1 ty_d97_2 ty_d97_3 ty_d97_4 ty_k99 ty_s99 ty_m99 ty_h99 ty_k100 ty_s100 ty_b100 ty_m100 ty_h100
attribute [go_sem] ty_k102 ty_z102 ty_b102 ty_d102_0 ty_d102_1 ty_d102_2 ty_k105 ty_s105 ty_z105 ty_b105 ty_d105_0 ty_d105_1
attribute [go_sem] ty_k107 ty_s107 ty_z107 ty_b107 ty_f107 ty_g107 ty_d107_0 ty_d107_1 ty_d107_2
attribute [go_sem] ty_k117
attribute [go_sem] ty_k135 ty_s135 ty_z135 ty_d135_0 ty_d135_1
attribute [go_sem] ty_k153
attribute [go_sem] ty_k166
attribute [go_sem] ty_k172 ty_z172 ty_b172 ty_d172_1
attribute [go_sem] ty_k187
attribute [go_sem] ty_k195
theorem mixed : Tryz.prog.follows .mixedOrders = true := by kernel_rfl
end Go.Proofs.YtaecbmbecofijaaGreatDoor
namespace Go.Proofs.YtaecbmbecofijaaGreatDoor
open Go
set_option maxRecDepth 100000
set_option maxHeartbeats 1000000
theorem sizeBld : ((Tryz.prog.info? 172).map (·.size)) = some 2 := by kernel_rfl
theorem liesBld : liesAt Tryz.prog Tryz.prog.depth 172 (2 / Tryz.prog.cellsOf 172) 0 172 1 = true := by kernel_rfl
theorem copyCheck_used (b : Nat) (w : World) (h0 : w.cell? ⟨b, 0, none⟩ = some (.pointer (some ⟨b, 0, none⟩))) :
    Calls Tryz.prog 167 #[.pointer (some ⟨b, 0, none⟩)] w fun e w' => e = .returned (.tuple #[]) ∧ w' = w := by
  obtain ⟨j, hj, _⟩ := Option.map_eq_some_iff.1 sizeBld
  go_enter Tryz.func167, Tryz.ntmps167
  go_wp2
  rw [Lib.run_neq_ptr_same w _ Tryz.underlying169 hj]
  go_wp2
  go_end0
  exact ⟨rfl, rfl⟩
theorem copyCheck_fresh (b : Nat) (w : World) (h0 : w.cell? ⟨b, 0, none⟩ = some (.pointer none)) (hsh : w.shape? b = some (172, 2)) (hfz : w.frozen? ⟨b, 0, none⟩ = false) :
    Calls Tryz.prog 167 #[.pointer (some ⟨b, 0, none⟩)] w fun e w' => e = .returned (.tuple #[]) ∧ w' = w.setCell ⟨b, 0, none⟩ (.pointer (some ⟨b, 0, none⟩)) := by
  obtain ⟨j, hj, hjs⟩ := Option.map_eq_some_iff.1 sizeBld
  go_enter Tryz.func167, Tryz.ntmps167
  go_wp2
  rw [Lib.run_to_unsafe w ⟨b, 0, none⟩ Tryz.underlying169 Tryz.underlying216 hj (by rw [hjs]; decide) hsh (Nat.zero_lt_succ 1)]
  simp only [Result.andThen]
  rw [Oper.upon_value]
  go_wp2
  rw [run_callFunc_extern Tryz.func195 (by kernel_rfl) (by kernel_rfl) (by kernel_rfl) (e := Extern.AbiNoEscape.same) (by kernel_rfl)]
  rw [Lib.run_noEscape]
  simp only [Result.andThen]
  rw [Oper.upon_value]
  go_wp2
  rw [Lib.run_from_unsafe w ⟨b, 0, none⟩ Tryz.underlying216 Tryz.underlying169 hj hsh liesBld]
  simp only [Result.andThen]
  rw [Oper.upon_value]
  go_wp2
  go_end0
  exact ⟨rfl, rfl⟩
end Go.Proofs.YtaecbmbecofijaaGreatDoor
namespace Go.Proofs
open Go.Shelf
def Tryz.laysM171_ren : Go.Shelf.Ren := ⟨fun | 171 => 104 | 243 => 138 | 246 => 168 | 283 => 196 | 284 => 197 | 285 => 198 | 286 => 199 | 129 => 153 | 317 => 214 | 318 => 215 | 319 => 216 | 320 => 217 | 337 => 226 | 338 => 227 | n => n, fun | 3 => 3 | 9 => 9 | 2 => 2 | 4 => 4 | 171 => 218 | 0 => 0 | 53 => 186 | 37 => 74 | 5 => 5 | 173 => 220 | 212 => 234 | 51 => 184 | 20 => 20 | 213 => 235 | 46 => 153 | 232 => 245 | 233 => 246 | n => n, fun | 17 => 3 | 18 => 4 | 19 => 5 | n => n⟩
theorem Tryz.laysM171 : Go.Proofs.LaysM.n171 Tryz.prog Tryz.laysM171_ren := {
  mixed := by kernel_rfl
  f129 := Tryz.func153.trans (congrArg some (by kernel_rfl))
  f171 := Tryz.func104.trans (congrArg some (by kernel_rfl))
  f243 := Tryz.func138.trans (congrArg some (by kernel_rfl))
  f246 := Tryz.func168.trans (congrArg some (by kernel_rfl))
  f283 := Tryz.func196.trans (congrArg some (by kernel_rfl))
  f284 := Tryz.func197.trans (congrArg some (by kernel_rfl))
  f285 := Tryz.func198.trans (congrArg some (by kernel_rfl))
  f286 := Tryz.func199.trans (congrArg some (by kernel_rfl))
  f317 := Tryz.func214.trans (congrArg some (by kernel_rfl))
  f318 := Tryz.func215.trans (congrArg some (by kernel_rfl))
  f319 := Tryz.func216.trans (congrArg some (by kernel_rfl))
  f320 := Tryz.func217.trans (congrArg some (by kernel_rfl))
  f337 := Tryz.func226.trans (congrArg some (by kernel_rfl))
  f338 := Tryz.func227.trans (congrArg some (by kernel_rfl))
  t0 := Tryz.underlying0
  a0 := Tryz.isAgg0
  z0 := Tryz.sizeOf0
  v0 := Tryz.zeroValue0
  t2 := Tryz.underlying2
  a2 := Tryz.isAgg2
  z2 := Tryz.sizeOf2
  v2 := Tryz.zeroValue2
  t3 := Tryz.underlying3
  a3 := Tryz.isAgg3
  z3 := Tryz.sizeOf3
  v3 := Tryz.zeroValue3
  t4 := Tryz.underlying4
  a4 := Tryz.isAgg4
  z4 := Tryz.sizeOf4
  v4 := Tryz.zeroValue4
  t5 := Tryz.underlying5
  a5 := Tryz.isAgg5
  z5 := Tryz.sizeOf5
  v5 := Tryz.zeroValue5
  t9 := Tryz.underlying9
  a9 := Tryz.isAgg9
  z9 := Tryz.sizeOf9
  v9 := Tryz.zeroValue9
  t20 := Tryz.underlying20
  a20 := Tryz.isAgg20
  z20 := Tryz.sizeOf20
  v20 := Tryz.zeroValue20
  t37 := Tryz.underlying74
  a37 := Tryz.isAgg74
  z37 := Tryz.sizeOf74
  v37 := Tryz.zeroValue74
  t46 := Tryz.underlying153
  a46 := Tryz.isAgg153
  z46 := Tryz.sizeOf153
  v46 := Tryz.zeroValue153
  t51 := Tryz.underlying184
  a51 := Tryz.isAgg184
  z51 := Tryz.sizeOf184
  v51 := Tryz.zeroValue184
  t53 := Tryz.underlying186
  a53 := Tryz.isAgg186
  z53 := Tryz.sizeOf186
  v53 := Tryz.zeroValue186
  t171 := Tryz.underlying218
  a171 := Tryz.isAgg218
  z171 := Tryz.sizeOf218
  v171 := Tryz.zeroValue218
  t173 := Tryz.underlying220
  a173 := Tryz.isAgg220
  z173 := Tryz.sizeOf220
  v173 := Tryz.zeroValue220
  t212 := Tryz.underlying234
  a212 := Tryz.isAgg234
  z212 := Tryz.sizeOf234
  v212 := Tryz.zeroValue234
  t213 := Tryz.underlying235
  a213 := Tryz.isAgg235
  z213 := Tryz.sizeOf235
  t232 := Tryz.underlying245
  a232 := Tryz.isAgg245
  z232 := Tryz.sizeOf245
  v232 := Tryz.zeroValue245
  t233 := Tryz.underlying246
  a233 := Tryz.isAgg246
  z233 := Tryz.sizeOf246
  v233 := Tryz.zeroValue246
  g17 := by kernel_rfl
  g18 := by kernel_rfl
  g19 := by kernel_rfl
  i0 := by kernel_rfl
  i2 := by kernel_rfl
  i3 := by kernel_rfl
  i4 := by kernel_rfl
  i5 := by kernel_rfl
  i9 := by kernel_rfl
  i20 := by kernel_rfl
  i37 := by kernel_rfl
  i46 := by kernel_rfl
  i51 := by kernel_rfl
  i53 := by kernel_rfl
  i171 := by kernel_rfl
  i173 := by kernel_rfl
  i212 := by kernel_rfl
  i232 := by kernel_rfl
  i233 := by kernel_rfl
  m17 := by kernel_rfl
  m18 := by kernel_rfl
  m19 := by kernel_rfl }
open Go.RowKit Go.Sort Go.Lib in
theorem Tryz.strconv_Itoa (n : Int) (h0 : -9223372036854775808 ≤ n) (h1 : n ≤ 9223372036854775807) (w : World) (htab : Lib.TabIs Tryz.prog w "internal/strconv.uint64pow10" .u64 Lib.pow10Tab) :
    Calls Tryz.prog 104 #[.int .i64 n] w fun e w' => e = .returned (.string ⟨(Lib.itoa n).toArray⟩) ∧ ∃ k os, w' = grow (w.drewN k) os := Any.strconv_Itoa Tryz.laysM171 n h0 h1 w htab
def Tryz.laysC172_ren : Go.Shelf.Ren := ⟨fun | 172 => 133 | 244 => 165 | 245 => 166 | 247 => 190 | 279 => 191 | 280 => 192 | 281 => 193 | 282 => 194 | 287 => 211 | 316 => 212 | 171 => 104 | 205 => 213 | 321 => 224 | 322 => 225 | 243 => 138 | 246 => 168 | 283 => 196 | 284 => 197 | 285 => 198 | 286 => 199 | 129 => 153 | 317 => 214 | 318 => 215 | 319 => 216 | 320 => 217 | 337 => 226 | 338 => 227 | n => n, fun | 9 => 9 | 3 => 3 | 75 => 166 | 76 => 167 | 4 => 4 | 5 => 5 | 167 => 210 | 37 => 74 | 0 => 0 | 85 => 211 | 2 => 2 | 168 => 213 | 53 => 186 | 175 => 229 | 46 => 153 | 210 => 232 | 127 => 195 | 145 => 244 | 143 => 242 | 21 => 21 | 171 => 218 | 173 => 220 | 212 => 234 | 51 => 184 | 20 => 20 | 213 => 235 | 232 => 245 | 233 => 246 | 80 => 119 | n => n, fun | 15 => 1 | 16 => 2 | 17 => 3 | 18 => 4 | 19 => 5 | n => n⟩
theorem Tryz.laysC172 : Go.Proofs.LaysC.n172 Tryz.prog Tryz.laysC172_ren := {
  mixed := by kernel_rfl
  f129 := Tryz.func153.trans (congrArg some (by kernel_rfl))
  f171 := Tryz.func104.trans (congrArg some (by kernel_rfl))
  f172 := Tryz.func133.trans (congrArg some (by kernel_rfl))
  f205 := Tryz.func213.trans (congrArg some (by kernel_rfl))
  f243 := Tryz.func138.trans (congrArg some (by kernel_rfl))
  f244 := Tryz.func165.trans (congrArg some (by kernel_rfl))
  f245 := Tryz.func166.trans (congrArg some (by kernel_rfl))
  f246 := Tryz.func168.trans (congrArg some (by kernel_rfl))
  f247 := Tryz.func190.trans (congrArg some (by kernel_rfl))
  f279 := Tryz.func191.trans (congrArg some (by kernel_rfl))
  f280 := Tryz.func192.trans (congrArg some (by kernel_rfl))
  f281 := Tryz.func193.trans (congrArg some (by kernel_rfl))
  f282 := Tryz.func194.trans (congrArg some (by kernel_rfl))
  f283 := Tryz.func196.trans (congrArg some (by kernel_rfl))
  f284 := Tryz.func197.trans (congrArg some (by kernel_rfl))
  f285 := Tryz.func198.trans (congrArg some (by kernel_rfl))
  f286 := Tryz.func199.trans (congrArg some (by kernel_rfl))
  f287 := Tryz.func211.trans (congrArg some (by kernel_rfl))
  f316 := Tryz.func212.trans (congrArg some (by kernel_rfl))
  f317 := Tryz.func214.trans (congrArg some (by kernel_rfl))
  f318 := Tryz.func215.trans (congrArg some (by kernel_rfl))
  f319 := Tryz.func216.trans (congrArg some (by kernel_rfl))
  f320 := Tryz.func217.trans (congrArg some (by kernel_rfl))
  f321 := Tryz.func224.trans (congrArg some (by kernel_rfl))
  f322 := Tryz.func225.trans (congrArg some (by kernel_rfl))
  f337 := Tryz.func226.trans (congrArg some (by kernel_rfl))
  f338 := Tryz.func227.trans (congrArg some (by kernel_rfl))
  t0 := Tryz.underlying0
  a0 := Tryz.isAgg0
  z0 := Tryz.sizeOf0
  v0 := Tryz.zeroValue0
  t2 := Tryz.underlying2
  a2 := Tryz.isAgg2
  z2 := Tryz.sizeOf2
  v2 := Tryz.zeroValue2
  t3 := Tryz.underlying3
  a3 := Tryz.isAgg3
  z3 := Tryz.sizeOf3
  v3 := Tryz.zeroValue3
  t4 := Tryz.underlying4
  a4 := Tryz.isAgg4
  z4 := Tryz.sizeOf4
  v4 := Tryz.zeroValue4
  t5 := Tryz.underlying5
  a5 := Tryz.isAgg5
  z5 := Tryz.sizeOf5
  v5 := Tryz.zeroValue5
  t9 := Tryz.underlying9
  a9 := Tryz.isAgg9
  z9 := Tryz.sizeOf9
  v9 := Tryz.zeroValue9
  t20 := Tryz.underlying20
  a20 := Tryz.isAgg20
  z20 := Tryz.sizeOf20
  v20 := Tryz.zeroValue20
  t21 := Tryz.underlying21
  a21 := Tryz.isAgg21
  z21 := Tryz.sizeOf21
  v21 := Tryz.zeroValue21
  t37 := Tryz.underlying74
  a37 := Tryz.isAgg74
  z37 := Tryz.sizeOf74
  v37 := Tryz.zeroValue74
  t46 := Tryz.underlying153
  a46 := Tryz.isAgg153
  z46 := Tryz.sizeOf153
  v46 := Tryz.zeroValue153
  t51 := Tryz.underlying184
  a51 := Tryz.isAgg184
  z51 := Tryz.sizeOf184
  v51 := Tryz.zeroValue184
  t53 := Tryz.underlying186
  a53 := Tryz.isAgg186
  z53 := Tryz.sizeOf186
  v53 := Tryz.zeroValue186
  t75 := Tryz.underlying166
  a75 := Tryz.isAgg166
  z75 := Tryz.sizeOf166
  v75 := Tryz.zeroValue166
  t76 := Tryz.underlying167
  a76 := Tryz.isAgg167
  z76 := Tryz.sizeOf167
  v76 := Tryz.zeroValue167
  t85 := Tryz.underlying211
  a85 := Tryz.isAgg211
  z85 := Tryz.sizeOf211
  v85 := Tryz.zeroValue211
  t127 := Tryz.underlying195
  a127 := Tryz.isAgg195
  z127 := Tryz.sizeOf195
  v127 := Tryz.zeroValue195
  t143 := Tryz.underlying242
  a143 := Tryz.isAgg242
  z143 := Tryz.sizeOf242
  v143 := Tryz.zeroValue242
  t145 := Tryz.underlying244
  a145 := Tryz.isAgg244
  z145 := Tryz.sizeOf244
  v145 := Tryz.zeroValue244
  t167 := Tryz.underlying210
  a167 := Tryz.isAgg210
  z167 := Tryz.sizeOf210
  v167 := Tryz.zeroValue210
  t168 := Tryz.underlying213
  a168 := Tryz.isAgg213
  z168 := Tryz.sizeOf213
  v168 := Tryz.zeroValue213
  t171 := Tryz.underlying218
  a171 := Tryz.isAgg218
  z171 := Tryz.sizeOf218
  v171 := Tryz.zeroValue218
  t173 := Tryz.underlying220
  a173 := Tryz.isAgg220
  z173 := Tryz.sizeOf220
  v173 := Tryz.zeroValue220
  t175 := Tryz.underlying229
  a175 := Tryz.isAgg229
  z175 := Tryz.sizeOf229
  v175 := Tryz.zeroValue229
  t210 := Tryz.underlying232
  a210 := Tryz.isAgg232
  z210 := Tryz.sizeOf232
  v210 := Tryz.zeroValue232
  t212 := Tryz.underlying234
  a212 := Tryz.isAgg234
  z212 := Tryz.sizeOf234
  v212 := Tryz.zeroValue234
  t213 := Tryz.underlying235
  a213 := Tryz.isAgg235
  z213 := Tryz.sizeOf235
  t232 := Tryz.underlying245
  a232 := Tryz.isAgg245
  z232 := Tryz.sizeOf245
  v232 := Tryz.zeroValue245
  t233 := Tryz.underlying246
  a233 := Tryz.isAgg246
  z233 := Tryz.sizeOf246
  v233 := Tryz.zeroValue246
  g15 := by kernel_rfl
  g16 := by kernel_rfl
  g17 := by kernel_rfl
  g18 := by kernel_rfl
  g19 := by kernel_rfl
  t80 := Tryz.underlying119
  a80 := Tryz.isAgg119
  z80 := Tryz.sizeOf119
  v80 := Tryz.zeroValue119
  i0 := by kernel_rfl
  i2 := by kernel_rfl
  i3 := by kernel_rfl
  i4 := by kernel_rfl
  i5 := by kernel_rfl
  i9 := by kernel_rfl
  i20 := by kernel_rfl
  i21 := by kernel_rfl
  i37 := by kernel_rfl
  i46 := by kernel_rfl
  i51 := by kernel_rfl
  i53 := by kernel_rfl
  i75 := by kernel_rfl
  i76 := by kernel_rfl
  i80 := by kernel_rfl
  i85 := by kernel_rfl
  i127 := by kernel_rfl
  i143 := by kernel_rfl
  i145 := by kernel_rfl
  i167 := by kernel_rfl
  i168 := by kernel_rfl
  i171 := by kernel_rfl
  i173 := by kernel_rfl
  i175 := by kernel_rfl
  i210 := by kernel_rfl
  i212 := by kernel_rfl
  i232 := by kernel_rfl
  i233 := by kernel_rfl
  m15 := by kernel_rfl
  m16 := by kernel_rfl
  m17 := by kernel_rfl
  m18 := by kernel_rfl
  m19 := by kernel_rfl
  c0 := by kernel_rfl
  c2 := by kernel_rfl
  c3 := by kernel_rfl
  c4 := by kernel_rfl
  c5 := by kernel_rfl
  c9 := by kernel_rfl
  c20 := by kernel_rfl
  c21 := by kernel_rfl
  c37 := by kernel_rfl
  c46 := by kernel_rfl
  c51 := by kernel_rfl
  c53 := by kernel_rfl
  c75 := by kernel_rfl
  c76 := by kernel_rfl
  c80 := by kernel_rfl
  c85 := by kernel_rfl
  c127 := by kernel_rfl
  c143 := by kernel_rfl
  c145 := by kernel_rfl
  c167 := by kernel_rfl
  c168 := by kernel_rfl
  c171 := by kernel_rfl
  c173 := by kernel_rfl
  c175 := by kernel_rfl
  c210 := by kernel_rfl
  c212 := by kernel_rfl
  c213 := by kernel_rfl
  c232 := by kernel_rfl
  c233 := by kernel_rfl }
open Go.RowKit in
theorem Tryz.strconv_Atoi_ok (s : ByteArray) (hmax : s.size ≤ 9223372036854775806) (v : Int) (h : Lib.atoiAll s.data.toList = .ok v) (w : World) :
    Calls Tryz.prog 133 #[.string s] w fun e w' => e = .returned (.tuple #[.int .i64 v, .nilIface]) ∧ (w' = w ∨ ∃ t, w' = Lib.bytesWorld w 5 t) := Any.strconv_Atoi_ok Tryz.laysC172 s hmax v h w
open Go.RowKit in
theorem Tryz.strconv_Atoi_range (s : ByteArray) (hlim : s.size ≤ 281474976710656) (h : Lib.atoiAll s.data.toList = .range) (ev : Value) (w : World) (hv : w.cell? ⟨2, 0, none⟩ = some ev) (hev : ev = .nilIface ∨ ∃ te pe, ev = .iface te pe) :
    Calls Tryz.prog 133 #[.string s] w fun e w' => ∃ N, e = .returned (.tuple #[.int .i64 (Lib.atoiSat s.data.toList), .iface 213 (.pointer (some ⟨N, 0, none⟩))]) ∧ w.heap.size ≤ N ∧ w'.heap[N]? = some (.cells #[.string ⟨#[65, 116, 111, 105]⟩, .string s, ev] 232 (0, 0)) ∧ Below w.heap.size w w' := Any.strconv_Atoi_range Tryz.laysC172 s hlim h ev w hv hev
def Tryz.lays219_ren : Go.Shelf.Ren := ⟨fun | 219 => 189 | 217 => 207 | 225 => 208 | 224 => 209 | 267 => 210 | 266 => 222 | 314 => 223 | n => n, fun | 9 => 9 | 3 => 3 | 4 => 4 | 5 => 5 | 46 => 153 | 146 => 239 | 51 => 184 | n => n, fun | 1 => 0 | n => n⟩
theorem Tryz.lays219 : Go.Proofs.Lays.n219 Tryz.prog Tryz.lays219_ren := {
  mixed := by kernel_rfl
  f217 := Tryz.func207.trans (congrArg some (by kernel_rfl))
  f219 := Tryz.func189.trans (congrArg some (by kernel_rfl))
  f224 := Tryz.func209.trans (congrArg some (by kernel_rfl))
  f225 := Tryz.func208.trans (congrArg some (by kernel_rfl))
  f266 := Tryz.func222.trans (congrArg some (by kernel_rfl))
  f267 := Tryz.func210.trans (congrArg some (by kernel_rfl))
  f314 := Tryz.func223.trans (congrArg some (by kernel_rfl))
  t3 := Tryz.underlying3
  a3 := Tryz.isAgg3
  z3 := Tryz.sizeOf3
  v3 := Tryz.zeroValue3
  t4 := Tryz.underlying4
  a4 := Tryz.isAgg4
  z4 := Tryz.sizeOf4
  v4 := Tryz.zeroValue4
  t5 := Tryz.underlying5
  a5 := Tryz.isAgg5
  z5 := Tryz.sizeOf5
  v5 := Tryz.zeroValue5
  t9 := Tryz.underlying9
  a9 := Tryz.isAgg9
  z9 := Tryz.sizeOf9
  v9 := Tryz.zeroValue9
  t46 := Tryz.underlying153
  a46 := Tryz.isAgg153
  z46 := Tryz.sizeOf153
  v46 := Tryz.zeroValue153
  t51 := Tryz.underlying184
  a51 := Tryz.isAgg184
  z51 := Tryz.sizeOf184
  v51 := Tryz.zeroValue184
  t146 := Tryz.underlying239
  a146 := Tryz.isAgg239
  z146 := Tryz.sizeOf239
  v146 := Tryz.zeroValue239
  g1 := by kernel_rfl }
open Go.RowKit Go.Lib in
theorem Tryz.stringslite_Index_one (s : ByteArray) (c : UInt8) (w : World) :
    Calls Tryz.prog 189 #[.string s, .string ⟨#[c]⟩] w fun e w' => e = .returned (.int .i64 (Lib.indexByte s.data.toList c)) ∧ w' = w := Any.stringslite_Index_one Tryz.lays219 s c w
def Tryz.lays144_ren : Go.Shelf.Ren := ⟨fun | 144 => 143 | 143 => 170 | 219 => 189 | 217 => 207 | 225 => 208 | 224 => 209 | 267 => 210 | 266 => 222 | 314 => 223 | n => n, fun | 9 => 9 | 4 => 4 | 3 => 3 | 5 => 5 | 46 => 153 | 146 => 239 | 51 => 184 | n => n, fun | 1 => 0 | n => n⟩
theorem Tryz.lays144 : Go.Proofs.Lays.n144 Tryz.prog Tryz.lays144_ren := {
  mixed := by kernel_rfl
  f143 := Tryz.func170.trans (congrArg some (by kernel_rfl))
  f144 := Tryz.func143.trans (congrArg some (by kernel_rfl))
  f217 := Tryz.func207.trans (congrArg some (by kernel_rfl))
  f219 := Tryz.func189.trans (congrArg some (by kernel_rfl))
  f224 := Tryz.func209.trans (congrArg some (by kernel_rfl))
  f225 := Tryz.func208.trans (congrArg some (by kernel_rfl))
  f266 := Tryz.func222.trans (congrArg some (by kernel_rfl))
  f267 := Tryz.func210.trans (congrArg some (by kernel_rfl))
  f314 := Tryz.func223.trans (congrArg some (by kernel_rfl))
  t3 := Tryz.underlying3
  a3 := Tryz.isAgg3
  z3 := Tryz.sizeOf3
  v3 := Tryz.zeroValue3
  t4 := Tryz.underlying4
  a4 := Tryz.isAgg4
  z4 := Tryz.sizeOf4
  v4 := Tryz.zeroValue4
  t5 := Tryz.underlying5
  a5 := Tryz.isAgg5
  z5 := Tryz.sizeOf5
  v5 := Tryz.zeroValue5
  t9 := Tryz.underlying9
  a9 := Tryz.isAgg9
  z9 := Tryz.sizeOf9
  v9 := Tryz.zeroValue9
  t46 := Tryz.underlying153
  a46 := Tryz.isAgg153
  z46 := Tryz.sizeOf153
  v46 := Tryz.zeroValue153
  t51 := Tryz.underlying184
  a51 := Tryz.isAgg184
  z51 := Tryz.sizeOf184
  v51 := Tryz.zeroValue184
  t146 := Tryz.underlying239
  a146 := Tryz.isAgg239
  z146 := Tryz.sizeOf239
  v146 := Tryz.zeroValue239
  g1 := by kernel_rfl }
open Go.RowKit Go.Lib in
theorem Tryz.strings_Contains_one (s : ByteArray) (c : UInt8) (w : World) :
    Calls Tryz.prog 143 #[.string s, .string ⟨#[c]⟩] w fun e w' => e = .returned (.bool (decide (0 ≤ Lib.indexByte s.data.toList c))) ∧ w' = w := Any.strings_Contains_one Tryz.lays144 s c w
def Tryz.lays190_ren : Go.Shelf.Ren := ⟨fun | 190 => 118 | 125 => 112 | 258 => 157 | 128 => 152 | 129 => 153 | 302 => 176 | 303 => 177 | 304 => 178 | 305 => 179 | 306 => 180 | 307 => 181 | 308 => 182 | 309 => 183 | 310 => 184 | 333 => 202 | 329 => 172 | 330 => 173 | 334 => 203 | 335 => 204 | 336 => 154 | 344 => 218 | n => n, fun | 31 => 43 | 9 => 9 | 3 => 3 | 46 => 153 | 0 => 0 | 51 => 184 | 53 => 186 | 4 => 4 | 183 => 178 | 182 => 177 | 131 => 142 | 5 => 5 | 218 => 197 | 222 => 201 | 228 => 222 | 229 => 223 | n => n, fun | n => n⟩
theorem Tryz.lays190 : Go.Proofs.Lays.n190 Tryz.prog Tryz.lays190_ren := {
  mixed := by kernel_rfl
  f125 := Tryz.func112.trans (congrArg some (by kernel_rfl))
  f128 := Tryz.func152.trans (congrArg some (by kernel_rfl))
  f129 := Tryz.func153.trans (congrArg some (by kernel_rfl))
  f190 := Tryz.func118.trans (congrArg some (by kernel_rfl))
  f258 := Tryz.func157.trans (congrArg some (by kernel_rfl))
  f302 := Tryz.func176.trans (congrArg some (by kernel_rfl))
  f303 := Tryz.func177.trans (congrArg some (by kernel_rfl))
  f304 := Tryz.func178.trans (congrArg some (by kernel_rfl))
  f305 := Tryz.func179.trans (congrArg some (by kernel_rfl))
  f306 := Tryz.func180.trans (congrArg some (by kernel_rfl))
  f307 := Tryz.func181.trans (congrArg some (by kernel_rfl))
  f308 := Tryz.func182.trans (congrArg some (by kernel_rfl))
  f309 := Tryz.func183.trans (congrArg some (by kernel_rfl))
  f310 := Tryz.func184.trans (congrArg some (by kernel_rfl))
  f329 := Tryz.func172.trans (congrArg some (by kernel_rfl))
  f330 := Tryz.func173.trans (congrArg some (by kernel_rfl))
  f333 := Tryz.func202.trans (congrArg some (by kernel_rfl))
  f334 := Tryz.func203.trans (congrArg some (by kernel_rfl))
  f335 := Tryz.func204.trans (congrArg some (by kernel_rfl))
  f336 := Tryz.func154.trans (congrArg some (by kernel_rfl))
  f344 := Tryz.func218.trans (congrArg some (by kernel_rfl))
  t0 := Tryz.underlying0
  a0 := Tryz.isAgg0
  z0 := Tryz.sizeOf0
  v0 := Tryz.zeroValue0
  t3 := Tryz.underlying3
  a3 := Tryz.isAgg3
  z3 := Tryz.sizeOf3
  v3 := Tryz.zeroValue3
  t4 := Tryz.underlying4
  a4 := Tryz.isAgg4
  z4 := Tryz.sizeOf4
  v4 := Tryz.zeroValue4
  t5 := Tryz.underlying5
  a5 := Tryz.isAgg5
  z5 := Tryz.sizeOf5
  v5 := Tryz.zeroValue5
  t9 := Tryz.underlying9
  a9 := Tryz.isAgg9
  z9 := Tryz.sizeOf9
  v9 := Tryz.zeroValue9
  t31 := Tryz.underlying43
  a31 := Tryz.isAgg43
  z31 := Tryz.sizeOf43
  v31 := Tryz.zeroValue43
  t46 := Tryz.underlying153
  a46 := Tryz.isAgg153
  z46 := Tryz.sizeOf153
  v46 := Tryz.zeroValue153
  t51 := Tryz.underlying184
  a51 := Tryz.isAgg184
  z51 := Tryz.sizeOf184
  v51 := Tryz.zeroValue184
  t53 := Tryz.underlying186
  a53 := Tryz.isAgg186
  z53 := Tryz.sizeOf186
  v53 := Tryz.zeroValue186
  t131 := Tryz.underlying142
  a131 := Tryz.isAgg142
  z131 := Tryz.sizeOf142
  v131 := Tryz.zeroValue142
  t182 := Tryz.underlying177
  a182 := Tryz.isAgg177
  z182 := Tryz.sizeOf177
  v182 := Tryz.zeroValue177
  t183 := Tryz.underlying178
  a183 := Tryz.isAgg178
  z183 := Tryz.sizeOf178
  v183 := Tryz.zeroValue178
  t218 := Tryz.underlying197
  a218 := Tryz.isAgg197
  z218 := Tryz.sizeOf197
  v218 := Tryz.zeroValue197
  t222 := Tryz.underlying201
  a222 := Tryz.isAgg201
  z222 := Tryz.sizeOf201
  v222 := Tryz.zeroValue201
  t228 := Tryz.underlying222
  a228 := Tryz.isAgg222
  z228 := Tryz.sizeOf222
  v228 := Tryz.zeroValue222
  t229 := Tryz.underlying223
  a229 := Tryz.isAgg223
  z229 := Tryz.sizeOf223
  v229 := Tryz.zeroValue223 }
open Go.Sort Go.RowKit in
theorem Tryz.slices_Sort_string (blk off cap : Nat) (ss : List (List UInt8)) (w : World) (hH : Holds encStr w blk off ss.toArray) (hblk : blk < w.heap.size) (hsz : ss.length < 4611686018427387904) :
    Calls Tryz.prog 118 #[.slice (some ⟨blk, off, none⟩) ss.length cap] w fun e w' =>
      e = .returned (.tuple #[]) ∧ ∃ n os, w' = grow (putRow encStr (Sort.ahead w n) blk off (ss.mergeSort fun x y => decide (x ≤ y)).toArray) os := Any.slices_Sort_string Tryz.lays190 blk off cap ss w hH hblk hsz
open Go.RowKit Go.Lib in
open Go.RowKit Go.Lib in
open Go.RowKit Go.Sort in
theorem Tryz.slices_Sort_string_none (p : Option Addr) (cap : Nat) (w : World) :
    Calls Tryz.prog 118 #[.slice p 0 cap] w fun e w' => e = .returned (.tuple #[]) ∧ w' = w := Any.slices_Sort_string_none Tryz.lays190 p cap w
end Go.Proofs
namespace Go.Proofs.YtaecbmbecofijaaGreatDoor
open Go Go.Ab Go.RowKit
/-- The tables and the errors that the library's own text laid. -/
instance laidHere : Laid Tryz.prog where
  facts g := g.row 3 = some 20 ∧ (∀ j z, Lib.pow10Tab[j]? = some z → g.com 3 j = some (.int .u64 z)) ∧
    (∃ v, g.com 1 0 = some v ∧ (v = .nilIface ∨ ∃ t p, v = .iface t p)) ∧ (∃ v, g.com 2 0 = some v ∧ (v = .nilIface ∨ ∃ t p, v = .iface t p)) ∧ ∃ m, g.com 0 0 = some (.int .i64 m)
  mono h := fun ⟨h1, h2, ⟨v, h3, h4⟩, ⟨u, h5, h6⟩, m, h7⟩ => ⟨h.2.2 _ _ h1, fun j z hz => h.2.1 _ _ _ (h2 j z hz), ⟨v, h.2.1 _ _ _ h3, h4⟩, ⟨u, h.2.1 _ _ _ h5, h6⟩, m, h.2.1 _ _ _ h7⟩
theorem tab_of {g : Gh} {w : World} (h : TellsW Tryz.prog g w) : Lib.TabIs Tryz.prog w "internal/strconv.uint64pow10" .u64 Lib.pow10Tab := by
  obtain ⟨h1, h2, _⟩ := h.facts
  obtain ⟨c, t, fz, h3, h4⟩ := h.rows 3 20 h1
  have hn : Tryz.prog.globalNamed "internal/strconv.uint64pow10" = some 3 := by kernel_rfl
  simp only [Lib.TabIs, World.var?, hn, Option.bind_some, h3]
  congr 1
  apply Array.ext
  · rw [h4]; rfl
  · intro j h5 h6
    have h7 : j < Lib.pow10Tab.length := by simpa using h6
    have h8 := h.com 3 j _ (h2 j _ (List.getElem?_eq_getElem h7))
    simp only [World.cell?, h3, Option.isSome_none, Bool.false_eq_true, if_false, Array.getElem?_eq_getElem h5, Option.some.injEq] at h8
    simpa using h8
/-- strconv.Itoa. -/
theorem itoa_ok (n : Int) (h0 : -9223372036854775808 ≤ n) (h1 : n ≤ 9223372036854775807) (p : Oid) (hp : p.mono = false) : CallOK Tryz.prog 104 [.int .i64 n] (Oid.under p) ⟨[], .str (Lib.itoa n), []⟩ :=
  callOK_below (by kernel_rfl) hp fun g args w ha ht => by
    obtain ⟨v, rfl, hv⟩ := ha.one
    rw [hv.int_inv]
    refine (Tryz.strconv_Itoa n h0 h1 w (tab_of ht)).mono ?_
    rintro e w' ⟨rfl, k, os, rfl⟩
    exact ⟨_, rfl, .str _ _ rfl, ⟨rfl, rfl, rfl, by simp [Sort.grow, World.drewN], fun b hb => by simp only [Sort.grow, World.drewN]; rw [Array.getElem?_append_left hb]⟩⟩
/-- copyCheck at a fresh builder, at one that was written. -/
theorem cc_fresh (q : Oid) (v : AV) (sp : Oid → Prop) : CallOK Tryz.prog 167 [.ptr (.ty 172 q) 0] sp ⟨[(.ty 172 q, .cells [.nilPtr, v])], .tuple [], [(.ty 172 q, some (.cells [.ptr (.ty 172 q) 0, v]))]⟩ :=
  ⟨by kernel_rfl, fun x g args w m hm hn ha hs hx => by
    obtain ⟨u, rfl, hu⟩ := ha.one
    obtain ⟨b, rfl, hb⟩ := hu.ptr_inv
    have hmid := hn (.ty 172 q, .cells [.nilPtr, v]) (by simp)
    obtain ⟨b', h1, h2, h3, h4⟩ := hm.objL hmid hb
    rw [hb] at h1; simp only [Option.some.injEq] at h1; subst h1
    obtain ⟨c, t, fz, c1, c2, c3, c4⟩ := h4
    obtain ⟨c', fz', h5⟩ := hm.typs 172 q b hb
    rw [c1] at h5; simp only [Option.some.injEq, Obj.cells.injEq] at h5
    obtain ⟨_, rfl, _⟩ := h5
    have hsz : c.size = 2 := c2
    have k0 := c4 0 (by simp)
    have k1 := c4 1 (by simp)
    simp only [List.getD_cons_zero, List.getD_cons_succ] at k0 k1
    have k0' := k0.nilPtr_inv
    have hlt : b < w.heap.size := (Array.getElem?_eq_some_iff.1 c1).1
    have hg0 : c[0]? = some (.pointer none) := by
      rw [Array.getD_eq_getD_getElem?] at k0'
      rw [Array.getElem?_eq_getElem (by omega)] at k0' ⊢
      simpa using k0'
    have hf : ¬ (fz.1 ≤ 0 ∧ 0 < fz.2) := c3 0 (by omega)
    refine (copyCheck_fresh b w (by simp [World.cell?, c1, hg0]) (by simp [World.shape?, c1, hsz]) (by
      obtain ⟨lo, hi⟩ := fz
      simp only [World.frozen?, c1]
      simp only at hf
      by_cases h : lo ≤ 0
      · have : ¬ 0 < hi := fun h' => hf ⟨h, h'⟩
        simp [this]
      · simp [h])).mono ?_
    rintro e w' ⟨rfl, rfl⟩
    have hnew : (w.setCell ⟨b, 0, none⟩ (.pointer (some ⟨b, 0, none⟩))).heap[b]? = some (.cells (c.setIfInBounds 0 (.pointer (some ⟨b, 0, none⟩))) 172 fz) := by simp [World.setCell, Array.getElem?_modify, c1]
    refine ⟨g, _, rfl, Gh.le_refl g, fun _ _ => rfl, .tuple _ _ rfl (fun j hj => absurd hj (Nat.not_lt_zero _)), ?_⟩
    refine hm.turn (o := .cells [.ptr (.ty 172 q) 0, v]) (w' := w.setCell ⟨b, 0, none⟩ (.pointer (some ⟨b, 0, none⟩))) hmid hb rfl rfl ⟨rfl, Nat.le_refl _⟩ (by simp [World.setCell]) (fun k hk _ => Below.heap_setCell w ⟨b, 0, none⟩ _ k hk) (fun r hr => ?_) (fun c9 t9 fz9 h9 => ?_) ?_
    · obtain ⟨c', t', fz', h6, h7⟩ := hm.rows b r hr
      rw [c1] at h6; simp only [Option.some.injEq, Obj.cells.injEq] at h6
      obtain ⟨rfl, rfl, rfl⟩ := h6
      exact ⟨_, _, _, hnew, by simp [h7]⟩
    · rw [c1] at h9; simp only [Option.some.injEq, Obj.cells.injEq] at h9
      obtain ⟨rfl, rfl, rfl⟩ := h9
      exact ⟨_, _, hnew⟩
    · refine ⟨_, _, _, hnew, by simp [hsz], fun j hj => c3 j (by simpa using hj), fun j hj => ?_⟩
      have hj2 : j < 2 := hj
      match j, hj2 with
      | 0, _ =>
        simp only [List.getD_cons_zero, Array.getD_eq_getD_getElem?]
        rw [Array.getElem?_setIfInBounds_self_of_lt (by omega)]
        exact .ptr _ 0 b hb
      | 1, _ =>
        simp only [List.getD_cons_succ, List.getD_cons_zero, Array.getD_eq_getD_getElem?]
        rw [Array.getElem?_setIfInBounds_ne (by omega), ← Array.getD_eq_getD_getElem?]
        exact k1⟩
theorem cc_used (q : Oid) (v : AV) (sp : Oid → Prop) : CallOK Tryz.prog 167 [.ptr q 0] sp ⟨[(q, .cells [.ptr q 0, v])], .tuple [], []⟩ :=
  ⟨by kernel_rfl, fun x g args w m hm hn ha hs hx => by
    obtain ⟨u, rfl, hu⟩ := ha.one
    obtain ⟨b, rfl, hb⟩ := hu.ptr_inv
    have hmid := hn (q, .cells [.ptr q 0, v]) (by simp)
    obtain ⟨b', h1, h2, h3, h4⟩ := hm.objL hmid hb
    rw [hb] at h1; simp only [Option.some.injEq] at h1; subst h1
    obtain ⟨c, t, fz, c1, c2, c3, c4⟩ := h4
    have hsz : c.size = 2 := c2
    have k0 := c4 0 (by simp)
    simp only [List.getD_cons_zero] at k0
    obtain ⟨b2, k0', hb2⟩ := k0.ptr_inv
    rw [hb] at hb2; simp only [Option.some.injEq] at hb2; subst hb2
    have hg0 : c[0]? = some (.pointer (some ⟨b, 0, none⟩)) := by
      rw [Array.getD_eq_getD_getElem?] at k0'
      rw [Array.getElem?_eq_getElem (by omega)] at k0' ⊢
      simpa using k0'
    refine (copyCheck_used b w (by simp [World.cell?, c1, hg0])).mono ?_
    rintro e w' ⟨rfl, rfl⟩
    exact ⟨g, _, rfl, Gh.le_refl g, fun _ _ => rfl, .tuple _ _ rfl (fun j hj => absurd hj (Nat.not_lt_zero _)), hm⟩⟩
end Go.Proofs.YtaecbmbecofijaaGreatDoor
namespace Go.Proofs.YtaecbmbecofijaaGreatDoor
open Go Go.Ab
set_option maxRecDepth 20000
set_option maxHeartbeats 2000000
theorem gdR_T {v : OpR} : gdR True v = v := if_pos trivial
theorem upd_sub {need : List (Oid × AObj)} {upd : List (Oid × Option AObj)} {m : Mem} (h1 : ∀ q, q ∈ upd → ∀ o, q.2 = some o → m q.1 = some o) (h2 : ∀ q, q ∈ need → (∀ r, r ∈ upd → ¬ r.1 = q.1) → m q.1 = some q.2) (i : Oid) (o : AObj)
    (h : ((Mem.of need).upds upd) i = some o) : m i = some o := by
  by_cases hk : ∃ q ∈ upd, q.1 = i
  · obtain ⟨q', k1, k2, k3⟩ := upds_mem (m := Mem.of need) hk
    rw [k3] at h
    rw [← k2]; exact h1 q' k1 o h
  · rw [upds_nokey fun q hq e => hk ⟨q, hq, e⟩] at h
    obtain ⟨q, k1, rfl, rfl⟩ := Mem.of_mem h
    exact h2 q k1 fun r hr e => hk ⟨r, hr, e⟩
theorem done_upd {P : Program} {rs : List ResultVar} {need : List (Oid × AObj)} {fr : List (Nat × AV)} {m : Mem} {c : Nat} {val : AV} {upd : List (Oid × Option AObj)} (h1 : retM P m fr rs = some val)
    (h2 : ∀ q, q ∈ upd → ∀ o, q.2 = some o → m q.1 = some o) (h3 : ∀ q, q ∈ need → (∀ r, r ∈ upd → ¬ r.1 = q.1) → m q.1 = some q.2) : DoneN P rs need (fun v u => v = val ∧ u = upd) (fun _ _ => False) .ret ⟨fr, m, c, []⟩ :=
  done_ret val upd h1 ⟨rfl, rfl⟩ (upd_sub h2 h3)
theorem ws_fresh (q : Oid) (s : List UInt8) (hl : s.length ≤ 140737488355328) (p : Oid) (hq : ¬ Oid.under p (.ty 172 q)) :
    CallOK Tryz.prog 136 [.ptr (.ty 172 q) 0, .str s] (Oid.under p) ⟨[(.ty 172 q, .cells [.nilPtr, .nilSl])], .tuple [.int .i64 s.length, .nilIface],
      [(.ty 172 q, some (.cells [.ptr (.ty 172 q) 0, .sl (.ty 5 (.sub 2 6 p)) 1 s.length])), (.ty 5 (.sub 2 6 p), some (.arr 1 (s.map byA)))]⟩ := by
  refine fnOK (n := 19) (rs := [.tmp 4, .tmp 5]) Tryz.func136 rfl rfl (by decide) rfl rfl rfl ?_; rintro x rfl hrd hng
  (repeat (first | (refine K_ifT rfl rfl ?_) | (refine K_ifF rfl rfl ?_) | (refine K_ev nmd [] hng (by kernel_rfl) fun hf C S K hC1 hC hS hK => ?_; simp (disch := first | omega | assumption) only [go_sem]; (repeat ((first | refine hC1 _ (cc_fresh _ .nilSl _) (by simp (disch := first | omega | assumption) only [go_sem]) ?_); simp (disch := first | omega | assumption) only [go_sem])); refine hK ?_; clear hK hS hC hC1 K S C hf) | ((first | refine zn ?_ | refine ze ?_ | refine zk ?_); with_reducible (constructor; repeat constructor); try refine zl ?_)))
  refine K_ret (done_upd rfl ?_ ?_)
  all_goals simp only [List.mem_cons, List.not_mem_nil, or_false, forall_eq_or_imp, forall_eq, Option.some.injEq, forall_eq', Mem.of_cons_at, eq_self, if_true, ↓reduceIte, reduceCtorEq, implies_true, not_true_eq_false, false_imp_iff, true_and, and_true, false_and, and_false, imp_self, Oid.not_under_ty hq, Oid.ty_not_under hq]
  rfl
theorem ws_used (q r : Oid) (s0 s : List UInt8) (hl : s0.length + s.length ≤ 140737488355328) (p : Oid) (hq : ¬ Oid.under p (.ty 172 q)) (hr : ¬ Oid.under p (.ty 5 r)) :
    CallOK Tryz.prog 136 [.ptr (.ty 172 q) 0, .str s] (Oid.under p) ⟨[(.ty 172 q, .cells [.ptr (.ty 172 q) 0, .sl (.ty 5 r) 1 s0.length]), (.ty 5 r, .arr 1 (s0.map byA))], .tuple [.int .i64 s.length, .nilIface],
      [(.ty 172 q, some (.cells [.ptr (.ty 172 q) 0, .sl (.ty 5 (.sub 2 6 p)) 1 (s0 ++ s).length])), (.ty 5 r, none), (.ty 5 (.sub 2 6 p), some (.arr 1 ((s0 ++ s).map byA)))]⟩ := by
  have hr' : (Oid.ty 5 r = Oid.ty 5 (.sub 2 6 p)) = False := Oid.not_under_ty hr _ _ _
  refine fnOK (n := 19) (rs := [.tmp 4, .tmp 5]) Tryz.func136 rfl rfl (by decide) rfl rfl rfl ?_; rintro x rfl hrd hng
  (repeat (first | (refine K_ifT rfl rfl ?_) | (refine K_ifF rfl rfl ?_) | (refine K_ev nmd [] hng (by kernel_rfl) fun hf C S K hC1 hC hS hK => ?_; simp (disch := first | omega | assumption) only [go_sem]; (repeat ((first | refine hC1 _ (cc_used _ (.sl (.ty 5 r) 1 s0.length) _) (by simp (disch := first | omega | assumption) only [go_sem]) ?_); simp (disch := first | omega | assumption) only [go_sem])); refine hK ?_; clear hK hS hC hC1 K S C hf) | ((first | refine zn ?_ | refine ze ?_ | refine zk ?_); with_reducible (constructor; repeat constructor); try refine zl ?_)))
  refine K_ret (done_upd rfl ?_ ?_)
  all_goals simp only [List.mem_cons, List.not_mem_nil, or_false, forall_eq_or_imp, forall_eq, Option.some.injEq, forall_eq', Mem.of_cons_at, eq_self, if_true, ↓reduceIte, reduceCtorEq, implies_true, not_true_eq_false, false_imp_iff, true_and, and_true, false_and, and_false, imp_self, Oid.not_under_ty hq, Oid.ty_not_under hq, Oid.not_under_ty hr, Oid.ty_not_under hr, List.length_append, List.map_append]
  rfl
theorem string_ok (q r : Oid) (s : List UInt8) (h0 : 0 < s.length) (hl : s.length ≤ 140737488355328) (p : Oid) :
    CallOK Tryz.prog 137 [.ptr (.ty 172 q) 0] (Oid.under p) ⟨[(.ty 172 q, .cells [.ptr (.ty 172 q) 0, .sl (.ty 5 r) 1 s.length]), (.ty 5 r, .arr 1 (s.map byA))], .str s, [(.ty 5 r, none)]⟩ := by
  refine fnOK (n := 14) (rs := [.tmp 2]) Tryz.func137 rfl rfl (by decide) rfl rfl rfl ?_; rintro x rfl hrd hng
  (repeat (first | (refine K_ifT rfl rfl ?_) | (refine K_ifF rfl rfl ?_) | (refine K_ev nmd [] hng (by kernel_rfl) fun hf C S K hC1 hC hS hK => ?_; simp (disch := first | omega | assumption) only [go_sem]; refine hK ?_; clear hK hS hC hC1 K S C hf) | ((first | refine zn ?_ | refine ze ?_ | refine zk ?_); with_reducible (constructor; repeat constructor); try refine zl ?_)))
  refine K_evd nmd [] [] mixed hng (by kernel_rfl) [0, 2] fun hf C S K hC hS hK => ?_; simp (disch := first | omega | assumption) only [go_sem]
  (first | refine hK (dynN_quiet rfl) ?_ | refine hK (by simp (disch := first | omega | assumption) only [go_sem, List.reverse_cons, List.reverse_nil, ne_eq, not_false_eq_true, implies_true]) ?_); clear hK hS hC K S C hf
  refine K_ret (done_upd rfl ?_ ?_)
  all_goals simp only [List.mem_cons, List.not_mem_nil, or_false, forall_eq_or_imp, forall_eq, Option.some.injEq, forall_eq', Mem.of_cons_at, eq_self, if_true, ↓reduceIte, reduceCtorEq, implies_true, not_true_eq_false, false_imp_iff, true_and, and_true, false_and, and_false, imp_self]
theorem string_nil (q : Oid) (p : Oid) :
    CallOK Tryz.prog 137 [.ptr (.ty 172 q) 0] (Oid.under p) ⟨[(.ty 172 q, .cells [.nilPtr, .nilSl])], .str [], []⟩ := by
  refine fnOK (n := 14) (rs := [.tmp 2]) Tryz.func137 rfl rfl (by decide) rfl rfl rfl ?_; rintro x rfl hrd hng
  (repeat (first | (refine K_ifT rfl rfl ?_) | (refine K_ifF rfl rfl ?_) | (refine K_ev nmd [] hng (by kernel_rfl) fun hf C S K hC1 hC hS hK => ?_; simp (disch := first | omega | assumption) only [go_sem]; refine hK ?_; clear hK hS hC hC1 K S C hf) | ((first | refine zn ?_ | refine ze ?_ | refine zk ?_); with_reducible (constructor; repeat constructor); try refine zl ?_)))
  refine K_evd nmd [] [] mixed hng (by kernel_rfl) [0, 2] fun hf C S K hC hS hK => ?_; simp (disch := first | omega | assumption) only [go_sem, gdR_T]
  (first | refine hK (dynN_quiet rfl) ?_ | refine hK (by simp (disch := first | omega | assumption) only [go_sem, List.reverse_cons, List.reverse_nil, ne_eq, not_false_eq_true, implies_true]) ?_); clear hK hS hC K S C hf
  refine K_ret (done_upd rfl ?_ ?_)
  all_goals simp only [List.mem_cons, List.not_mem_nil, or_false, forall_eq_or_imp, forall_eq, Option.some.injEq, forall_eq', Mem.of_cons_at, eq_self, if_true, ↓reduceIte, reduceCtorEq, implies_true, not_true_eq_false, false_imp_iff, true_and, and_true, false_and, and_false, imp_self]
end Go.Proofs.YtaecbmbecofijaaGreatDoor
namespace Go.Proofs.YtaecbmbecofijaaGreatDoor
open Go Go.Ab Go.RowKit
set_option maxRecDepth 20000
set_option maxHeartbeats 2000000
abbrev Str := List UInt8
theorem mono_sub' {c i : Nat} {p : Oid} (hi : (i == 999983) = false) (hp : p.mono = false) : (Oid.sub c i p).mono = false := by rw [Oid.mono_sub, hi, hp]; rfl
def atoiN (s : Str) : Int := match Lib.atoiAll s with | .ok v => v | .range => Lib.atoiSat s | _ => 0
def atoiG (s : Str) : Bool := match Lib.atoiAll s with | .ok _ => true | _ => false
def atoiE (s : Str) : AV := if atoiG s = true then .nilIface else .iface 213 .undef
theorem below_bytes (w : World) (e : TypeId) (s : ByteArray) : Below w.heap.size w (Lib.bytesWorld w e s) := by
  unfold Lib.bytesWorld
  exact Lib.below_freeze ((Below.drew (Below.refl _ w)).alloc (Nat.le_refl _) _) (p := ⟨w.heap.size, _, none⟩) (Nat.le_refl _) _
theorem atoi_ok (s : Str) (hl : s.length ≤ 281474976710656) (p : Oid) (hp : p.mono = false) : CallOK Tryz.prog 133 [.str s] (Oid.under p) ⟨[], .tuple [.int .i64 (atoiN s), atoiE s], []⟩ :=
  callOK_below (by kernel_rfl) hp fun g args w ha ht => by
    obtain ⟨v, rfl, hv⟩ := ha.one
    obtain ⟨b, rfl, hb⟩ := hv.str_inv
    obtain ⟨_, _, ⟨v1, h1, h2⟩, ⟨v2, h3, h4⟩, _⟩ := ht.facts
    have hsz : b.size = s.length := by rw [← hb]; simp
    have pair : ∀ (x y : AV) (u v : Value), VR g x u → VR g y v → VR g (.tuple [x, y]) (.tuple #[u, v]) := fun x y u v hx hy => .tuple _ _ rfl (fun j hj => by
      match j, hj with
      | 0, _ => exact hx
      | 1, _ => exact hy)
    cases hc : Lib.atoiAll s with
    | ok n =>
      refine (Tryz.strconv_Atoi_ok b (by omega) n (by rw [hb]; exact hc) w).mono ?_
      rintro e w' ⟨rfl, hw⟩
      refine ⟨_, rfl, pair _ _ _ _ ?_ ?_, ?_⟩
      · simp only [atoiN, hc]; exact .int _ _
      · simp only [atoiE, atoiG, hc, if_true]; exact .nilIface
      · rcases hw with rfl | ⟨t, rfl⟩
        · exact Below.refl _ _
        · exact below_bytes _ _ _
    | range =>
      refine (Tryz.strconv_Atoi_range b (by omega) (by rw [hb]; exact hc) v2 w (ht.com 2 0 _ h3) h4).mono ?_
      rintro e w' ⟨N, rfl, _, _, hw⟩
      refine ⟨_, rfl, pair _ _ _ _ ?_ ?_, hw⟩
      · simp only [atoiN, hc, hb]; exact .int _ _
      · simp only [atoiE, atoiG, hc, Bool.false_eq_true, if_false]; exact .iface _ _ _ (.unk _)
    | _ =>
      refine (Any.strconv_Atoi_syntax Tryz.laysC172 b (by omega) (by rw [hb]; exact hc) v1 w (ht.com 1 0 _ h1) h2).mono ?_
      rintro e w' ⟨N, rfl, _, _, hw⟩
      refine ⟨_, rfl, pair _ _ _ _ ?_ ?_, hw⟩
      · simp only [atoiN, hc]; exact .int _ _
      · simp only [atoiE, atoiG, hc, Bool.false_eq_true, if_false]; exact .iface _ _ _ (.unk _)
/-- What Number says. -/
def numG (s : Str) : Bool := atoiG s && decide (0 ≤ atoiN s) && decide (s.length ≤ 9) && decide (Lib.itoa (atoiN s) = s)
theorem atoiN_bounds (s : Str) : -9223372036854775808 ≤ atoiN s ∧ atoiN s ≤ 9223372036854775807 := by
  unfold atoiN
  split
  · exact Lib.atoiAll_bounds (by assumption)
  · unfold Lib.atoiSat; split <;> omega
  · omega
theorem numG_0 {s : Str} (h : atoiG s = false) : numG s = false := by simp [numG, h]
theorem numG_2 {s : Str} (h : ¬ 0 ≤ atoiN s) : numG s = false := by simp [numG, h]
theorem numG_3 {s : Str} (h : ¬ s.length ≤ 9) : numG s = false := by simp only [numG, decide_eq_false h, Bool.and_false, Bool.false_and]
theorem numG_1 {s : Str} (h : atoiG s = true) (h2 : 0 ≤ atoiN s) (h3 : s.length ≤ 9) : numG s = decide (Lib.itoa (atoiN s) = s) := by simp only [numG, h, decide_eq_true h2, decide_eq_true h3, Bool.true_and]
theorem number_ok (s : Str) (hl : s.length ≤ 281474976710656) (p : Oid) (hp : p.mono = false) : CallOK Tryz.prog 102 [.str s] (Oid.under p) ⟨[], .tuple [.int .i64 (atoiN s), .bool (numG s)], []⟩ := by
  obtain ⟨hb1, hb2⟩ := atoiN_bounds s
  cases hg : atoiG s with
  | true =>
    have hZ : ∀ p : Oid, p.mono = false → CallOK Tryz.prog 133 [.str s] (Oid.under p) ⟨[], .tuple [.int .i64 (atoiN s), .nilIface], []⟩ := fun p hp => by have := atoi_ok s hl p hp; rwa [atoiE, if_pos hg] at this
    refine fnOK (n := 29) (rs := [.tmp 2, .tmp 3]) Tryz.func102 rfl rfl (by decide) rfl rfl rfl ?_; rintro x rfl hrd hng
    (repeat (first | (refine K_ifT rfl rfl ?_) | (refine K_ifF rfl rfl ?_) | (refine K_ev nmd [] hng (by kernel_rfl) fun hf C S K hC1 hC hS hK => ?_; simp (disch := first | omega | assumption) only [go_sem]; (repeat ((first | refine hC1 _ (hZ _ (mono_sub' rfl hp)) (by simp (disch := first | omega | assumption) only [go_sem]) ?_); simp (disch := first | omega | assumption) only [go_sem])); refine hK ?_; clear hK hS hC hC1 K S C hf) | ((first | refine zn ?_ | refine ze ?_ | refine zk ?_); with_reducible (constructor; repeat constructor); try refine zl ?_)))
    refine K_ev nmd [(3, 14), (7, 18), (12, 23)] hng (by kernel_rfl) fun hf C S K hC1 hC hS hK => ?_; simp (disch := first | omega | assumption) only [go_sem]
    (repeat' (first | (refine evG_split (fun hv => ?_) (fun hv => ?_) <;> (try simp only [zb1, zb2, zb3, zb4, zb5] at hv) <;> simp (disch := first | omega | assumption) only [go_sem, hv]) | (refine hC1 _ (itoa_ok (atoiN s) hb1 hb2 _ (mono_sub' rfl hp)) (by simp (disch := first | omega | assumption) only [go_sem]) ?_; simp (disch := first | omega | assumption) only [go_sem]) | (refine hK ?_; clear hK hS hC hC1 K S C hf)))
    · (try ((first | refine zn ?_ | refine ze ?_ | refine zk ?_); with_reducible (constructor; repeat constructor)); try refine zl ?_)
      exact K_ret (done_plain (by rw [numG_1 hg (by omega) (by omega)]; rfl))
    · (try ((first | refine zn ?_ | refine ze ?_ | refine zk ?_); with_reducible (constructor; repeat constructor)); try refine zl ?_)
      exact K_ret (done_plain (by rw [numG_3 (by omega)]; rfl))
    · (try ((first | refine zn ?_ | refine ze ?_ | refine zk ?_); with_reducible (constructor; repeat constructor)); try refine zl ?_)
      exact K_ret (done_plain (by rw [numG_2 hv]; rfl))
  | false =>
    have hZ : ∀ p : Oid, p.mono = false → CallOK Tryz.prog 133 [.str s] (Oid.under p) ⟨[], .tuple [.int .i64 (atoiN s), .iface 213 .undef], []⟩ := fun p hp => by have := atoi_ok s hl p hp; rwa [atoiE, if_neg (by rw [hg]; decide)] at this
    refine fnOK (n := 29) (rs := [.tmp 2, .tmp 3]) Tryz.func102 rfl rfl (by decide) rfl rfl rfl ?_; rintro x rfl hrd hng
    (repeat (first | (refine K_ifT rfl rfl ?_) | (refine K_ifF rfl rfl ?_) | (refine K_ev nmd [] hng (by kernel_rfl) fun hf C S K hC1 hC hS hK => ?_; simp (disch := first | omega | assumption) only [go_sem]; (repeat ((first | refine hC1 _ (hZ _ (mono_sub' rfl hp)) (by simp (disch := first | omega | assumption) only [go_sem]) ?_); simp (disch := first | omega | assumption) only [go_sem])); refine hK ?_; clear hK hS hC hC1 K S C hf) | ((first | refine zn ?_ | refine ze ?_ | refine zk ?_); with_reducible (constructor; repeat constructor); try refine zl ?_)))
    refine K_ev nmd [(3, 14), (7, 18), (12, 23)] hng (by kernel_rfl) fun hf C S K hC1 hC hS hK => ?_; simp (disch := first | omega | assumption) only [go_sem]
    (repeat' (first | (refine evG_split (fun hv => ?_) (fun hv => ?_) <;> (try simp only [zb1, zb2, zb3, zb4, zb5] at hv) <;> simp (disch := first | omega | assumption) only [go_sem, hv]) | (refine hC1 _ (itoa_ok (atoiN s) hb1 hb2 _ (mono_sub' rfl hp)) (by simp (disch := first | omega | assumption) only [go_sem]) ?_; simp (disch := first | omega | assumption) only [go_sem]) | (refine hK ?_; clear hK hS hC hC1 K S C hf)))
    (try ((first | refine zn ?_ | refine ze ?_ | refine zk ?_); with_reducible (constructor; repeat constructor)); try refine zl ?_)
    exact K_ret (done_plain (by rw [numG_0 hg]; rfl))
theorem numG_pos {s : Str} (h : numG s = true) : 0 ≤ atoiN s := by
  simp only [numG, Bool.and_eq_true, decide_eq_true_eq] at h; exact h.1.1.2
end Go.Proofs.YtaecbmbecofijaaGreatDoor
namespace Go.Proofs.YtaecbmbecofijaaGreatDoor
open Go Go.Ab
set_option maxRecDepth 20000
set_option maxHeartbeats 4000000
theorem decDigits_len (n : Nat) (h : (n : Int) ≤ 9223372036854775807) : (Lib.decDigits n).length ≤ 21 := by
  have := Lib.itoa_length_le n (by omega) h; rwa [Lib.itoa_nonneg] at this
theorem gd_T (v : Option AV) : gd True v = v := if_pos trivial
theorem tmod_nat (a b : Nat) : (a : Int).tmod b = ((a % b : Nat) : Int) := by
  rw [Int.tmod_eq_emod_of_nonneg (by omega)]; rfl
theorem digits_ok (n : Nat) (hn : (n : Int) ≤ 9223372036854775807) : ∀ p : Oid, CallOK Tryz.prog 131 [.int .i64 n] (Oid.under p) ⟨[], .str (Lib.decDigits n), []⟩ := by
  induction n using Nat.strongRecOn with
  | ind n ih =>
    intro p
    have h10 : (n : Int).tmod 10 = ((n % 10 : Nat) : Int) := tmod_nat n 10
    have h11 : (n : Int).tdiv 10 = ((n / 10 : Nat) : Int) := tdiv_nat n 10
    have hw : (48 + ((n % 10 : Nat) : Int)) ≤ 57 := by omega
    have hd : IntKind.u8.wrap (48 + ((n % 10 : Nat) : Int)) = ((UInt8.ofNat (48 + n % 10)).toNat : Int) := by
      rw [w8 (by omega) (by omega), UInt8.toNat_ofNat']; omega
    have hlen := decDigits_len (n / 10) (by omega)
    refine fnOK (n := 18) (rs := [.tmp 2]) Tryz.func131 rfl rfl (by decide) rfl rfl rfl ?_; rintro x rfl hrd hng
    (try ((first | refine zn ?_ | refine ze ?_ | refine zk ?_); with_reducible (constructor; repeat constructor)); try refine zl ?_)
    refine K_ev nmd [] hng (by kernel_rfl) fun hf C S K hC1 hC hS hK => ?_; simp (disch := first | omega | assumption) only [go_sem]
    refine hK ?_; clear hK hS hC hC1 K S C hf
    (try ((first | refine zn ?_ | refine ze ?_ | refine zk ?_); with_reducible (constructor; repeat constructor)); try refine zl ?_)
    refine K_ev nmd [] hng (by kernel_rfl) fun hf C S K hC1 hC hS hK => ?_; simp (disch := first | omega | assumption) only [go_sem, h10, hd, gd_T]
    refine hK ?_; clear hK hS hC hC1 K S C hf
    (repeat (first | (refine K_ifT rfl rfl ?_) | (refine K_ifF rfl rfl ?_) | (refine K_ev nmd [] hng (by kernel_rfl) fun hf C S K hC1 hC hS hK => ?_; simp (disch := first | omega | assumption) only [go_sem]; refine hK ?_; clear hK hS hC hC1 K S C hf) | ((first | refine zn ?_ | refine ze ?_ | refine zk ?_); with_reducible (constructor; repeat constructor); try refine zl ?_)))
    refine K_ifd rfl rfl (fun hb => ?_) (fun hb => ?_)
    · (repeat (first | (refine K_ifT rfl rfl ?_) | (refine K_ifF rfl rfl ?_) | (refine K_ev nmd [] hng (by kernel_rfl) fun hf C S K hC1 hC hS hK => ?_; simp (disch := first | omega | assumption) only [go_sem]; refine hK ?_; clear hK hS hC hC1 K S C hf) | ((first | refine zn ?_ | refine ze ?_ | refine zk ?_); with_reducible (constructor; repeat constructor); try refine zl ?_)))
      exact K_ret (done1 (congrArg AV.str (by rw [Lib.decDigits, dif_pos (by omega)]; congr 2; rw [Nat.mod_eq_of_lt (by omega)])))
    · (try ((first | refine zn ?_ | refine ze ?_ | refine zk ?_); with_reducible (constructor; repeat constructor)); try refine zl ?_)
      refine K_ev nmd [] hng (by kernel_rfl) fun hf C S K hC1 hC hS hK => ?_; simp (disch := first | omega | assumption) only [go_sem, h11]
      refine hC1 _ (ih (n / 10) (by omega) (by omega) _) (by simp (disch := first | omega | assumption) only [go_sem]) ?_
      simp (disch := first | omega | assumption) only [go_sem]
      refine hK ?_; clear hK hS hC hC1 K S C hf
      (repeat (first | (refine K_ifT rfl rfl ?_) | (refine K_ifF rfl rfl ?_) | (refine K_ev nmd [] hng (by kernel_rfl) fun hf C S K hC1 hC hS hK => ?_; simp (disch := first | omega | assumption) only [go_sem]; refine hK ?_; clear hK hS hC hC1 K S C hf) | ((first | refine zn ?_ | refine ze ?_ | refine zk ?_); with_reducible (constructor; repeat constructor); try refine zl ?_)))
      exact K_ret (done1 (congrArg AV.str (by rw [Lib.decDigits.eq_def n, dif_neg (by omega)])))
end Go.Proofs.YtaecbmbecofijaaGreatDoor
namespace Go.Proofs.YtaecbmbecofijaaGreatDoor
open Go Go.Ab
theorem dec_snoc (b : UInt8) : ∀ (t : Str) (a : Nat), Lib.decFrom a (t ++ [b]) = (Lib.decFrom a t).bind fun v => (Lib.digitVal b).map fun d => v * 10 + d
  | [], a => by
    simp only [List.nil_append, Lib.decFrom, Option.bind_some]
    cases Lib.digitVal b <;> rfl
  | c :: t, a => by
    simp only [List.cons_append, Lib.decFrom]
    cases Lib.digitVal c with
    | none => rfl
    | some d => exact dec_snoc b t _
theorem digit_of {d : Nat} (h : d < 10) : Lib.digitVal (UInt8.ofNat (48 + d)) = some d := by
  have h1 : (UInt8.ofNat (48 + d)).toNat = 48 + d := by rw [UInt8.toNat_ofNat']; omega
  rw [Lib.digitVal, h1, if_pos (by omega)]; congr 1; omega
theorem digit_inv {b : UInt8} {d : Nat} (h : Lib.digitVal b = some d) : d < 10 ∧ b = UInt8.ofNat (48 + d) := by
  unfold Lib.digitVal at h
  split at h
  · simp only [Option.some.injEq] at h
    refine ⟨by omega, UInt8.toNat_inj.1 ?_⟩
    rw [UInt8.toNat_ofNat']; omega
  · cases h
theorem digits_small {n : Nat} (h : n < 10) : Lib.decDigits n = [UInt8.ofNat (48 + n)] := by rw [Lib.decDigits, dif_pos h]
theorem digits_big {n : Nat} (h : ¬ n < 10) : Lib.decDigits n = Lib.decDigits (n / 10) ++ [UInt8.ofNat (48 + n % 10)] := by rw [Lib.decDigits.eq_def n, dif_neg h]
theorem digits_ne (n : Nat) : ¬ Lib.decDigits n = [] := by
  by_cases h : n < 10
  · rw [digits_small h]; simp
  · rw [digits_big h]; simp
theorem dec_digits (n : Nat) : Lib.decFrom 0 (Lib.decDigits n) = some n := by
  induction n using Nat.strongRecOn with
  | ind n ih =>
    by_cases h : n < 10
    · rw [digits_small h, Lib.decFrom, digit_of h]; simp [Lib.decFrom]
    · rw [digits_big h, dec_snoc, ih _ (by omega), digit_of (by omega)]
      simp only [Option.bind_some, Option.map_some]; congr 1; omega
theorem getD_head {t u : Str} (h : ¬ t = []) : (t ++ u).getD 0 0 = t.getD 0 0 := by
  cases t with
  | nil => exact absurd rfl h
  | cons => rfl
theorem digits_head (n : Nat) : (Lib.decDigits n).getD 0 0 = 48 → n = 0 := by
  induction n using Nat.strongRecOn with
  | ind n ih =>
    intro h
    by_cases hs : n < 10
    · rw [digits_small hs] at h
      have h1 := congrArg UInt8.toNat h
      simp only [List.getD_cons_zero] at h1
      rw [UInt8.toNat_ofNat'] at h1
      have : (48 : UInt8).toNat = 48 := rfl
      omega
    · rw [digits_big hs, getD_head (digits_ne _)] at h
      have := ih (n / 10) (by omega) h
      omega
/-- A canonical numeral is what its value is written as. -/
theorem dec_canon : ∀ (k : Nat) (s : Str) (n : Nat), s.length = k → ¬ s = [] → ¬ (s.getD 0 0 = 48 ∧ 1 < s.length) → Lib.decFrom 0 s = some n → Lib.decDigits n = s := by
  intro k
  induction k with
  | zero => intro s n hk hs; exact absurd (List.eq_nil_of_length_eq_zero hk) hs
  | succ k ih =>
    intro s n hk hs hc hd
    rcases List.eq_nil_or_concat s with rfl | ⟨t, b, rfl⟩
    · exact absurd rfl hs
    rw [List.concat_eq_append] at hk hs hc hd ⊢
    rw [dec_snoc] at hd
    simp only [Option.bind_eq_some_iff, Option.map_eq_some_iff] at hd
    obtain ⟨v, hv, d, hb, rfl⟩ := hd
    obtain ⟨hd10, rfl⟩ := digit_inv hb
    by_cases ht : t = []
    · subst ht
      simp only [Lib.decFrom, Option.some.injEq] at hv
      subst hv
      rw [Nat.zero_mul, Nat.zero_add, digits_small hd10]; rfl
    · rw [getD_head ht] at hc
      simp only [List.length_append, List.length_cons, List.length_nil] at hc hk
      have hlt := List.length_pos_iff.2 ht
      have := ih t v (by omega) ht (fun h => hc ⟨h.1, by omega⟩) hv
      have hv1 : ¬ v = 0 := fun e => by
        subst e
        rw [digits_small (by decide)] at this
        exact hc ⟨by rw [← this]; rfl, by omega⟩
      rw [digits_big (by omega), show (v * 10 + d) / 10 = v by omega, show (v * 10 + d) % 10 = d by omega, this]
def refN (s : Str) : Int := if s = [] ∨ 9 < s.length ∨ s.getD 0 0 = 48 ∧ 1 < s.length then -1 else match Lib.decFrom 0 s with | some n => n | none => -1
theorem num_ref (s : Str) : numG s = decide (0 ≤ refN s) ∧ (numG s = true → atoiN s = refN s) := by
  by_cases hl : s.length ≤ 9
  · have hsh := Lib.atoiAll_short s (by omega)
    by_cases hg : numG s = true
    · have h := hg
      simp only [numG, Bool.and_eq_true, decide_eq_true_eq] at h
      obtain ⟨⟨⟨h1, h2⟩, _⟩, h4⟩ := h
      obtain ⟨n, hn⟩ := Int.eq_ofNat_of_zero_le h2
      rw [hn, Lib.itoa_nonneg] at h4
      have hR : refN s = n := by
        rw [refN, if_neg, ← h4, dec_digits]
        rintro (h | h | ⟨h, h'⟩)
        · exact digits_ne n (h4.trans h)
        · omega
        · rw [← h4] at h h'
          have := digits_head n h
          subst this
          rw [digits_small (by decide)] at h'
          simp at h'
      rw [hg, hR]
      exact ⟨by simp, fun _ => hn⟩
    · refine ⟨?_, fun h => absurd h hg⟩
      have hgf : numG s = false := by simpa using hg
      rw [hgf]
      symm
      rw [decide_eq_false_iff_not]
      intro h0
      apply hg
      unfold refN at h0
      split at h0
      · omega
      · rename_i hc
        split at h0
        · rename_i n hd
          have hs : ¬ s = [] := fun e => hc (.inl e)
          have hcan := dec_canon _ s n rfl hs (fun h => hc (.inr (.inr h))) hd
          have hat : Lib.atoi s = some (n : Int) := by
            cases s with
            | nil => exact absurd rfl hs
            | cons b r =>
              have hb : ∃ d, Lib.digitVal b = some d := by
                simp only [Lib.decFrom] at hd
                split at hd
                · exact ⟨_, by assumption⟩
                · cases hd
              obtain ⟨d, hbd⟩ := hb
              unfold Lib.digitVal at hbd
              split at hbd
              · rename_i hr
                have h45 : (b == 45) = false := by rw [beq_eq_false_iff_ne]; rintro rfl; exact absurd hr.1 (by decide)
                have h43 : (b == 43) = false := by rw [beq_eq_false_iff_ne]; rintro rfl; exact absurd hr.1 (by decide)
                simp only [Lib.atoi, h45, h43, Lib.decNat, List.isEmpty_cons, hd, Bool.false_eq_true, if_false, Option.map_some]
              · cases hbd
          rw [hat] at hsh
          have h1 : Lib.atoiAll s = .ok (n : Int) := hsh
          have h2 : atoiN s = n := by simp only [atoiN, h1]
          simp only [numG, h2, atoiG, h1, Lib.itoa_nonneg, hcan, Bool.and_eq_true, decide_eq_true_eq]
          exact ⟨⟨⟨trivial, by omega⟩, hl⟩, trivial⟩
        · omega
  · have hR : refN s = -1 := by rw [refN, if_pos (.inr (.inl (by omega)))]
    rw [hR, numG_3 hl]
    exact ⟨by decide, fun h => by cases h⟩
end Go.Proofs.YtaecbmbecofijaaGreatDoor
namespace Go.Proofs.YtaecbmbecofijaaGreatDoor
open Go Go.Ab
set_option maxRecDepth 20000
set_option maxHeartbeats 4000000
theorem dec_app (u : Str) : ∀ (t : Str) (a : Nat), Lib.decFrom a (t ++ u) = (Lib.decFrom a t).bind fun v => Lib.decFrom v u
  | [], a => rfl
  | c :: t, a => by
    simp only [List.cons_append, Lib.decFrom]
    cases Lib.digitVal c with
    | none => rfl
    | some d => exact dec_app u t _
theorem drop_cons0 {l : Str} {i : Nat} (h : i < l.length) : l.drop i = l.getD i 0 :: l.drop (i + 1) := by
  rw [List.drop_eq_getElem_cons h, List.getD_eq_getElem?_getD, List.getElem?_eq_getElem h]; rfl
theorem numberR_ok (s : Str) (hl : s.length ≤ 4000000000) (p : Oid) : CallOK Tryz.prog 140 [.str s] (Oid.under p) ⟨[], .int .i64 (refN s), []⟩ := by
  by_cases hs : s = []
  · subst hs
    refine fnOK (n := 47) (rs := [.tmp 2]) Tryz.func140 rfl rfl (by decide) rfl rfl rfl ?_; rintro x rfl hrd hng
    (try ((first | refine zn ?_ | refine ze ?_ | refine zk ?_); with_reducible (constructor; repeat constructor)); try refine zl ?_)
    refine K_ev nmd [] hng (by kernel_rfl) fun hf C S K hC1 hC hS hK => ?_; simp (disch := first | omega | assumption) only [go_sem]
    refine hK ?_; clear hK hS hC hC1 K S C hf
    (try ((first | refine zn ?_ | refine ze ?_ | refine zk ?_); with_reducible (constructor; repeat constructor)); try refine zl ?_)
    refine K_ev nmd [(2, 7), (7, 12), (11, 16)] hng (by kernel_rfl) fun hf C S K hC1 hC hS hK => ?_; simp (disch := first | omega | assumption) only [go_sem]
    (repeat' (first | (refine evG_split (fun hv => ?_) (fun hv => ?_) <;> (try simp only [zb1, zb2, zb3, zb4, zb5] at hv) <;> simp (disch := first | omega | assumption) only [go_sem, hv, Int.reduceEq, Int.reduceNe, ne_eq, not_true_eq_false, not_false_eq_true, decide_true, decide_false]) | (refine hK ?_; clear hK hS hC hC1 K S C hf)))
    (repeat (first | (refine K_ifT rfl rfl ?_) | (refine K_ifF rfl rfl ?_) | (refine K_ev nmd [] hng (by kernel_rfl) fun hf C S K hC1 hC hS hK => ?_; simp (disch := first | omega | assumption) only [go_sem]; refine hK ?_; clear hK hS hC hC1 K S C hf) | ((first | refine zn ?_ | refine ze ?_ | refine zk ?_); with_reducible (constructor; repeat constructor); try refine zl ?_)))
    exact K_ret (done1 rfl)
  have hpos := List.length_pos_iff.2 hs
  refine fnOK (n := 47) (rs := [.tmp 2]) Tryz.func140 rfl rfl (by decide) rfl rfl rfl ?_; rintro x rfl hrd hng
  (try ((first | refine zn ?_ | refine ze ?_ | refine zk ?_); with_reducible (constructor; repeat constructor)); try refine zl ?_)
  refine K_ev nmd [] hng (by kernel_rfl) fun hf C S K hC1 hC hS hK => ?_; simp (disch := first | omega | assumption) only [go_sem]
  refine hK ?_; clear hK hS hC hC1 K S C hf
  (try ((first | refine zn ?_ | refine ze ?_ | refine zk ?_); with_reducible (constructor; repeat constructor)); try refine zl ?_)
  refine K_cut [0, 21] (fun s' => ∃ b, s' = ⟨[(0, .str s), (21, .bool b)], Mem.of [], 2, []⟩ ∧ (b = true ↔ (s = [] ∨ 9 < s.length ∨ s.getD 0 0 = 48 ∧ 1 < s.length))) ?_ ?_
  · refine K_ev nmd [(2, 7), (7, 12), (11, 16)] hng (by kernel_rfl) fun hf C S K hC1 hC hS hK => ?_; simp (disch := first | omega | assumption) only [go_sem]
    (repeat' (first | (refine evG_split (fun hv => ?_) (fun hv => ?_) <;> (try simp only [zb1, zb2, zb3, zb4, zb5] at hv) <;> simp (disch := first | omega | assumption) only [go_sem, hv, Int.reduceEq, Int.reduceNe, ne_eq, not_true_eq_false, not_false_eq_true, decide_true, decide_false]) | (refine hK ?_; clear hK hS hC hC1 K S C hf)))
    · refine K_cutN ⟨_, rfl, ?_⟩
      have h4 : s.getD 0 0 = 48 := UInt8.toNat_inj.1 (by have : (48 : UInt8).toNat = 48 := rfl; omega)
      simp only [decide_eq_true_eq, h4, hs, true_and, false_or]; omega
    · refine K_cutN ⟨_, rfl, ?_⟩
      have h4 : ¬ s.getD 0 0 = 48 := fun e => hv (by rw [e]; rfl)
      simp only [h4, hs, false_and, false_or, or_false, Bool.false_eq_true, false_iff]; omega
    · refine K_cutN ⟨_, rfl, ?_⟩
      exact ⟨fun _ => .inr (.inl (by omega)), fun _ => rfl⟩
    · exact absurd hv hs
  rintro s' ⟨b, rfl, hbad⟩
  (repeat (first | (refine K_ifT rfl rfl ?_) | (refine K_ifF rfl rfl ?_) | (refine K_ev nmd [] hng (by kernel_rfl) fun hf C S K hC1 hC hS hK => ?_; simp (disch := first | omega | assumption) only [go_sem]; refine hK ?_; clear hK hS hC hC1 K S C hf) | ((first | refine zn ?_ | refine ze ?_ | refine zk ?_); with_reducible (constructor; repeat constructor); try refine zl ?_)))
  refine K_if rfl rfl (fun hb => ?_) (fun hb => ?_)
  · (repeat (first | (refine K_ifT rfl rfl ?_) | (refine K_ifF rfl rfl ?_) | (refine K_ev nmd [] hng (by kernel_rfl) fun hf C S K hC1 hC hS hK => ?_; simp (disch := first | omega | assumption) only [go_sem]; refine hK ?_; clear hK hS hC hC1 K S C hf) | ((first | refine zn ?_ | refine ze ?_ | refine zk ?_); with_reducible (constructor; repeat constructor); try refine zl ?_)))
    exact K_ret (done1 (congrArg (AV.int .i64) (by rw [refN, if_pos (hbad.1 hb)])))
  · have hok : ¬ (s = [] ∨ 9 < s.length ∨ s.getD 0 0 = 48 ∧ 1 < s.length) := fun h => by rw [hbad.2 h] at hb; cases hb
    have hl9 : s.length ≤ 9 := by omega
    (repeat (first | (refine K_ifT rfl rfl ?_) | (refine K_ifF rfl rfl ?_) | (refine K_ev nmd [] hng (by kernel_rfl) fun hf C S K hC1 hC hS hK => ?_; simp (disch := first | omega | assumption) only [go_sem]; refine hK ?_; clear hK hS hC hC1 K S C hf) | ((first | refine zn ?_ | refine ze ?_ | refine zk ?_); with_reducible (constructor; repeat constructor); try refine zl ?_)))
    refine K_loop [0, 3, 4] (fun k s' => ∃ (i n c : Nat), k = s.length - i ∧ i ≤ s.length ∧ Lib.decFrom 0 (s.take i) = some n ∧ n < 10 ^ i ∧ s' = ⟨[(0, .str s), (3, .int .i64 n), (4, .int .i64 i)], Mem.of [], c, []⟩) _ ⟨0, 0, _, rfl, Nat.zero_le _, rfl, by decide, rfl⟩ ?_
    rintro k s' ⟨i, n, c, rfl, hi, hd, hn, rfl⟩
    (repeat (first | (refine K_ifT rfl rfl ?_) | (refine K_ifF rfl rfl ?_) | (refine K_ev nmd [] hng (by kernel_rfl) fun hf C S K hC1 hC hS hK => ?_; simp (disch := first | omega | assumption) only [go_sem]; refine hK ?_; clear hK hS hC hC1 K S C hf) | ((first | refine zn ?_ | refine ze ?_ | refine zk ?_); with_reducible (constructor; repeat constructor); try refine zl ?_)))
    refine K_ifd rfl rfl (fun hb => ?_) (fun hb => ?_)
    · have hi8 : 10 ^ i ≤ 10 ^ 8 := Nat.pow_le_pow_right (by decide) (by omega)
      have hn8 : n < 100000000 := Nat.lt_of_lt_of_le hn hi8
      have hby := (s.getD i 0).toNat_lt
      have hdr := drop_cons0 (l := s) (i := i) (by omega)
      have hfull : Lib.decFrom 0 s = Lib.decFrom n (s.getD i 0 :: s.drop (i + 1)) := by
        conv => lhs; rw [← List.take_append_drop i s, dec_app, hd, Option.bind_some, hdr]
      (try ((first | refine zn ?_ | refine ze ?_ | refine zk ?_); with_reducible (constructor; repeat constructor)); try refine zl ?_)
      refine K_ev nmd [(4, 32)] hng (by kernel_rfl) fun hf C S K hC1 hC hS hK => ?_; simp (disch := first | omega | assumption) only [go_sem]
      (repeat' (first | (refine evG_split (fun hv => ?_) (fun hv => ?_) <;> (try simp only [zb1, zb2, zb3, zb4, zb5] at hv) <;> simp (disch := first | omega | assumption) only [go_sem, hv, Int.reduceEq, Int.reduceNe, ne_eq, not_true_eq_false, not_false_eq_true, decide_true, decide_false]) | (refine hK ?_; clear hK hS hC hC1 K S C hf)))
      · (repeat (first | (refine K_ifT rfl rfl ?_) | (refine K_ifF rfl rfl ?_) | (refine K_ev nmd [] hng (by kernel_rfl) fun hf C S K hC1 hC hS hK => ?_; simp (disch := first | omega | assumption) only [go_sem]; refine hK ?_; clear hK hS hC hC1 K S C hf) | ((first | refine zn ?_ | refine ze ?_ | refine zk ?_); with_reducible (constructor; repeat constructor); try refine zl ?_)))
        refine K_ifd rfl rfl (fun hb => ?_) (fun hb => ?_)
        · have hR : refN s = -1 := by
            rw [refN, if_neg hok, hfull, Lib.decFrom, Lib.digitVal, if_neg (by omega)]
          rw [hR]
          (repeat (first | (refine K_ifT rfl rfl ?_) | (refine K_ifF rfl rfl ?_) | (refine K_ev nmd [] hng (by kernel_rfl) fun hf C S K hC1 hC hS hK => ?_; simp (disch := first | omega | assumption) only [go_sem]; refine hK ?_; clear hK hS hC hC1 K S C hf) | ((first | refine zn ?_ | refine ze ?_ | refine zk ?_); with_reducible (constructor; repeat constructor); try refine zl ?_)))
          exact K_ret (done1 rfl)
        · have hdv : Lib.digitVal (s.getD i 0) = some ((s.getD i 0).toNat - 48) := by rw [Lib.digitVal, if_pos (by omega)]
          have hnx : Lib.decFrom 0 (s.take (i + 1)) = some (n * 10 + ((s.getD i 0).toNat - 48)) := by
            rw [List.take_add_one, dec_app, hd, Option.bind_some, List.getElem?_eq_getElem (by omega : i < s.length)]
            have he : s[i]'(by omega) = s.getD i 0 := by rw [List.getD_eq_getElem?_getD, List.getElem?_eq_getElem (by omega : i < s.length)]; rfl
            rw [he]; simp only [Option.toList, Lib.decFrom, hdv]
          have hsum : ((n : Int) * 10 + ((s.getD i 0).toNat : Int) - 48) = ((n * 10 + ((s.getD i 0).toNat - 48) : Nat) : Int) := by omega
          (repeat (first | (refine K_ifT rfl rfl ?_) | (refine K_ifF rfl rfl ?_) | (refine K_ev nmd [] hng (by kernel_rfl) fun hf C S K hC1 hC hS hK => ?_; simp (disch := first | omega | assumption) only [go_sem]; refine hK ?_; clear hK hS hC hC1 K S C hf) | ((first | refine zn ?_ | refine ze ?_ | refine zk ?_); with_reducible (constructor; repeat constructor); try refine zl ?_)))
          rw [hsum]
          exact ⟨_, _, by omega, fun _ _ h => h, i + 1, _, c + 1 + 1 + 1 + 1, rfl, by omega, hnx, by rw [Nat.pow_succ]; omega, rfl⟩
      · have hR : refN s = -1 := by
          rw [refN, if_neg hok, hfull, Lib.decFrom, Lib.digitVal, if_neg (by omega)]
        rw [hR]
        (repeat (first | (refine K_ifT rfl rfl ?_) | (refine K_ifF rfl rfl ?_) | (refine K_ev nmd [] hng (by kernel_rfl) fun hf C S K hC1 hC hS hK => ?_; simp (disch := first | omega | assumption) only [go_sem]; refine hK ?_; clear hK hS hC hC1 K S C hf) | ((first | refine zn ?_ | refine ze ?_ | refine zk ?_); with_reducible (constructor; repeat constructor); try refine zl ?_)))
        exact K_ret (done1 rfl)
    · obtain rfl : i = s.length := by omega
      rw [List.take_length] at hd
      (repeat (first | (refine K_ifT rfl rfl ?_) | (refine K_ifF rfl rfl ?_) | (refine K_ev nmd [] hng (by kernel_rfl) fun hf C S K hC1 hC hS hK => ?_; simp (disch := first | omega | assumption) only [go_sem]; refine hK ?_; clear hK hS hC hC1 K S C hf) | ((first | refine zn ?_ | refine ze ?_ | refine zk ?_); with_reducible (constructor; repeat constructor); try refine zl ?_)))
      exact K_ret (done1 (congrArg (AV.int .i64) (by rw [refN, if_neg hok, hd])))
end Go.Proofs.YtaecbmbecofijaaGreatDoor
namespace Go.Proofs.YtaecbmbecofijaaGreatDoor
open Go Go.Ab
set_option maxRecDepth 20000
set_option maxHeartbeats 2000000
/-- What one name is written as; what a row of names is. -/
def chunk (s : Str) : Str := Lib.itoa s.length ++ [58] ++ s ++ [44]
def encT : List Str → Str
  | [] => []
  | s :: l => chunk s ++ encT l
theorem encT_append (a b : List Str) : encT (a ++ b) = encT a ++ encT b := by
  induction a with
  | nil => rfl
  | cons s a ih => simp only [List.cons_append, encT, ih, List.append_assoc]
theorem encT_take {l : List Str} {i : Nat} (h : i < l.length) : encT (l.take (i + 1)) = encT (l.take i) ++ chunk (l.getD i default) := by
  rw [List.take_add_one, encT_append, List.getElem?_eq_getElem h, List.getD_eq_getElem?_getD, List.getElem?_eq_getElem h]
  simp [encT]
theorem encT_take_le {l : List Str} (i : Nat) : (encT (l.take i)).length ≤ (encT l).length := by
  conv => rhs; rw [← List.take_append_drop i l, encT_append, List.length_append]
  omega
theorem chunk_len (s : Str) : (Lib.itoa s.length).length + 1 + s.length + 1 = (chunk s).length := by simp only [chunk, List.length_append, List.length_cons, List.length_nil]
theorem encs_fresh (q : Oid) (s : Str) (hl : (chunk s).length ≤ 140737488355328) (p : Oid) (hp : p.mono = false) (hq : ¬ Oid.under p (.ty 172 q)) :
    CallOK Tryz.prog 135 [.ptr (.ty 172 q) 0, .str s] (Oid.under p) ⟨[(.ty 172 q, .cells [.nilPtr, .nilSl])], .ptr (.ty 172 q) 0,
      [(.ty 172 q, some (.cells [.ptr (.ty 172 q) 0, .sl (.ty 5 (.sub 2 6 (.sub 1 8 p))) 1 (chunk s).length])), (.ty 5 (.sub 2 6 (.sub 1 8 p)), some (.arr 1 ((chunk s).map byA)))]⟩ := by
  have hs := chunk_len s
  have hq' : ∀ c i, ¬ Oid.under (.sub c i p) (.ty 172 q) := fun c i h => hq (Oid.under_sub h)
  refine fnOK (n := 15) (rs := [.tmp 4]) Tryz.func135 rfl rfl (by decide) rfl rfl rfl ?_; rintro x rfl hrd hng
  (repeat (first | (refine K_ifT rfl rfl ?_) | (refine K_ifF rfl rfl ?_) | (refine K_ev nmd [] hng (by kernel_rfl) fun hf C S K hC1 hC hS hK => ?_; simp (disch := first | omega | assumption) only [go_sem]; (repeat ((first | refine hC1 _ (itoa_ok s.length (by omega) (by omega) _ (mono_sub' rfl hp)) (by simp (disch := first | omega | assumption) only [go_sem]) ?_ | refine hC1 _ (ws_fresh q (chunk s) hl _ (hq' _ _)) (by simp (disch := first | omega | assumption) only [go_sem]) ?_); simp (disch := first | omega | assumption) only [go_sem])); refine hK ?_; clear hK hS hC hC1 K S C hf) | ((first | refine zn ?_ | refine ze ?_ | refine zk ?_); with_reducible (constructor; repeat constructor); try refine zl ?_)))
  refine K_ret (done_upd rfl ?_ ?_)
  all_goals simp only [List.mem_cons, List.not_mem_nil, or_false, forall_eq_or_imp, forall_eq, Option.some.injEq, forall_eq', Mem.of_cons_at, eq_self, if_true, ↓reduceIte, reduceCtorEq, implies_true, not_true_eq_false, false_imp_iff, true_and, and_true, false_and, and_false, imp_self, Oid.ty.injEq, Nat.reduceEqDiff]
theorem encs_used (q r : Oid) (s0 s : Str) (hl : s0.length + (chunk s).length ≤ 140737488355328) (p : Oid) (hp : p.mono = false) (hq : ¬ Oid.under p (.ty 172 q)) (hr : ¬ Oid.under p (.ty 5 r)) :
    CallOK Tryz.prog 135 [.ptr (.ty 172 q) 0, .str s] (Oid.under p) ⟨[(.ty 172 q, .cells [.ptr (.ty 172 q) 0, .sl (.ty 5 r) 1 s0.length]), (.ty 5 r, .arr 1 (s0.map byA))], .ptr (.ty 172 q) 0,
      [(.ty 172 q, some (.cells [.ptr (.ty 172 q) 0, .sl (.ty 5 (.sub 2 6 (.sub 1 8 p))) 1 (s0 ++ chunk s).length])), (.ty 5 r, none), (.ty 5 (.sub 2 6 (.sub 1 8 p)), some (.arr 1 ((s0 ++ chunk s).map byA)))]⟩ := by
  have hs := chunk_len s
  have hq' : ∀ c i, ¬ Oid.under (.sub c i p) (.ty 172 q) := fun c i h => hq (Oid.under_sub h)
  have hr' : ∀ c i, ¬ Oid.under (.sub c i p) (.ty 5 r) := fun c i h => hr (Oid.under_sub h)
  have hn : ¬ Oid.sub 2 6 (.sub 1 8 p) = r := fun e => hr (by subst e; simp [Oid.under, Oid.under_refl])
  have hn' : ¬ r = Oid.sub 2 6 (.sub 1 8 p) := fun e => hn e.symm
  refine fnOK (n := 15) (rs := [.tmp 4]) Tryz.func135 rfl rfl (by decide) rfl rfl rfl ?_; rintro x rfl hrd hng
  (repeat (first | (refine K_ifT rfl rfl ?_) | (refine K_ifF rfl rfl ?_) | (refine K_ev nmd [] hng (by kernel_rfl) fun hf C S K hC1 hC hS hK => ?_; simp (disch := first | omega | assumption) only [go_sem]; (repeat ((first | refine hC1 _ (itoa_ok s.length (by omega) (by omega) _ (mono_sub' rfl hp)) (by simp (disch := first | omega | assumption) only [go_sem]) ?_ | refine hC1 _ (ws_used q r s0 (chunk s) hl _ (hq' _ _) (hr' _ _)) (by simp (disch := first | omega | assumption) only [go_sem]) ?_); simp (disch := first | omega | assumption) only [go_sem])); refine hK ?_; clear hK hS hC hC1 K S C hf) | ((first | refine zn ?_ | refine ze ?_ | refine zk ?_); with_reducible (constructor; repeat constructor); try refine zl ?_)))
  refine K_ret (done_upd rfl ?_ ?_)
  all_goals simp only [List.mem_cons, List.not_mem_nil, or_false, forall_eq_or_imp, forall_eq, Option.some.injEq, forall_eq', Mem.of_cons_at, eq_self, if_true, ↓reduceIte, reduceCtorEq, implies_true, not_true_eq_false, false_imp_iff, true_and, and_true, false_and, and_false, imp_self, Oid.ty.injEq, Nat.reduceEqDiff, hn, hn', List.length_append]
/-- The row behind n names. -/
def rowN (n : Nat) (p : Oid) : Oid := .sub 2 6 (.sub 1 8 (.sub (4 * n) 3 p))
theorem rowN_young {c n : Nat} {p : Oid} (h : 4 * n < c) : ¬ Oid.under (.sub c 3 p) (.ty 5 (rowN n p)) := by
  have hself : ¬ Oid.under (.sub c 3 p) p := fun h => by have := Oid.under_depth h; simp [Oid.depth] at this; omega
  simp only [rowN, Oid.under, reduceCtorEq, false_or, Oid.sub.injEq, Nat.reduceEqDiff, false_and, and_false, hself, or_false]
  omega
theorem fold_ok (l : List Str) (hne : ¬ l = []) (hl : (encT l).length ≤ 140737488355328) (hn : l.length ≤ 140737488355328) (q : Oid) (p : Oid) (hp : p.mono = false) (hq : ¬ Oid.under p (.ty 172 q)) :
    CallOK Tryz.prog 134 [.list 1 (l.map AV.str), .ptr (.ty 172 q) 0, .fn (.func 135) [] []] (Oid.under p) ⟨[(.ty 172 q, .cells [.nilPtr, .nilSl])], .ptr (.ty 172 q) 0,
      [(.ty 172 q, some (.cells [.ptr (.ty 172 q) 0, .sl (.ty 5 (rowN l.length p)) 1 (encT l).length])), (.ty 5 (rowN l.length p), some (.arr 1 ((encT l).map byA)))]⟩ := by
  have hq' : ∀ c i, ¬ Oid.under (.sub c i p) (.ty 172 q) := fun c i h => hq (Oid.under_sub h)
  refine fnOK (n := 21) (rs := [.tmp 6]) Tryz.func134 rfl rfl (by decide) rfl rfl rfl ?_; rintro x rfl hrd hng
  (repeat (first | (refine K_ifT rfl rfl ?_) | (refine K_ifF rfl rfl ?_) | (refine K_ev nmd [] hng (by kernel_rfl) fun hf C S K hC1 hC hS hK => ?_; simp (disch := first | omega | assumption) only [go_sem]; refine hK ?_; clear hK hS hC hC1 K S C hf) | ((first | refine zn ?_ | refine ze ?_ | refine zk ?_); with_reducible (constructor; repeat constructor); try refine zl ?_)))
  refine K_loop [1, 2, 9, 10, 11] (fun k s' => ∃ (i : Nat) (M : List (Oid × AObj)), k = l.length - i ∧ i ≤ l.length ∧ (i = 0 ∧ M = [(.ty 172 q, .cells [.nilPtr, .nilSl])] ∨
      ¬ i = 0 ∧ M = [(.ty 172 q, .cells [.ptr (.ty 172 q) 0, .sl (.ty 5 (rowN i x.p)) 1 (encT (l.take i)).length]), (.ty 5 (rowN i x.p), .arr 1 ((encT (l.take i)).map byA))]) ∧
      s' = ⟨[(1, .ptr (.ty 172 q) 0), (2, .fn (.func 135) [] []), (9, .list 1 (l.map AV.str)), (10, .int .i64 l.length), (11, .int .i64 i)], Mem.of M, 2 + 4 * i, []⟩) _ ⟨0, _, rfl, Nat.zero_le _, .inl ⟨rfl, rfl⟩, rfl⟩ ?_
  rintro k s' ⟨i, M, rfl, hi, hM, rfl⟩
  rcases hM with ⟨rfl, rfl⟩ | ⟨h0, rfl⟩
  · (repeat (first | (refine K_ifT rfl rfl ?_) | (refine K_ifF rfl rfl ?_) | (refine K_ev nmd [] hng (by kernel_rfl) fun hf C S K hC1 hC hS hK => ?_; simp (disch := first | omega | assumption) only [go_sem]; refine hK ?_; clear hK hS hC hC1 K S C hf) | ((first | refine zn ?_ | refine ze ?_ | refine zk ?_); with_reducible (constructor; repeat constructor); try refine zl ?_)))
    refine K_ifd rfl rfl (fun hb => ?_) (fun hb => ?_)
    · have hi0 : 0 < l.length := by omega
      have ht := encT_take (l := l) hi0
      have hle := encT_take_le (l := l) 1
      rw [List.take_zero] at ht
      simp only [Nat.zero_add] at ht
      (repeat (first | (refine K_ifT rfl rfl ?_) | (refine K_ifF rfl rfl ?_) | (refine K_ev nmd [] hng (by kernel_rfl) fun hf C S K hC1 hC hS hK => ?_; simp (disch := first | omega | assumption) only [go_sem]; (repeat ((first | refine hC1 _ (encs_fresh q (l.getD 0 default) (by rw [ht] at hle; simp only [encT, List.nil_append] at hle; omega) _ (mono_sub' rfl hp) (hq' _ _)) (by simp (disch := first | omega | assumption) only [go_sem]) ?_); simp (disch := first | omega | assumption) only [go_sem])); refine hK ?_; clear hK hS hC hC1 K S C hf) | ((first | refine zn ?_ | refine ze ?_ | refine zk ?_); with_reducible (constructor; repeat constructor); try refine zl ?_)))
      refine ⟨_, _, ?_, fun _ _ h => h, 1, _, rfl, by omega, .inr ⟨by omega, rfl⟩, ?_⟩
      · omega
      · rw [ht]; rfl
    · exact absurd (List.eq_nil_of_length_eq_zero (by omega)) hne
  · (repeat (first | (refine K_ifT rfl rfl ?_) | (refine K_ifF rfl rfl ?_) | (refine K_ev nmd [] hng (by kernel_rfl) fun hf C S K hC1 hC hS hK => ?_; simp (disch := first | omega | assumption) only [go_sem]; refine hK ?_; clear hK hS hC hC1 K S C hf) | ((first | refine zn ?_ | refine ze ?_ | refine zk ?_); with_reducible (constructor; repeat constructor); try refine zl ?_)))
    refine K_ifd rfl rfl (fun hb => ?_) (fun hb => ?_)
    · have ht := encT_take (l := l) (i := i) (by omega)
      have hle := encT_take_le (l := l) (i + 1)
      (repeat (first | (refine K_ifT rfl rfl ?_) | (refine K_ifF rfl rfl ?_) | (refine K_ev nmd [] hng (by kernel_rfl) fun hf C S K hC1 hC hS hK => ?_; simp (disch := first | omega | assumption) only [go_sem]; (repeat ((first | refine hC1 _ (encs_used q (rowN i x.p) (encT (l.take i)) (l.getD i default) (by rw [ht, List.length_append] at hle; omega) _ (mono_sub' rfl hp) (hq' _ _) (rowN_young (by omega))) (by simp (disch := first | omega | assumption) only [go_sem]) ?_); simp (disch := first | omega | assumption) only [go_sem])); refine hK ?_; clear hK hS hC hC1 K S C hf) | ((first | refine zn ?_ | refine ze ?_ | refine zk ?_); with_reducible (constructor; repeat constructor); try refine zl ?_)))
      refine ⟨_, _, ?_, fun _ _ h => h, i + 1, _, rfl, by omega, .inr ⟨by omega, rfl⟩, ?_⟩
      · omega
      · have hc : 4 * (i + 1) = 2 + 4 * i + 1 + 1 := by omega
        rw [ht, List.length_append, rowN, hc, show 2 + 4 * i + 1 + 1 + 1 + 1 = 2 + (2 + 4 * i + 1 + 1) by omega]; rfl
    · obtain rfl : i = l.length := by omega
      (repeat (first | (refine K_ifT rfl rfl ?_) | (refine K_ifF rfl rfl ?_) | (refine K_ev nmd [] hng (by kernel_rfl) fun hf C S K hC1 hC hS hK => ?_; simp (disch := first | omega | assumption) only [go_sem]; refine hK ?_; clear hK hS hC hC1 K S C hf) | ((first | refine zn ?_ | refine ze ?_ | refine zk ?_); with_reducible (constructor; repeat constructor); try refine zl ?_)))
      refine K_ret (done_upd rfl ?_ ?_)
      all_goals simp only [List.mem_cons, List.not_mem_nil, or_false, forall_eq_or_imp, forall_eq, Option.some.injEq, forall_eq', Mem.of_cons_at, eq_self, if_true, ↓reduceIte, reduceCtorEq, implies_true, not_true_eq_false, false_imp_iff, true_and, and_true, false_and, and_false, imp_self, Oid.ty.injEq, Nat.reduceEqDiff, List.take_length]
theorem fold_nil (q : Oid) (p : Oid) :
    CallOK Tryz.prog 134 [.list 1 [], .ptr q 0, .fn (.func 135) [] []] (Oid.under p) ⟨[(q, .cells [.nilPtr, .nilSl])], .ptr q 0, []⟩ := by
  refine fnOK (n := 21) (rs := [.tmp 6]) Tryz.func134 rfl rfl (by decide) rfl rfl rfl ?_; rintro x rfl hrd hng
  (repeat (first | (refine K_ifT rfl rfl ?_) | (refine K_ifF rfl rfl ?_) | (refine K_ev nmd [] hng (by kernel_rfl) fun hf C S K hC1 hC hS hK => ?_; simp (disch := first | omega | assumption) only [go_sem]; refine hK ?_; clear hK hS hC hC1 K S C hf) | ((first | refine zn ?_ | refine ze ?_ | refine zk ?_); with_reducible (constructor; repeat constructor); try refine zl ?_)))
  refine K_loop [1, 2, 9, 10, 11] (fun k s' => k = 0 ∧ s' = ⟨[(1, .ptr q 0), (2, .fn (.func 135) [] []), (9, .list 1 []), (10, .int .i64 0), (11, .int .i64 0)], Mem.of [(q, .cells [.nilPtr, .nilSl])], 2, []⟩) _ ⟨rfl, rfl⟩ ?_
  rintro k s' ⟨rfl, rfl⟩
  (repeat (first | (refine K_ifT rfl rfl ?_) | (refine K_ifF rfl rfl ?_) | (refine K_ev nmd [] hng (by kernel_rfl) fun hf C S K hC1 hC hS hK => ?_; simp (disch := first | omega | assumption) only [go_sem]; refine hK ?_; clear hK hS hC hC1 K S C hf) | ((first | refine zn ?_ | refine ze ?_ | refine zk ?_); with_reducible (constructor; repeat constructor); try refine zl ?_)))
  refine K_ret (done_upd rfl ?_ ?_)
  all_goals simp only [List.mem_cons, List.not_mem_nil, or_false, forall_eq_or_imp, forall_eq, Option.some.injEq, forall_eq', Mem.of_cons_at, eq_self, if_true, ↓reduceIte, reduceCtorEq, implies_true, not_true_eq_false, false_imp_iff, true_and, and_true, false_and, and_false, imp_self, Oid.ty.injEq, Nat.reduceEqDiff]
theorem under_next {c i j : Nat} {t : Nat} {p : Oid} (h : ¬ j = i) : ¬ Oid.under (.sub c j p) (.ty t (.sub c i p)) := by
  have hself : ¬ Oid.under (.sub c j p) p := fun h => by have := Oid.under_depth h; simp [Oid.depth] at this; omega
  simp only [Oid.under, reduceCtorEq, false_or, Oid.sub.injEq, h, false_and, and_false, hself, or_false, not_false_eq_true]
/-- tuple.Encode. -/
theorem encode_ok (l : List Str) (hl : (encT l).length ≤ 140737488355328) (hn : l.length ≤ 140737488355328) (p : Oid) (hp : p.mono = false) :
    CallOK Tryz.prog 103 [.list 1 (l.map AV.str)] (Oid.under p) ⟨[], .str (encT l), []⟩ := by
  by_cases hne : l = []
  · subst hne
    refine fnOK (n := 8) (rs := [.tmp 2]) Tryz.func103 rfl rfl (by decide) rfl rfl rfl ?_; rintro x rfl hrd hng
    (repeat (first | (refine K_ifT rfl rfl ?_) | (refine K_ifF rfl rfl ?_) | (refine K_ev nmd [] hng (by kernel_rfl) fun hf C S K hC1 hC hS hK => ?_; simp (disch := first | omega | assumption) only [go_sem]; refine hK ?_; clear hK hS hC hC1 K S C hf) | ((first | refine zn ?_ | refine ze ?_ | refine zk ?_); with_reducible (constructor; repeat constructor); try refine zl ?_)))
    refine K_ev nmd [] hng (by kernel_rfl) fun hf C S K hC1 hC hS hK => ?_; simp (disch := first | omega | assumption) only [go_sem]
    refine hC1 _ (fold_nil (.ty 172 (.sub 1 2 _)) _) (by simp (disch := first | omega | assumption) only [go_sem]) ?_
    simp (disch := first | omega | assumption) only [go_sem]
    refine hC1 _ (string_nil (.sub 1 2 _) _) (by simp (disch := first | omega | assumption) only [go_sem]) ?_
    simp (disch := first | omega | assumption) only [go_sem]
    refine hK ?_; clear hK hS hC hC1 K S C hf
    (repeat (first | (refine K_ifT rfl rfl ?_) | (refine K_ifF rfl rfl ?_) | (refine K_ev nmd [] hng (by kernel_rfl) fun hf C S K hC1 hC hS hK => ?_; simp (disch := first | omega | assumption) only [go_sem]; refine hK ?_; clear hK hS hC hC1 K S C hf) | ((first | refine zn ?_ | refine ze ?_ | refine zk ?_); with_reducible (constructor; repeat constructor); try refine zl ?_)))
    exact K_ret (done1 rfl)
  · have h0 : 0 < (encT l).length := by
      cases l with
      | nil => exact absurd rfl hne
      | cons s l =>
        have := chunk_len s
        simp only [encT, List.length_append]; omega
    refine fnOK (n := 8) (rs := [.tmp 2]) Tryz.func103 rfl rfl (by decide) rfl rfl rfl ?_; rintro x rfl hrd hng
    (repeat (first | (refine K_ifT rfl rfl ?_) | (refine K_ifF rfl rfl ?_) | (refine K_ev nmd [] hng (by kernel_rfl) fun hf C S K hC1 hC hS hK => ?_; simp (disch := first | omega | assumption) only [go_sem]; refine hK ?_; clear hK hS hC hC1 K S C hf) | ((first | refine zn ?_ | refine ze ?_ | refine zk ?_); with_reducible (constructor; repeat constructor); try refine zl ?_)))
    refine K_ev nmd [] hng (by kernel_rfl) fun hf C S K hC1 hC hS hK => ?_; simp (disch := first | omega | assumption) only [go_sem]
    refine hC1 _ (fold_ok l hne hl hn (.sub 1 2 _) _ (mono_sub' rfl hp) (under_next (by decide))) (by simp (disch := first | omega | assumption) only [go_sem]) ?_
    simp (disch := first | omega | assumption) only [go_sem]
    refine hC1 _ (string_ok (.sub 1 2 _) (rowN l.length (.sub 1 3 x.p)) _ h0 hl _) (by simp (disch := first | omega | assumption) only [go_sem]) ?_
    simp (disch := first | omega | assumption) only [go_sem]
    refine hK ?_; clear hK hS hC hC1 K S C hf
    (repeat (first | (refine K_ifT rfl rfl ?_) | (refine K_ifF rfl rfl ?_) | (refine K_ev nmd [] hng (by kernel_rfl) fun hf C S K hC1 hC hS hK => ?_; simp (disch := first | omega | assumption) only [go_sem]; refine hK ?_; clear hK hS hC hC1 K S C hf) | ((first | refine zn ?_ | refine ze ?_ | refine zk ?_); with_reducible (constructor; repeat constructor); try refine zl ?_)))
    exact K_ret (done1 rfl)
end Go.Proofs.YtaecbmbecofijaaGreatDoor
namespace Go.Proofs.YtaecbmbecofijaaGreatDoor
open Go Go.Ab Go.RowKit
set_option maxRecDepth 20000
set_option maxHeartbeats 2000000
theorem index_ok (s : Str) (c : UInt8) (sp : Oid → Prop) : CallOK Tryz.prog 189 [.str s, .str [c]] sp ⟨[], .int .i64 (Lib.indexByte s c), []⟩ :=
  callOK_same (by kernel_rfl) fun g args w ha _ => by
    obtain ⟨v, u, rfl, hv, hu⟩ := ha.two
    obtain ⟨b, rfl, hb⟩ := hv.str_inv
    obtain ⟨d, rfl, hd⟩ := hu.str_inv
    obtain rfl : d = ⟨#[c]⟩ := by cases d with | mk a => cases a with | mk l => simp only at hd; rw [hd]
    refine (Tryz.stringslite_Index_one b c w).mono ?_
    rintro e w' ⟨rfl, rfl⟩
    exact ⟨_, rfl, by rw [hb]; exact .int _ _, rfl⟩
theorem indexByte_lt (c : UInt8) : ∀ l : Str, l = [] ∧ Lib.indexByte l c = -1 ∨ Lib.indexByte l c < l.length
  | [] => .inl ⟨rfl, rfl⟩
  | b :: l => .inr (by
    have ih := indexByte_lt c l
    simp only [Lib.indexByte, List.length_cons]
    split
    · omega
    · split
      · omega
      · rcases ih with ⟨rfl, h⟩ | h
        · rw [h]; simp
        · omega)
/-- What Cut hands back. -/
def cutV (s : Str) (c : UInt8) : AV := if 0 ≤ Lib.indexByte s c then .tuple [.str (s.take (Lib.indexByte s c).toNat), .str (s.drop ((Lib.indexByte s c).toNat + 1)), .bool true] else .tuple [.str s, .str [], .bool false]
theorem cutI_ok (s : Str) (hl : s.length ≤ 281474976710656) (c : UInt8) (p : Oid) : CallOK Tryz.prog 164 [.str s, .str [c]] (Oid.under p) ⟨[], cutV s c, []⟩ := by
  have hlt := indexByte_lt c s
  refine fnOK (n := 23) (rs := [.tmp 4, .tmp 5, .tmp 6]) Tryz.func164 rfl rfl (by decide) rfl rfl rfl ?_; rintro x rfl hrd hng
  (repeat (first | (refine K_ifT rfl rfl ?_) | (refine K_ifF rfl rfl ?_) | (refine K_ev nmd [] hng (by kernel_rfl) fun hf C S K hC1 hC hS hK => ?_; simp (disch := first | omega | assumption) only [go_sem]; (repeat ((first | refine hC1 _ (index_ok s c _) (by simp (disch := first | omega | assumption) only [go_sem]) ?_); simp (disch := first | omega | assumption) only [go_sem])); refine hK ?_; clear hK hS hC hC1 K S C hf) | ((first | refine zn ?_ | refine ze ?_ | refine zk ?_); with_reducible (constructor; repeat constructor); try refine zl ?_)))
  refine K_ifd rfl rfl (fun hb => ?_) (fun hb => ?_)
  · (try ((first | refine zn ?_ | refine ze ?_ | refine zk ?_); with_reducible (constructor; repeat constructor)); try refine zl ?_)
    refine K_evd nmd [] [] mixed hng (by kernel_rfl) [4, 5, 6] fun hf C S K hC hS hK => ?_; simp (disch := first | omega | assumption) only [go_sem]
    (first | refine hK (dynN_quiet rfl) ?_ | refine hK (by simp (disch := first | omega | assumption) only [go_sem, List.reverse_cons, List.reverse_nil, ne_eq, not_false_eq_true, implies_true]) ?_); clear hK hS hC K S C hf
    (repeat (first | (refine K_ifT rfl rfl ?_) | (refine K_ifF rfl rfl ?_) | (refine K_ev nmd [] hng (by kernel_rfl) fun hf C S K hC1 hC hS hK => ?_; simp (disch := first | omega | assumption) only [go_sem]; refine hK ?_; clear hK hS hC hC1 K S C hf) | ((first | refine zn ?_ | refine ze ?_ | refine zk ?_); with_reducible (constructor; repeat constructor); try refine zl ?_)))
    have h1 : (Lib.indexByte s c + ((1 : Nat) : Int)).toNat = (Lib.indexByte s c).toNat + 1 := by omega
    rw [cutV, if_pos hb, h1]
    exact K_ret (done_plain rfl)
  · (repeat (first | (refine K_ifT rfl rfl ?_) | (refine K_ifF rfl rfl ?_) | (refine K_ev nmd [] hng (by kernel_rfl) fun hf C S K hC1 hC hS hK => ?_; simp (disch := first | omega | assumption) only [go_sem]; refine hK ?_; clear hK hS hC hC1 K S C hf) | ((first | refine zn ?_ | refine ze ?_ | refine zk ?_); with_reducible (constructor; repeat constructor); try refine zl ?_)))
    rw [cutV, if_neg hb]
    exact K_ret (done_plain rfl)
theorem cut_ok (s : Str) (hl : s.length ≤ 281474976710656) (c : UInt8) (p : Oid) : CallOK Tryz.prog 132 [.str s, .str [c]] (Oid.under p) ⟨[], cutV s c, []⟩ := by
  by_cases hb : 0 ≤ Lib.indexByte s c
  · have hZ := fun p => cutI_ok s hl c p
    simp only [cutV, if_pos hb] at hZ ⊢
    refine fnOK (n := 13) (rs := [.tmp 4, .tmp 5, .tmp 6]) Tryz.func132 rfl rfl (by decide) rfl rfl rfl ?_; rintro x rfl hrd hng
    (repeat (first | (refine K_ifT rfl rfl ?_) | (refine K_ifF rfl rfl ?_) | (refine K_ev nmd [] hng (by kernel_rfl) fun hf C S K hC1 hC hS hK => ?_; simp (disch := first | omega | assumption) only [go_sem]; (repeat ((first | refine hC1 _ (hZ _) (by simp (disch := first | omega | assumption) only [go_sem]) ?_); simp (disch := first | omega | assumption) only [go_sem])); refine hK ?_; clear hK hS hC hC1 K S C hf) | ((first | refine zn ?_ | refine ze ?_ | refine zk ?_); with_reducible (constructor; repeat constructor); try refine zl ?_)))
    exact K_ret (done_plain rfl)
  · have hZ := fun p => cutI_ok s hl c p
    simp only [cutV, if_neg hb] at hZ ⊢
    refine fnOK (n := 13) (rs := [.tmp 4, .tmp 5, .tmp 6]) Tryz.func132 rfl rfl (by decide) rfl rfl rfl ?_; rintro x rfl hrd hng
    (repeat (first | (refine K_ifT rfl rfl ?_) | (refine K_ifF rfl rfl ?_) | (refine K_ev nmd [] hng (by kernel_rfl) fun hf C S K hC1 hC hS hK => ?_; simp (disch := first | omega | assumption) only [go_sem]; (repeat ((first | refine hC1 _ (hZ _) (by simp (disch := first | omega | assumption) only [go_sem]) ?_); simp (disch := first | omega | assumption) only [go_sem])); refine hK ?_; clear hK hS hC hC1 K S C hf) | ((first | refine zn ?_ | refine ze ?_ | refine zk ?_); with_reducible (constructor; repeat constructor); try refine zl ?_)))
    exact K_ret (done_plain rfl)
/-- What Decode says. -/
def colon (s : Str) : Nat := (Lib.indexByte s 58).toNat
def headS (s : Str) : Str := s.take (colon s)
def restS (s : Str) : Str := s.drop (colon s + 1)
def sizeS (s : Str) : Nat := (atoiN (headS s)).toNat
def okS (s : Str) : Prop := 0 ≤ Lib.indexByte s 58 ∧ numG (headS s) = true ∧ atoiN (headS s) < (restS s).length ∧ (restS s).getD (sizeS s) 0 = 44
instance (s : Str) : Decidable (okS s) := by unfold okS; infer_instance
def decF : Nat → Str → Option (List Str)
  | 0, _ => none
  | k + 1, s => if s = [] then some [] else if okS s then (decF k ((restS s).drop (sizeS s + 1))).map ((restS s).take (sizeS s) :: ·) else none
def decR : Option (List Str) → AV
  | some l => .tuple [.list 1 (l.map AV.str), .int .i64 0]
  | none => .tuple [.nilSl, .int .i64 20]
theorem rest_lt {s : Str} (h : ¬ s = []) : ((restS s).drop (sizeS s + 1)).length < s.length := by
  have := List.length_pos_iff.2 h; simp only [restS, List.length_drop]; omega
theorem decF_fuel : ∀ (k k' : Nat) (s : Str), s.length < k → s.length < k' → decF k s = decF k' s
  | 0, _, _, h, _ => absurd h (Nat.not_lt_zero _)
  | _ + 1, 0, _, _, h => absurd h (Nat.not_lt_zero _)
  | k + 1, k' + 1, s, h, h' => by
    simp only [decF]
    by_cases h0 : s = []
    · rw [if_pos h0, if_pos h0]
    rw [if_neg h0, if_neg h0]
    split
    · rw [decF_fuel k k' _ (by have := rest_lt h0; omega) (by have := rest_lt h0; omega)]
    · rfl
def decT (s : Str) : Option (List Str) := decF (s.length + 1) s
theorem decT_nil : decT [] = some [] := rfl
theorem decT_none {s : Str} (h0 : ¬ s = []) (h : ¬ okS s) : decT s = none := by
  rw [decT, decF, if_neg h0, if_neg h]
theorem decT_some {s : Str} (h0 : ¬ s = []) (h : okS s) : decT s = (decT ((restS s).drop (sizeS s + 1))).map ((restS s).take (sizeS s) :: ·) := by
  rw [decT, decF, if_neg h0, if_pos h]
  exact congrArg _ (decF_fuel _ _ _ (rest_lt h0) (Nat.lt_succ_self _))
theorem decode_ok (s : Str) (hl : s.length ≤ 4000000000) (p : Oid) (hp : p.mono = false) : CallOK Tryz.prog 101 [.str s] (Oid.under p) ⟨[], decR (decT s), []⟩ := by
  refine fnOK (n := 51) (rs := [.tmp 2, .tmp 3]) Tryz.func101 rfl rfl (by decide) rfl rfl rfl ?_; rintro x rfl hrd hng
  (repeat (first | (refine K_ifT rfl rfl ?_) | (refine K_ifF rfl rfl ?_) | (refine K_ev nmd [] hng (by kernel_rfl) fun hf C S K hC1 hC hS hK => ?_; simp (disch := first | omega | assumption) only [go_sem]; refine hK ?_; clear hK hS hC hC1 K S C hf) | ((first | refine zn ?_ | refine ze ?_ | refine zk ?_); with_reducible (constructor; repeat constructor); try refine zl ?_)))
  refine K_void 2 1 rfl ?_
  simp (disch := first | omega | assumption) only [go_sem]
  refine K_loop [0, 2] (fun k s' => ∃ (done : List Str) (r : Str) (d j c : Nat), k = r.length ∧ d < c ∧ done.length + r.length ≤ s.length ∧ decT s = (decT r).map (done ++ ·) ∧
      s' = ⟨[(0, .str r), (2, .sl (.sub d j x.p) 1 done.length)], Mem.of [(.sub d j x.p, .arr 1 (done.map AV.str))], c, []⟩) _ ⟨[], s, 1, 0, 2, rfl, by omega, by simp, by cases decT s <;> rfl, rfl⟩ ?_
  rintro k s' ⟨done, r, d, j, c, rfl, hdc, hlen, hdec, rfl⟩
  (repeat (first | (refine K_ifT rfl rfl ?_) | (refine K_ifF rfl rfl ?_) | (refine K_ev nmd [] hng (by kernel_rfl) fun hf C S K hC1 hC hS hK => ?_; simp (disch := first | omega | assumption) only [go_sem]; refine hK ?_; clear hK hS hC hC1 K S C hf) | ((first | refine zn ?_ | refine ze ?_ | refine zk ?_); with_reducible (constructor; repeat constructor); try refine zl ?_)))
  refine K_if rfl rfl (fun hb => ?_) (fun hb => ?_)
  · have hb' : ¬ r = [] := by simpa using hb
    by_cases hi : 0 ≤ Lib.indexByte r 58
    · have hcut : ∀ p, CallOK Tryz.prog 132 [.str r, .str [58]] (Oid.under p) ⟨[], .tuple [.str (headS r), .str (restS r), .bool true], []⟩ := fun p => by
        have := cut_ok r (by omega) 58 p; rwa [cutV, if_pos hi] at this
      cases hn : numG (headS r) with
      | true =>
        have hnum : ∀ p : Oid, p.mono = false → CallOK Tryz.prog 102 [.str (headS r)] (Oid.under p) ⟨[], .tuple [.int .i64 (atoiN (headS r)), .bool true], []⟩ := fun p hp => by
          have := number_ok (headS r) (by simp only [headS, List.length_take]; omega) p hp; rwa [hn] at this
        have hnn := numG_pos hn
        (repeat (first | (refine K_ifT rfl rfl ?_) | (refine K_ifF rfl rfl ?_) | (refine K_ev nmd [] hng (by kernel_rfl) fun hf C S K hC1 hC hS hK => ?_; simp (disch := first | omega | assumption) only [go_sem]; (repeat ((first | refine hC1 _ (hcut _) (by simp (disch := first | omega | assumption) only [go_sem]) ?_ | refine hC1 _ (hnum _ (mono_sub' rfl hp)) (by simp (disch := first | omega | assumption) only [go_sem]) ?_); simp (disch := first | omega | assumption) only [go_sem])); refine hK ?_; clear hK hS hC hC1 K S C hf) | ((first | refine zn ?_ | refine ze ?_ | refine zk ?_); with_reducible (constructor; repeat constructor); try refine zl ?_)))
        refine K_ev nmd [(2, 24), (6, 28), (12, 34)] hng (by kernel_rfl) fun hf C S K hC1 hC hS hK => ?_; simp (disch := first | omega | assumption) only [go_sem]
        (repeat' (first | (refine evG_split (fun hv => ?_) (fun hv => ?_) <;> (try simp only [zb1, zb2, zb3, zb4, zb5] at hv) <;> simp (disch := first | omega | assumption) only [go_sem, hv]) | (refine hK ?_; clear hK hS hC hC1 K S C hf)))
        · (repeat (first | (refine K_ifT rfl rfl ?_) | (refine K_ifF rfl rfl ?_) | (refine K_ev nmd [] hng (by kernel_rfl) fun hf C S K hC1 hC hS hK => ?_; simp (disch := first | omega | assumption) only [go_sem]; refine hK ?_; clear hK hS hC hC1 K S C hf) | ((first | refine zn ?_ | refine ze ?_ | refine zk ?_); with_reducible (constructor; repeat constructor); try refine zl ?_)))
          refine K_ifd rfl rfl (fun hb => ?_) (fun hb => ?_)
          · rw [decT_none hb' (fun h => hb (by have := h.2.2.2; rw [show (restS r).getD (atoiN (headS r)).toNat 0 = 44 from this]; rfl))] at hdec
            (repeat (first | (refine K_ifT rfl rfl ?_) | (refine K_ifF rfl rfl ?_) | (refine K_ev nmd [] hng (by kernel_rfl) fun hf C S K hC1 hC hS hK => ?_; simp (disch := first | omega | assumption) only [go_sem]; refine hK ?_; clear hK hS hC hC1 K S C hf) | ((first | refine zn ?_ | refine ze ?_ | refine zk ?_); with_reducible (constructor; repeat constructor); try refine zl ?_)))
            exact K_ret (done_plain (by rw [hdec]; rfl))
          · have h44 : (restS r).getD (sizeS r) 0 = 44 := by
              have : ((restS r).getD (atoiN (headS r)).toNat 0).toNat = 44 := by omega
              exact UInt8.toNat_inj.1 this
            rw [decT_some hb' ⟨hi, hn, by omega, h44⟩] at hdec
            have hrl := rest_lt hb'
            have hrs : (restS r).length ≤ 4000000000 := by simp only [restS, List.length_drop]; omega
            (repeat (first | (refine K_ifT rfl rfl ?_) | (refine K_ifF rfl rfl ?_) | (refine K_ev nmd [] hng (by kernel_rfl) fun hf C S K hC1 hC hS hK => ?_; simp (disch := first | omega | assumption) only [go_sem]; refine hK ?_; clear hK hS hC hC1 K S C hf) | ((first | refine zn ?_ | refine ze ?_ | refine zk ?_); with_reducible (constructor; repeat constructor); try refine zl ?_)))
            have hcc : (atoiN (headS r) + 1).toNat = sizeS r + 1 := by simp only [sizeS]; omega
            refine ⟨_, _, ?_, fun _ _ h => h, done ++ [(restS r).take (sizeS r)], (restS r).drop (sizeS r + 1), c + 1 + 1 + 1 + 1, 5, c + 1 + 1 + 1 + 1 + 1 + 1, rfl, by omega, ?_, ?_, ?_⟩
            · exact hrl
            · simp only [List.length_append, List.length_cons, List.length_nil]; omega
            · rw [hdec, Option.map_map]; congr 1; funext l; simp
            · rw [hcc, List.length_append, List.map_append]; rfl
        · (repeat (first | (refine K_ifT rfl rfl ?_) | (refine K_ifF rfl rfl ?_) | (refine K_ev nmd [] hng (by kernel_rfl) fun hf C S K hC1 hC hS hK => ?_; simp (disch := first | omega | assumption) only [go_sem]; refine hK ?_; clear hK hS hC hC1 K S C hf) | ((first | refine zn ?_ | refine ze ?_ | refine zk ?_); with_reducible (constructor; repeat constructor); try refine zl ?_)))
          rw [decT_none hb' (fun h => by have := h.2.2.1; omega)] at hdec
          exact K_ret (done_plain (by rw [hdec]; rfl))
      | false =>
        have hnum : ∀ p : Oid, p.mono = false → CallOK Tryz.prog 102 [.str (headS r)] (Oid.under p) ⟨[], .tuple [.int .i64 (atoiN (headS r)), .bool false], []⟩ := fun p hp => by
          have := number_ok (headS r) (by simp only [headS, List.length_take]; omega) p hp; rwa [hn] at this
        rw [decT_none hb' (fun h => by rw [h.2.1] at hn; cases hn)] at hdec
        (repeat (first | (refine K_ifT rfl rfl ?_) | (refine K_ifF rfl rfl ?_) | (refine K_ev nmd [] hng (by kernel_rfl) fun hf C S K hC1 hC hS hK => ?_; simp (disch := first | omega | assumption) only [go_sem]; (repeat ((first | refine hC1 _ (hcut _) (by simp (disch := first | omega | assumption) only [go_sem]) ?_ | refine hC1 _ (hnum _ (mono_sub' rfl hp)) (by simp (disch := first | omega | assumption) only [go_sem]) ?_); simp (disch := first | omega | assumption) only [go_sem])); refine hK ?_; clear hK hS hC hC1 K S C hf) | ((first | refine zn ?_ | refine ze ?_ | refine zk ?_); with_reducible (constructor; repeat constructor); try refine zl ?_)))
        refine K_ev nmd [(2, 24), (6, 28), (12, 34)] hng (by kernel_rfl) fun hf C S K hC1 hC hS hK => ?_; simp (disch := first | omega | assumption) only [go_sem]
        (repeat' (first | (refine evG_split (fun hv => ?_) (fun hv => ?_) <;> (try simp only [zb1, zb2, zb3, zb4, zb5] at hv) <;> simp (disch := first | omega | assumption) only [go_sem, hv]) | (refine hK ?_; clear hK hS hC hC1 K S C hf)))
        (repeat (first | (refine K_ifT rfl rfl ?_) | (refine K_ifF rfl rfl ?_) | (refine K_ev nmd [] hng (by kernel_rfl) fun hf C S K hC1 hC hS hK => ?_; simp (disch := first | omega | assumption) only [go_sem]; refine hK ?_; clear hK hS hC hC1 K S C hf) | ((first | refine zn ?_ | refine ze ?_ | refine zk ?_); with_reducible (constructor; repeat constructor); try refine zl ?_)))
        exact K_ret (done_plain (by rw [hdec]; rfl))
    · have hcut : ∀ p, CallOK Tryz.prog 132 [.str r, .str [58]] (Oid.under p) ⟨[], .tuple [.str r, .str [], .bool false], []⟩ := fun p => by
        have := cut_ok r (by omega) 58 p; rwa [cutV, if_neg hi] at this
      rw [decT_none hb' (fun h => hi h.1)] at hdec
      (repeat (first | (refine K_ifT rfl rfl ?_) | (refine K_ifF rfl rfl ?_) | (refine K_ev nmd [] hng (by kernel_rfl) fun hf C S K hC1 hC hS hK => ?_; simp (disch := first | omega | assumption) only [go_sem]; (repeat ((first | refine hC1 _ (hcut _) (by simp (disch := first | omega | assumption) only [go_sem]) ?_ | refine hC1 _ (number_ok r (by omega) _ (mono_sub' rfl hp)) (by simp (disch := first | omega | assumption) only [go_sem]) ?_); simp (disch := first | omega | assumption) only [go_sem])); refine hK ?_; clear hK hS hC hC1 K S C hf) | ((first | refine zn ?_ | refine ze ?_ | refine zk ?_); with_reducible (constructor; repeat constructor); try refine zl ?_)))
      refine K_ev nmd [(2, 24), (6, 28), (12, 34)] hng (by kernel_rfl) fun hf C S K hC1 hC hS hK => ?_; simp (disch := first | omega | assumption) only [go_sem]
      (repeat' (first | (refine evG_split (fun hv => ?_) (fun hv => ?_) <;> (try simp only [zb1, zb2, zb3, zb4, zb5] at hv) <;> simp (disch := first | omega | assumption) only [go_sem, hv]) | (refine hK ?_; clear hK hS hC hC1 K S C hf)))
      (repeat (first | (refine K_ifT rfl rfl ?_) | (refine K_ifF rfl rfl ?_) | (refine K_ev nmd [] hng (by kernel_rfl) fun hf C S K hC1 hC hS hK => ?_; simp (disch := first | omega | assumption) only [go_sem]; refine hK ?_; clear hK hS hC hC1 K S C hf) | ((first | refine zn ?_ | refine ze ?_ | refine zk ?_); with_reducible (constructor; repeat constructor); try refine zl ?_)))
      exact K_ret (done_plain (by rw [hdec]; rfl))
  · have hb' : r = [] := by simpa using hb
    subst hb'
    (repeat (first | (refine K_ifT rfl rfl ?_) | (refine K_ifF rfl rfl ?_) | (refine K_ev nmd [] hng (by kernel_rfl) fun hf C S K hC1 hC hS hK => ?_; simp (disch := first | omega | assumption) only [go_sem]; refine hK ?_; clear hK hS hC hC1 K S C hf) | ((first | refine zn ?_ | refine ze ?_ | refine zk ?_); with_reducible (constructor; repeat constructor); try refine zl ?_)))
    rw [decT_nil, Option.map_some, List.append_nil] at hdec
    rw [hdec]
    (refine K_freeze (.sub d j x.p) _ _ (by simp (disch := first | omega | assumption) only [go_sem]; rfl) ?_; simp (disch := first | omega | assumption) only [go_sem])
    exact K_ret (done_plain rfl)
end Go.Proofs.YtaecbmbecofijaaGreatDoor
namespace Go.Proofs.YtaecbmbecofijaaGreatDoor
open Go Go.Ab
set_option maxRecDepth 20000
set_option maxHeartbeats 4000000
structure Bits where
  k : Int
  m : Int
  l : Str
deriving DecidableEq
def Bits.av (b : Bits) : AV := .agg [.int .i64 b.k, .int .i64 b.m, .str b.l]
def Bits.no : Bits := ⟨0, 0, []⟩
def Bits.ok (b : Bits) : Prop := (-9223372036854775808 ≤ b.k ∧ b.k ≤ 9223372036854775807) ∧ (-9223372036854775808 ≤ b.m ∧ b.m ≤ 9223372036854775807) ∧ b.l.length ≤ 4000000000
def valT (b : Bits) : Str := if b.k = 0 then [] else encT [Lib.itoa b.k, Lib.itoa b.m, b.l]
theorem chunk_le {s : Str} (h : s.length ≤ 4000000000) : (chunk s).length ≤ 4000000100 := by
  have h1 := chunk_len s
  have h2 := Lib.itoa_length_le s.length (by omega) (by omega)
  omega
theorem value_ok (b : Bits) (hb : b.ok) (p : Oid) (hp : p.mono = false) : CallOK Tryz.prog 57 [b.av] (Oid.under p) ⟨[], .str (valT b), []⟩ := by
  obtain ⟨k, m, l⟩ := b
  obtain ⟨⟨k1, k2⟩, ⟨m1, m2⟩, hl⟩ := hb
  simp only at k1 k2 m1 m2 hl
  have hk := Lib.itoa_length_le k k1 k2
  have hm := Lib.itoa_length_le m m1 m2
  have h1 := chunk_le (s := Lib.itoa k) (by omega)
  have h2 := chunk_le (s := Lib.itoa m) (by omega)
  have h3 := chunk_le hl
  have hE : (encT [Lib.itoa k, Lib.itoa m, l]).length ≤ 140737488355328 := by simp only [encT, List.length_append, List.length_nil]; omega
  simp only [Bits.av]
  refine fnOK (n := 16) (rs := [.tmp 2]) Tryz.func57 rfl rfl (by decide) rfl rfl rfl ?_; rintro x rfl hrd hng
  (repeat (first | (refine K_ifT rfl rfl ?_) | (refine K_ifF rfl rfl ?_) | (refine K_ev nmd [] hng (by kernel_rfl) fun hf C S K hC1 hC hS hK => ?_; simp (disch := first | omega | assumption) only [go_sem]; refine hK ?_; clear hK hS hC hC1 K S C hf) | ((first | refine zn ?_ | refine ze ?_ | refine zk ?_); with_reducible (constructor; repeat constructor); try refine zl ?_)))
  refine K_ifd rfl rfl (fun hb => ?_) (fun hb => ?_)
  · (repeat (first | (refine K_ifT rfl rfl ?_) | (refine K_ifF rfl rfl ?_) | (refine K_ev nmd [] hng (by kernel_rfl) fun hf C S K hC1 hC hS hK => ?_; simp (disch := first | omega | assumption) only [go_sem]; refine hK ?_; clear hK hS hC hC1 K S C hf) | ((first | refine zn ?_ | refine ze ?_ | refine zk ?_); with_reducible (constructor; repeat constructor); try refine zl ?_)))
    exact K_ret (done1 (congrArg AV.str (by rw [valT, if_pos hb])))
  · (try ((first | refine zn ?_ | refine ze ?_ | refine zk ?_); with_reducible (constructor; repeat constructor)); try refine zl ?_)
    refine K_evd nmd [] [(2, 4), (2, 7), (5, 7)] mixed hng (by kernel_rfl) [2] fun hf C S K hC hS hK => ?_; simp (disch := first | omega | assumption) only [go_sem]
    (repeat ((first | refine hC _ (itoa_ok k k1 k2 _ (mono_sub' rfl hp)) (by simp (disch := first | omega | assumption) only [go_sem]) ?_ | refine hC _ (itoa_ok m m1 m2 _ (mono_sub' rfl hp)) (by simp (disch := first | omega | assumption) only [go_sem]) ?_ | refine hC _ (encode_ok [Lib.itoa k, Lib.itoa m, l] hE (by simp) _ (mono_sub' rfl hp)) (by simp (disch := first | omega | assumption) only [go_sem]) ?_); simp (disch := first | omega | assumption) only [go_sem]))
    (first | refine hK (dynN_quiet rfl) ?_ | refine hK (by simp (disch := first | omega | assumption) only [go_sem, List.reverse_cons, List.reverse_nil, ne_eq, not_false_eq_true, implies_true]) ?_); clear hK hS hC K S C hf
    (repeat (first | (refine K_ifT rfl rfl ?_) | (refine K_ifF rfl rfl ?_) | (refine K_ev nmd [] hng (by kernel_rfl) fun hf C S K hC1 hC hS hK => ?_; simp (disch := first | omega | assumption) only [go_sem]; refine hK ?_; clear hK hS hC hC1 K S C hf) | ((first | refine zn ?_ | refine ze ?_ | refine zk ?_); with_reducible (constructor; repeat constructor); try refine zl ?_)))
    exact K_ret (done1 (congrArg AV.str (by rw [valT, if_neg hb])))
theorem decF_mem : ∀ (k : Nat) (s : Str) (l : List Str), decF k s = some l → ∀ e ∈ l, e.length ≤ s.length
  | 0, _, _, h => by cases h
  | k + 1, s, l, h => by
    simp only [decF] at h
    split at h
    · cases h; intro e he; cases he
    · split at h
      · simp only [Option.map_eq_some_iff] at h
        obtain ⟨l', h1, rfl⟩ := h
        have ih := decF_mem k _ l' h1
        intro e he
        rcases List.mem_cons.1 he with rfl | he
        · simp only [restS, List.length_take, List.length_drop]; omega
        · have := ih e he; simp only [restS, List.length_drop] at this; omega
      · cases h
theorem decT_mem {s : Str} {l : List Str} (h : decT s = some l) : ∀ e ∈ l, e.length ≤ s.length := decF_mem _ _ _ h
def entC (s a b c : Str) : Bool := numG a && numG b && decide (1 ≤ atoiN a) && decide (atoiN a ≤ 3) && decide (atoiN b ≤ 7) && !(decide (atoiN a = 2) && decide (c ≠ [])) && decide (valT ⟨atoiN a, atoiN b, c⟩ = s)
theorem entC_iff {s a b c : Str} : entC s a b c = true ↔ numG a = true ∧ numG b = true ∧ 1 ≤ atoiN a ∧ atoiN a ≤ 3 ∧ atoiN b ≤ 7 ∧ ¬ (atoiN a = 2 ∧ ¬ c = []) ∧ valT ⟨atoiN a, atoiN b, c⟩ = s := by
  simp only [entC, Bool.and_eq_true, decide_eq_true_eq, Bool.not_eq_true', Bool.and_eq_false_imp, decide_eq_false_iff_not, not_and, and_assoc, ne_eq]
def entT (s : Str) : Bits × Int := if s = [] then (Bits.no, 0) else match decT s with
  | some [a, b, c] => if entC s a b c = true then (⟨atoiN a, atoiN b, c⟩, 0) else (Bits.no, 20)
  | _ => (Bits.no, 20)
theorem entT_bad {s : Str} {l : List Str} (h0 : ¬ s = []) (h : decT s = some l) (hl : ¬ l.length = 3) : entT s = (Bits.no, 20) := by
  rw [entT, if_neg h0, h]
  match l, hl with
  | [], _ => rfl
  | [_], _ => rfl
  | [_, _], _ => rfl
  | [_, _, _], hl => exact absurd rfl hl
  | _ :: _ :: _ :: _ :: _, _ => rfl
theorem entry_ok (s : Str) (hl : s.length ≤ 4000000000) (p : Oid) (hp : p.mono = false) : CallOK Tryz.prog 56 [.str s] (Oid.under p) ⟨[], .tuple [(entT s).1.av, .int .i64 (entT s).2], []⟩ := by
  by_cases h0 : s = []
  · subst h0
    refine fnOK (n := 82) (rs := [.cell 2 37, .tmp 3]) Tryz.func56 rfl rfl (by decide) rfl rfl rfl ?_; rintro x rfl hrd hng
    (repeat (first | (refine K_ifT rfl rfl ?_) | (refine K_ifF rfl rfl ?_) | (refine K_ev nmd [] hng (by kernel_rfl) fun hf C S K hC1 hC hS hK => ?_; simp (disch := first | omega | assumption) only [go_sem]; refine hK ?_; clear hK hS hC hC1 K S C hf) | ((first | refine zn ?_ | refine ze ?_ | refine zk ?_); with_reducible (constructor; repeat constructor); try refine zl ?_)))
    have hE : entT [] = (Bits.no, 0) := rfl
    rw [hE]
    exact K_ret (done_plain (by simp (disch := first | omega | assumption) only [go_sem, Bits.no, Bits.av]))
  have hde := fun p hp => decode_ok s hl p hp
  cases hd : decT s with
  | none =>
    simp only [hd, decR] at hde
    have hE : entT s = (Bits.no, 20) := by rw [entT, if_neg h0, hd]
    rw [hE]
    refine fnOK (n := 82) (rs := [.cell 2 37, .tmp 3]) Tryz.func56 rfl rfl (by decide) rfl rfl rfl ?_; rintro x rfl hrd hng
    (repeat (first | (refine K_ifT rfl rfl ?_) | (refine K_ifF rfl rfl ?_) | (refine K_ev nmd [] hng (by kernel_rfl) fun hf C S K hC1 hC hS hK => ?_; simp (disch := first | omega | assumption) only [go_sem]; refine hK ?_; clear hK hS hC hC1 K S C hf) | ((first | refine zn ?_ | refine ze ?_ | refine zk ?_); with_reducible (constructor; repeat constructor); try refine zl ?_)))
    refine K_ifd rfl rfl (fun hb => ?_) (fun hb => ?_)
    · exact absurd hb h0
    · (repeat (first | (refine K_ifT rfl rfl ?_) | (refine K_ifF rfl rfl ?_) | (refine K_ev nmd [] hng (by kernel_rfl) fun hf C S K hC1 hC hS hK => ?_; simp (disch := first | omega | assumption) only [go_sem]; (repeat ((first | refine hC1 _ (hde _ (mono_sub' rfl hp)) (by simp (disch := first | omega | assumption) only [go_sem]) ?_); simp (disch := first | omega | assumption) only [go_sem])); refine hK ?_; clear hK hS hC hC1 K S C hf) | ((first | refine zn ?_ | refine ze ?_ | refine zk ?_); with_reducible (constructor; repeat constructor); try refine zl ?_)))
      refine K_ev nmd [(2, 21)] hng (by kernel_rfl) fun hf C S K hC1 hC hS hK => ?_; simp (disch := first | omega | assumption) only [go_sem, Int.reduceEq, Int.reduceNe, ne_eq, not_true_eq_false, not_false_eq_true, decide_true, decide_false]
      refine hK ?_; clear hK hS hC hC1 K S C hf
      (repeat (first | (refine K_ifT rfl rfl ?_) | (refine K_ifF rfl rfl ?_) | (refine K_ev nmd [] hng (by kernel_rfl) fun hf C S K hC1 hC hS hK => ?_; simp (disch := first | omega | assumption) only [go_sem]; refine hK ?_; clear hK hS hC hC1 K S C hf) | ((first | refine zn ?_ | refine ze ?_ | refine zk ?_); with_reducible (constructor; repeat constructor); try refine zl ?_)))
      exact K_ret (done_plain (by simp (disch := first | omega | assumption) only [go_sem, Bits.no, Bits.av]))
  | some l =>
    simp only [hd, decR] at hde
    by_cases h3 : l.length = 3
    · obtain ⟨a, b, c, rfl⟩ : ∃ a b c, l = [a, b, c] := by
        match l, h3 with
        | [a, b, c], _ => exact ⟨a, b, c, rfl⟩
      have ha := decT_mem hd a (by simp)
      have hbl := decT_mem hd b (by simp)
      have hc := decT_mem hd c (by simp)
      have hE : entT s = if entC s a b c = true then (⟨atoiN a, atoiN b, c⟩, 0) else (Bits.no, 20) := by rw [entT, if_neg h0, hd]
      have hval := value_ok ⟨atoiN a, atoiN b, c⟩ ⟨atoiN_bounds a, atoiN_bounds b, by simp only; omega⟩
      have hval2 := value_ok ⟨2, atoiN b, c⟩ ⟨⟨(by decide : (-9223372036854775808 : Int) ≤ 2), (by decide : (2 : Int) ≤ 9223372036854775807)⟩, atoiN_bounds b, by simp only; omega⟩
      rw [hE]
      refine fnOK (n := 82) (rs := [.cell 2 37, .tmp 3]) Tryz.func56 rfl rfl (by decide) rfl rfl rfl ?_; rintro x rfl hrd hng
      (repeat (first | (refine K_ifT rfl rfl ?_) | (refine K_ifF rfl rfl ?_) | (refine K_ev nmd [] hng (by kernel_rfl) fun hf C S K hC1 hC hS hK => ?_; simp (disch := first | omega | assumption) only [go_sem]; refine hK ?_; clear hK hS hC hC1 K S C hf) | ((first | refine zn ?_ | refine ze ?_ | refine zk ?_); with_reducible (constructor; repeat constructor); try refine zl ?_)))
      refine K_ifd rfl rfl (fun hb => ?_) (fun hb => ?_)
      · exact absurd hb h0
      · (repeat (first | (refine K_ifT rfl rfl ?_) | (refine K_ifF rfl rfl ?_) | (refine K_ev nmd [] hng (by kernel_rfl) fun hf C S K hC1 hC hS hK => ?_; simp (disch := first | omega | assumption) only [go_sem]; (repeat ((first | refine hC1 _ (hde _ (mono_sub' rfl hp)) (by simp (disch := first | omega | assumption) only [go_sem]) ?_); simp (disch := first | omega | assumption) only [go_sem])); refine hK ?_; clear hK hS hC hC1 K S C hf) | ((first | refine zn ?_ | refine ze ?_ | refine zk ?_); with_reducible (constructor; repeat constructor); try refine zl ?_)))
        refine K_ev nmd [(2, 21)] hng (by kernel_rfl) fun hf C S K hC1 hC hS hK => ?_; simp (disch := first | omega | assumption) only [go_sem, Int.reduceEq, Int.reduceNe, ne_eq, not_true_eq_false, not_false_eq_true, decide_true, decide_false]
        refine hK ?_; clear hK hS hC hC1 K S C hf
        (repeat (first | (refine K_ifT rfl rfl ?_) | (refine K_ifF rfl rfl ?_) | (refine K_ev nmd [] hng (by kernel_rfl) fun hf C S K hC1 hC hS hK => ?_; simp (disch := first | omega | assumption) only [go_sem]; (repeat ((first | refine hC1 _ (number_ok a (by omega) _ (mono_sub' rfl hp)) (by simp (disch := first | omega | assumption) only [go_sem]) ?_ | refine hC1 _ (number_ok b (by omega) _ (mono_sub' rfl hp)) (by simp (disch := first | omega | assumption) only [go_sem]) ?_); simp (disch := first | omega | assumption) only [go_sem])); refine hK ?_; clear hK hS hC hC1 K S C hf) | ((first | refine zn ?_ | refine ze ?_ | refine zk ?_); with_reducible (constructor; repeat constructor); try refine zl ?_)))
        cases hna : numG a <;> cases hnb : numG b
        rotate_right
        · refine K_ev nmd [(2, 49), (6, 53), (10, 57), (14, 61), (18, 65), (21, 68), (27, 74)] hng (by kernel_rfl) fun hf C S K hC1 hC hS hK => ?_; simp (disch := first | omega | assumption) only [go_sem]
          (repeat' (first | (refine evG_split (fun hv => ?_) (fun hv => ?_) <;> (try simp only [zb1, zb2, zb3, zb4, zb5] at hv) <;> simp (disch := first | omega | assumption) only [go_sem, hv, Int.reduceEq, Int.reduceNe, ne_eq, not_true_eq_false, not_false_eq_true, decide_true, decide_false]) | (refine hC1 _ (hval _ (mono_sub' rfl hp)) (by simp (disch := first | omega | assumption) only [go_sem, Int.reduceEq, Int.reduceNe, ne_eq, not_true_eq_false, not_false_eq_true, decide_true, decide_false]) ?_; simp (disch := first | omega | assumption) only [go_sem, Int.reduceEq, Int.reduceNe, ne_eq, not_true_eq_false, not_false_eq_true, decide_true, decide_false]) | (refine hC1 _ (hval2 _ (mono_sub' rfl hp)) (by simp (disch := first | omega | assumption) only [go_sem, Int.reduceEq, Int.reduceNe, ne_eq, not_true_eq_false, not_false_eq_true, decide_true, decide_false]) ?_; simp (disch := first | omega | assumption) only [go_sem, Int.reduceEq, Int.reduceNe, ne_eq, not_true_eq_false, not_false_eq_true, decide_true, decide_false]) | (refine hK ?_; clear hK hS hC hC1 K S C hf)))
          all_goals (repeat (first | (refine K_ifT rfl rfl ?_) | (refine K_ifF rfl rfl ?_) | (refine K_ev nmd [] hng (by kernel_rfl) fun hf C S K hC1 hC hS hK => ?_; simp (disch := first | omega | assumption) only [go_sem]; refine hK ?_; clear hK hS hC hC1 K S C hf) | ((first | refine zn ?_ | refine ze ?_ | refine zk ?_); with_reducible (constructor; repeat constructor); try refine zl ?_)))
          · rename_i h1 h2 h3 h4
            refine K_ifd rfl rfl (fun hb => ?_) (fun hb => ?_)
            · rw [if_neg (fun h => hb (by have := (entC_iff.1 h).2.2.2.2.2.2; rwa [h4] at this))]
              (repeat (first | (refine K_ifT rfl rfl ?_) | (refine K_ifF rfl rfl ?_) | (refine K_ev nmd [] hng (by kernel_rfl) fun hf C S K hC1 hC hS hK => ?_; simp (disch := first | omega | assumption) only [go_sem]; refine hK ?_; clear hK hS hC hC1 K S C hf) | ((first | refine zn ?_ | refine ze ?_ | refine zk ?_); with_reducible (constructor; repeat constructor); try refine zl ?_)))
              exact K_ret (done_plain (by simp (disch := first | omega | assumption) only [go_sem, Bits.no, Bits.av]))
            · rw [if_pos (entC_iff.2 ⟨hna, hnb, by omega, by omega, by omega, fun h => hv h.2, by rw [h4]; exact Classical.not_not.1 hb⟩)]
              (repeat (first | (refine K_ifT rfl rfl ?_) | (refine K_ifF rfl rfl ?_) | (refine K_ev nmd [] hng (by kernel_rfl) fun hf C S K hC1 hC hS hK => ?_; simp (disch := first | omega | assumption) only [go_sem]; refine hK ?_; clear hK hS hC hC1 K S C hf) | ((first | refine zn ?_ | refine ze ?_ | refine zk ?_); with_reducible (constructor; repeat constructor); try refine zl ?_)))
              exact K_ret (done_plain (by simp (disch := first | omega | assumption) only [go_sem, Bits.av, h4]))
          · rename_i h1 h2 h3 h4
            rw [if_neg (fun h => (entC_iff.1 h).2.2.2.2.2.1 ⟨h4, hv⟩)]
            exact K_ret (done_plain (by simp (disch := first | omega | assumption) only [go_sem, Bits.no, Bits.av]))
          · rename_i h1 h2 h3
            refine K_ifd rfl rfl (fun hb => ?_) (fun hb => ?_)
            · rw [if_neg (fun h => hb (entC_iff.1 h).2.2.2.2.2.2)]
              (repeat (first | (refine K_ifT rfl rfl ?_) | (refine K_ifF rfl rfl ?_) | (refine K_ev nmd [] hng (by kernel_rfl) fun hf C S K hC1 hC hS hK => ?_; simp (disch := first | omega | assumption) only [go_sem]; refine hK ?_; clear hK hS hC hC1 K S C hf) | ((first | refine zn ?_ | refine ze ?_ | refine zk ?_); with_reducible (constructor; repeat constructor); try refine zl ?_)))
              exact K_ret (done_plain (by simp (disch := first | omega | assumption) only [go_sem, Bits.no, Bits.av]))
            · rw [if_pos (entC_iff.2 ⟨hna, hnb, by omega, by omega, by omega, fun h => hv h.1, Classical.not_not.1 hb⟩)]
              (repeat (first | (refine K_ifT rfl rfl ?_) | (refine K_ifF rfl rfl ?_) | (refine K_ev nmd [] hng (by kernel_rfl) fun hf C S K hC1 hC hS hK => ?_; simp (disch := first | omega | assumption) only [go_sem]; refine hK ?_; clear hK hS hC hC1 K S C hf) | ((first | refine zn ?_ | refine ze ?_ | refine zk ?_); with_reducible (constructor; repeat constructor); try refine zl ?_)))
              exact K_ret (done_plain (by simp (disch := first | omega | assumption) only [go_sem, Bits.no, Bits.av]))
          · rw [if_neg (fun h => by have := entC_iff.1 h; omega)]
            exact K_ret (done_plain (by simp (disch := first | omega | assumption) only [go_sem, Bits.no, Bits.av]))
          · rw [if_neg (fun h => by have := entC_iff.1 h; omega)]
            exact K_ret (done_plain (by simp (disch := first | omega | assumption) only [go_sem, Bits.no, Bits.av]))
          · rw [if_neg (fun h => by have := entC_iff.1 h; omega)]
            exact K_ret (done_plain (by simp (disch := first | omega | assumption) only [go_sem, Bits.no, Bits.av]))
        all_goals
          rw [if_neg (by simp [entC, hna, hnb])]
          refine K_ev nmd [(2, 49), (6, 53), (10, 57), (14, 61), (18, 65), (21, 68), (27, 74)] hng (by kernel_rfl) fun hf C S K hC1 hC hS hK => ?_; simp (disch := first | omega | assumption) only [go_sem]
          (repeat' (first | (refine evG_split (fun hv => ?_) (fun hv => ?_) <;> (try simp only [zb1, zb2, zb3, zb4, zb5] at hv) <;> simp (disch := first | omega | assumption) only [go_sem, hv]) | (refine hC1 _ (hval _ (mono_sub' rfl hp)) (by simp (disch := first | omega | assumption) only [go_sem]) ?_; simp (disch := first | omega | assumption) only [go_sem]) | (refine hK ?_; clear hK hS hC hC1 K S C hf)))
          (repeat (first | (refine K_ifT rfl rfl ?_) | (refine K_ifF rfl rfl ?_) | (refine K_ev nmd [] hng (by kernel_rfl) fun hf C S K hC1 hC hS hK => ?_; simp (disch := first | omega | assumption) only [go_sem]; refine hK ?_; clear hK hS hC hC1 K S C hf) | ((first | refine zn ?_ | refine ze ?_ | refine zk ?_); with_reducible (constructor; repeat constructor); try refine zl ?_)))
          exact K_ret (done_plain (by simp (disch := first | omega | assumption) only [go_sem, Bits.no, Bits.av]))
    · have hE := entT_bad h0 hd h3
      rw [hE]
      refine fnOK (n := 82) (rs := [.cell 2 37, .tmp 3]) Tryz.func56 rfl rfl (by decide) rfl rfl rfl ?_; rintro x rfl hrd hng
      (repeat (first | (refine K_ifT rfl rfl ?_) | (refine K_ifF rfl rfl ?_) | (refine K_ev nmd [] hng (by kernel_rfl) fun hf C S K hC1 hC hS hK => ?_; simp (disch := first | omega | assumption) only [go_sem]; refine hK ?_; clear hK hS hC hC1 K S C hf) | ((first | refine zn ?_ | refine ze ?_ | refine zk ?_); with_reducible (constructor; repeat constructor); try refine zl ?_)))
      refine K_ifd rfl rfl (fun hb => ?_) (fun hb => ?_)
      · exact absurd hb h0
      · (repeat (first | (refine K_ifT rfl rfl ?_) | (refine K_ifF rfl rfl ?_) | (refine K_ev nmd [] hng (by kernel_rfl) fun hf C S K hC1 hC hS hK => ?_; simp (disch := first | omega | assumption) only [go_sem]; (repeat ((first | refine hC1 _ (hde _ (mono_sub' rfl hp)) (by simp (disch := first | omega | assumption) only [go_sem]) ?_); simp (disch := first | omega | assumption) only [go_sem])); refine hK ?_; clear hK hS hC hC1 K S C hf) | ((first | refine zn ?_ | refine ze ?_ | refine zk ?_); with_reducible (constructor; repeat constructor); try refine zl ?_)))
        refine K_ev nmd [(2, 21)] hng (by kernel_rfl) fun hf C S K hC1 hC hS hK => ?_; simp (disch := first | omega | assumption) only [go_sem, Int.reduceEq, Int.reduceNe, ne_eq, not_true_eq_false, not_false_eq_true, decide_true, decide_false]
        refine hK ?_; clear hK hS hC hC1 K S C hf
        (try ((first | refine zn ?_ | refine ze ?_ | refine zk ?_); with_reducible (constructor; repeat constructor)); try refine zl ?_)
        refine K_ifd rfl rfl (fun hb => ?_) (fun hb => ?_)
        · (repeat (first | (refine K_ifT rfl rfl ?_) | (refine K_ifF rfl rfl ?_) | (refine K_ev nmd [] hng (by kernel_rfl) fun hf C S K hC1 hC hS hK => ?_; simp (disch := first | omega | assumption) only [go_sem]; refine hK ?_; clear hK hS hC hC1 K S C hf) | ((first | refine zn ?_ | refine ze ?_ | refine zk ?_); with_reducible (constructor; repeat constructor); try refine zl ?_)))
          exact K_ret (done_plain (by simp (disch := first | omega | assumption) only [go_sem, Bits.no, Bits.av]))
        · omega
end Go.Proofs.YtaecbmbecofijaaGreatDoor
namespace Go.Proofs.YtaecbmbecofijaaGreatDoor
open Go Go.Ab
set_option maxRecDepth 20000
set_option maxHeartbeats 4000000
theorem encodeR_ok (l : List Str) (hl : (encT l).length ≤ 140737488355328) (hn : l.length ≤ 140737488355328) (p : Oid) : CallOK Tryz.prog 107 [.list 1 (l.map AV.str)] (Oid.under p) ⟨[], .str (encT l), []⟩ := by
  refine fnOK (n := 27) (rs := [.tmp 2]) Tryz.func107 rfl rfl (by decide) rfl rfl rfl ?_; rintro x rfl hrd hng
  (repeat (first | (refine K_ifT rfl rfl ?_) | (refine K_ifF rfl rfl ?_) | (refine K_ev nmd [] hng (by kernel_rfl) fun hf C S K hC1 hC hS hK => ?_; simp (disch := first | omega | assumption) only [go_sem]; refine hK ?_; clear hK hS hC hC1 K S C hf) | ((first | refine zn ?_ | refine ze ?_ | refine zk ?_); with_reducible (constructor; repeat constructor); try refine zl ?_)))
  refine K_loop [0, 3, 4] (fun k s' => ∃ (i c : Nat), k = l.length - i ∧ i ≤ l.length ∧ s' = ⟨[(0, .list 1 (l.map AV.str)), (3, .str (encT (l.take i))), (4, .int .i64 i)], Mem.of [], c, []⟩) _ ⟨0, _, rfl, Nat.zero_le _, rfl⟩ ?_
  rintro k s' ⟨i, c, rfl, hi, rfl⟩
  (repeat (first | (refine K_ifT rfl rfl ?_) | (refine K_ifF rfl rfl ?_) | (refine K_ev nmd [] hng (by kernel_rfl) fun hf C S K hC1 hC hS hK => ?_; simp (disch := first | omega | assumption) only [go_sem]; refine hK ?_; clear hK hS hC hC1 K S C hf) | ((first | refine zn ?_ | refine ze ?_ | refine zk ?_); with_reducible (constructor; repeat constructor); try refine zl ?_)))
  refine K_ifd rfl rfl (fun hb => ?_) (fun hb => ?_)
  · have ht := encT_take (l := l) (i := i) (by omega)
    have hle := encT_take_le (l := l) (i + 1)
    have hch := chunk_len (l.getD i default)
    have hdl := Lib.itoa_nonneg (l.getD i default).length
    rw [hdl] at hch
    rw [ht, List.length_append] at hle
    (try ((first | refine zn ?_ | refine ze ?_ | refine zk ?_); with_reducible (constructor; repeat constructor)); try refine zl ?_)
    refine K_evd nmd [] [(6, 12)] mixed hng (by kernel_rfl) [0, 3, 4] fun hf C S K hC hS hK => ?_; simp (disch := first | omega | assumption) only [go_sem]
    (repeat ((first | refine hC _ (digits_ok (l.getD i default).length (by omega) _) (by simp (disch := first | omega | assumption) only [go_sem]) ?_); simp (disch := first | omega | assumption) only [go_sem]))
    (first | refine hK (dynN_quiet rfl) ?_ | refine hK (by simp (disch := first | omega | assumption) only [go_sem, List.reverse_cons, List.reverse_nil, ne_eq, not_false_eq_true, implies_true]) ?_); clear hK hS hC K S C hf
    (repeat (first | (refine K_ifT rfl rfl ?_) | (refine K_ifF rfl rfl ?_) | (refine K_ev nmd [] hng (by kernel_rfl) fun hf C S K hC1 hC hS hK => ?_; simp (disch := first | omega | assumption) only [go_sem]; refine hK ?_; clear hK hS hC hC1 K S C hf) | ((first | refine zn ?_ | refine ze ?_ | refine zk ?_); with_reducible (constructor; repeat constructor); try refine zl ?_)))
    have hs : encT (l.take i) ++ Lib.decDigits (l.getD i default).length ++ [58] ++ l.getD i default ++ [44] = encT (l.take (i + 1)) := by rw [ht, chunk, hdl]; simp only [List.append_assoc]
    rw [hs]
    exact ⟨_, _, by omega, fun _ _ h => h, i + 1, c + 1 + 1 + 1, rfl, by omega, rfl⟩
  · obtain rfl : i = l.length := by omega
    (repeat (first | (refine K_ifT rfl rfl ?_) | (refine K_ifF rfl rfl ?_) | (refine K_ev nmd [] hng (by kernel_rfl) fun hf C S K hC1 hC hS hK => ?_; simp (disch := first | omega | assumption) only [go_sem]; refine hK ?_; clear hK hS hC hC1 K S C hf) | ((first | refine zn ?_ | refine ze ?_ | refine zk ?_); with_reducible (constructor; repeat constructor); try refine zl ?_)))
    exact K_ret (done1 (congrArg AV.str (by rw [List.take_length])))
theorem valueR_ok (b : Bits) (hb : b.ok) (h0 : 0 ≤ b.k ∧ 0 ≤ b.m) (p : Oid) : CallOK Tryz.prog 99 [b.av] (Oid.under p) ⟨[], .str (valT b), []⟩ := by
  obtain ⟨k, m, l⟩ := b
  obtain ⟨⟨k1, k2⟩, ⟨m1, m2⟩, hl⟩ := hb
  simp only at k1 k2 m1 m2 hl h0
  obtain ⟨k, rfl⟩ := Int.eq_ofNat_of_zero_le h0.1
  obtain ⟨m, rfl⟩ := Int.eq_ofNat_of_zero_le h0.2
  have hk := decDigits_len k k2
  have hm := decDigits_len m m2
  have h1 := chunk_le (s := Lib.decDigits k) (by omega)
  have h2 := chunk_le (s := Lib.decDigits m) (by omega)
  have h3 := chunk_le hl
  have hE : (encT [Lib.decDigits k, Lib.decDigits m, l]).length ≤ 140737488355328 := by simp only [encT, List.length_append, List.length_nil]; omega
  simp only [Bits.av]
  refine fnOK (n := 16) (rs := [.tmp 2]) Tryz.func99 rfl rfl (by decide) rfl rfl rfl ?_; rintro x rfl hrd hng
  (repeat (first | (refine K_ifT rfl rfl ?_) | (refine K_ifF rfl rfl ?_) | (refine K_ev nmd [] hng (by kernel_rfl) fun hf C S K hC1 hC hS hK => ?_; simp (disch := first | omega | assumption) only [go_sem]; refine hK ?_; clear hK hS hC hC1 K S C hf) | ((first | refine zn ?_ | refine ze ?_ | refine zk ?_); with_reducible (constructor; repeat constructor); try refine zl ?_)))
  refine K_ifd rfl rfl (fun hb => ?_) (fun hb => ?_)
  · (repeat (first | (refine K_ifT rfl rfl ?_) | (refine K_ifF rfl rfl ?_) | (refine K_ev nmd [] hng (by kernel_rfl) fun hf C S K hC1 hC hS hK => ?_; simp (disch := first | omega | assumption) only [go_sem]; refine hK ?_; clear hK hS hC hC1 K S C hf) | ((first | refine zn ?_ | refine ze ?_ | refine zk ?_); with_reducible (constructor; repeat constructor); try refine zl ?_)))
    exact K_ret (done1 (congrArg AV.str (by rw [valT, if_pos hb])))
  · (try ((first | refine zn ?_ | refine ze ?_ | refine zk ?_); with_reducible (constructor; repeat constructor)); try refine zl ?_)
    refine K_evd nmd [] [(2, 4), (2, 7), (5, 7)] mixed hng (by kernel_rfl) [2] fun hf C S K hC hS hK => ?_; simp (disch := first | omega | assumption) only [go_sem]
    (repeat ((first | refine hC _ (digits_ok k k2 _) (by simp (disch := first | omega | assumption) only [go_sem]) ?_ | refine hC _ (digits_ok m m2 _) (by simp (disch := first | omega | assumption) only [go_sem]) ?_ | refine hC _ (encodeR_ok [Lib.decDigits k, Lib.decDigits m, l] hE (by simp) _) (by simp (disch := first | omega | assumption) only [go_sem]) ?_); simp (disch := first | omega | assumption) only [go_sem]))
    (first | refine hK (dynN_quiet rfl) ?_ | refine hK (by simp (disch := first | omega | assumption) only [go_sem, List.reverse_cons, List.reverse_nil, ne_eq, not_false_eq_true, implies_true]) ?_); clear hK hS hC K S C hf
    (repeat (first | (refine K_ifT rfl rfl ?_) | (refine K_ifF rfl rfl ?_) | (refine K_ev nmd [] hng (by kernel_rfl) fun hf C S K hC1 hC hS hK => ?_; simp (disch := first | omega | assumption) only [go_sem]; refine hK ?_; clear hK hS hC hC1 K S C hf) | ((first | refine zn ?_ | refine ze ?_ | refine zk ?_); with_reducible (constructor; repeat constructor); try refine zl ?_)))
    exact K_ret (done1 (congrArg AV.str (by rw [valT, if_neg hb, Lib.itoa_nonneg, Lib.itoa_nonneg])))
end Go.Proofs.YtaecbmbecofijaaGreatDoor
