/- The walk's memory: rows of numbers by facet, each with its own name. -/
import Derived.Test.YtpdmiojenhodlaaH8
set_option linter.unusedVariables false
set_option linter.unusedSimpArgs false
namespace Go.Proofs.Ytpdmiojenhodlaa
open Go Go.Ab
set_option maxRecDepth 20000
set_option maxHeartbeats 4000000
abbrev Rw := List (Fct × Oid × List Nat)
def entV (R : Rw) : List (Fct × AV) := R.map fun q => (q.1, .sl q.2.1 1 q.2.2.length)
def rowsM (R : Rw) : List (Oid × AObj) := R.map fun q => (q.2.1, .arr 1 (ints q.2.2))
def plR (R : Rw) : List (Fct × List Nat) := R.map fun q => (q.1, q.2.2)
def nmR (R : Rw) : List Oid := R.map fun q => q.2.1
def setR (f : Fct) (i : Oid) (l : List Nat) : Rw → Rw
  | [] => [(f, i, l)]
  | q :: R => if f = q.1 then (q.1, i, l) :: R else q :: setR f i l R
def nameR (f : Fct) : Rw → Option Oid
  | [] => none
  | q :: R => if f = q.1 then some q.2.1 else nameR f R
def rowR (f : Fct) (R : Rw) : List Nat := rowGet f (plR R)
theorem getA_ent (f : Fct) : ∀ R : Rw, getA f .nilSl (entV R) = rowV (nameR f R) (rowR f R)
  | [] => rfl
  | q :: R => by
    have ih := getA_ent f R
    simp only [entV, rowR, plR, List.map_cons, getA, nameR, rowGet] at ih ⊢
    by_cases h : f = q.1
    · simp only [if_pos h]; rfl
    · simp only [if_neg h]; exact ih
theorem row_none (f : Fct) : ∀ R : Rw, nameR f R = none → rowR f R = []
  | [], _ => rfl
  | q :: R, h => by
    have ih := row_none f R
    simp only [rowR, plR, List.map_cons, nameR, rowGet] at ih h ⊢
    by_cases hf : f = q.1
    · simp [hf] at h
    · simp only [if_neg hf] at h ⊢; exact ih h
theorem name_mem (f : Fct) (i : Oid) : ∀ R : Rw, nameR f R = some i → (f, i, rowR f R) ∈ R
  | [], h => by cases h
  | q :: R, h => by
    have ih := name_mem f i R
    simp only [rowR, plR, List.map_cons, nameR, rowGet] at ih h ⊢
    by_cases hf : f = q.1
    · simp only [if_pos hf, Option.some.injEq] at h ⊢; subst h; subst hf; exact List.mem_cons_self
    · simp only [if_neg hf] at h ⊢; exact List.mem_cons_of_mem _ (ih h)
theorem put_ent (f : Fct) (i : Oid) (l : List Nat) : ∀ R : Rw, putA f (.sl i 1 l.length) (entV R) = entV (setR f i l R)
  | [] => rfl
  | q :: R => by
    have ih := put_ent f i l R
    simp only [entV, List.map_cons, putA, setR] at ih ⊢
    by_cases h : f = q.1
    · simp only [if_pos h, List.map_cons]
    · simp only [if_neg h, List.map_cons, ih]
theorem ent_length (R : Rw) : (entV R).length = R.length := List.length_map _
theorem putA_len2 {α : Type} [DecidableEq α] (a : α) (v u : AV) (L : List (α × AV)) : (putA a v L).length = (putA a u L).length := by rw [putA_length, putA_length]
theorem pl_set (f : Fct) (i : Oid) (k : Nat) : ∀ R : Rw, plR (setR f i (rowR f R ++ [k]) R) = rowAdd f k (plR R)
  | [] => rfl
  | q :: R => by
    have ih := pl_set f i k R
    simp only [rowR, plR, List.map_cons, setR, rowGet, rowAdd] at ih ⊢
    by_cases h : f = q.1
    · simp only [if_pos h, List.map_cons]
    · simp only [if_neg h, List.map_cons, ih]
theorem name_in {f : Fct} {i : Oid} {R : Rw} (h : nameR f R = some i) : i ∈ nmR R := List.mem_map.2 ⟨_, name_mem f i R h, rfl⟩
theorem set_mem {f : Fct} {i : Oid} {l : List Nat} : ∀ {R : Rw} {q : Fct × Oid × List Nat}, (nmR R).Nodup → q ∈ setR f i l R → q = (f, i, l) ∨ (q ∈ R ∧ nameR f R ≠ some q.2.1)
  | [], q, _, h => by simp only [setR, List.mem_singleton] at h; exact .inl h
  | a :: R, q, hn, h => by
    simp only [nmR, List.map_cons, List.nodup_cons] at hn
    simp only [setR, nameR] at h ⊢
    by_cases hf : f = a.1
    · simp only [if_pos hf, List.mem_cons] at h ⊢
      rcases h with rfl | h
      · subst hf; exact .inl rfl
      · refine .inr ⟨.inr h, fun e => ?_⟩
        simp only [Option.some.injEq] at e
        exact hn.1 (e ▸ List.mem_map.2 ⟨q, h, rfl⟩)
    · simp only [if_neg hf, List.mem_cons] at h ⊢
      rcases h with rfl | h
      · refine .inr ⟨.inl rfl, fun e => hn.1 ?_⟩
        exact name_in (R := R) e
      · rcases set_mem (R := R) hn.2 h with h | ⟨h1, h2⟩
        · exact .inl h
        · exact .inr ⟨.inr h1, h2⟩
theorem set_nodup {f : Fct} {i : Oid} {l : List Nat} : ∀ {R : Rw}, (nmR R).Nodup → ¬ i ∈ nmR R → (nmR (setR f i l R)).Nodup
  | [], _, _ => by simp [setR, nmR]
  | a :: R, hn, hi => by
    simp only [nmR, List.map_cons, List.nodup_cons, List.mem_cons, not_or] at hn hi
    simp only [setR]
    by_cases hf : f = a.1
    · simp only [if_pos hf, nmR, List.map_cons, List.nodup_cons]; exact ⟨hi.2, hn.2⟩
    · simp only [if_neg hf, nmR, List.map_cons, List.nodup_cons]
      refine ⟨fun h => ?_, set_nodup (R := R) hn.2 hi.2⟩
      obtain ⟨q, h1, h2⟩ := List.mem_map.1 h
      rcases set_mem (R := R) hn.2 h1 with rfl | ⟨h3, _⟩
      · exact hi.1 h2
      · exact hn.1 (h2 ▸ List.mem_map.2 ⟨q, h3, rfl⟩)
theorem set_names {f : Fct} {i j : Oid} {l : List Nat} {R : Rw} (hn : (nmR R).Nodup) (h : j ∈ nmR (setR f i l R)) : j = i ∨ (j ∈ nmR R ∧ nameR f R ≠ some j) := by
  obtain ⟨q, h1, rfl⟩ := List.mem_map.1 h
  rcases set_mem hn h1 with rfl | ⟨h2, h3⟩
  · exact .inl rfl
  · exact .inr ⟨List.mem_map.2 ⟨q, h2, rfl⟩, h3⟩

/-! the rows in memory -/
theorem of_nodup : ∀ {l : List (Oid × AObj)} {q : Oid × AObj}, (l.map (·.1)).Nodup → q ∈ l → Mem.of l q.1 = some q.2
  | [], _, _, h => by cases h
  | a :: l, q, hn, h => by
    simp only [List.map_cons, List.nodup_cons] at hn
    rw [Mem.of_cons_at]
    rcases List.mem_cons.1 h with rfl | h
    · rw [if_pos rfl]
    · rw [if_neg (show ¬ q.1 = a.1 from fun e => hn.1 (e ▸ List.mem_map.2 ⟨q, h, rfl⟩))]; exact of_nodup hn.2 h
theorem rows_names (R : Rw) : (rowsM R).map (·.1) = nmR R := by simp [rowsM, nmR, Function.comp_def]
theorem of_put_at (i : Oid) (x : Option AObj) (l : List (Oid × AObj)) (j : Oid) : Mem.of (putL i x l) j = if j = i then x else Mem.of l j := by rw [← Mem.of_putL]; rfl
theorem of_app {l l' : List (Oid × AObj)} {i : Oid} (h : ∀ q ∈ l, ¬ i = q.1) : Mem.of (l ++ l') i = Mem.of l' i := by
  induction l with
  | nil => rfl
  | cons q l ih => rw [List.cons_append, Mem.of_cons_at, if_neg (h q List.mem_cons_self)]; exact ih fun q hq => h q (List.mem_cons_of_mem _ hq)

/-- The names of the rows: no two alike, none of them another object's. -/
structure Names (s r w o p : Oid) (c : Nat) (R W : Rw) : Prop where
  nd : (nmR R ++ nmR W).Nodup
  ne : ∀ i ∈ nmR R ++ nmR W, ¬ i = s ∧ ¬ i = r ∧ ¬ i = w ∧ ¬ i = o ∧ ¬ i = .sub 0 0 p ∧ ∀ d j, c ≤ d → ¬ Oid.under (.sub d j p) i
section
variable {s r w o p : Oid} {c : Nat} {R W : Rw} {f : Fct}
theorem Names.ndR (h : Names s r w o p c R W) : (nmR R).Nodup := (List.nodup_append.1 h.nd).1
theorem Names.ndW (h : Names s r w o p c R W) : (nmR W).Nodup := (List.nodup_append.1 h.nd).2.1
theorem Names.dis (h : Names s r w o p c R W) {i : Oid} (h1 : i ∈ nmR R) (h2 : i ∈ nmR W) : False := (List.nodup_append.1 h.nd).2.2 i h1 i h2 rfl
theorem Names.mono (h : Names s r w o p c R W) {c' : Nat} (hc : c ≤ c') : Names s r w o p c' R W :=
  ⟨h.nd, fun i hi => let ⟨a1, a2, a3, a4, a5, a6⟩ := h.ne i hi; ⟨a1, a2, a3, a4, a5, fun d j hd => a6 d j (Nat.le_trans hc hd)⟩⟩
theorem Names.swap (h : Names s r w o p c R W) : Names s r w o p c W R :=
  ⟨(List.perm_append_comm.nodup_iff).1 h.nd, fun i hi => h.ne i (List.mem_append.2 (List.mem_append.1 hi).symm)⟩
theorem Names.get (h : Names s r w o p c R W) {q : Oid × AObj} (hq : q ∈ rowsM R ++ rowsM W) : Mem.of (rowsM R ++ rowsM W) q.1 = some q.2 :=
  of_nodup (by rw [List.map_append, rows_names, rows_names]; exact h.nd) hq
theorem Names.rowR (h : Names s r w o p c R W) {i : Oid} (hi : nameR f R = some i) : Mem.of (rowsM R ++ rowsM W) i = some (.arr 1 (ints (rowR f R))) :=
  h.get (q := (i, .arr 1 (ints (Proofs.Ytpdmiojenhodlaa.rowR f R)))) (List.mem_append_left _ (List.mem_map.2 ⟨_, name_mem f i R hi, rfl⟩))
theorem Names.rowW (h : Names s r w o p c R W) {i : Oid} (hi : nameR f W = some i) : Mem.of (rowsM R ++ rowsM W) i = some (.arr 1 (ints (Proofs.Ytpdmiojenhodlaa.rowR f W))) :=
  h.get (q := (i, .arr 1 (ints (Proofs.Ytpdmiojenhodlaa.rowR f W)))) (List.mem_append_right _ (List.mem_map.2 ⟨_, name_mem f i W hi, rfl⟩))
theorem Names.set (h : Names s r w o p c R W) {c0 j : Nat} (hc0 : 0 < c0) (hc : c ≤ c0) (hs : ¬ Oid.under p s) (hr : ¬ Oid.under p r) (hw : ¬ Oid.under p w) (ho : ¬ Oid.under p o) {l : List Nat} {c' : Nat} (hc' : c0 < c') :
    Names s r w o p c' (setR f (.sub c0 j p) l R) W := by
  have un : Oid.under p (.sub c0 j p) := Oid.under_sub (Oid.under_refl _)
  have hni : ∀ i ∈ nmR R ++ nmR W, ¬ i = .sub c0 j p := fun i hi e => (h.ne i hi).2.2.2.2.2 c0 j hc (e ▸ Oid.under_refl _)
  refine ⟨List.nodup_append.2 ⟨set_nodup h.ndR fun hi => hni _ (List.mem_append_left _ hi) rfl, h.ndW, ?_⟩, ?_⟩
  · rintro a ha b hb rfl
    rcases set_names h.ndR ha with rfl | ⟨h1, _⟩
    · exact hni _ (List.mem_append_right _ hb) rfl
    · exact h.dis h1 hb
  · intro i hi
    have : i = .sub c0 j p ∨ i ∈ nmR R ++ nmR W := by
      rcases List.mem_append.1 hi with hi | hi
      · rcases set_names h.ndR hi with rfl | ⟨h1, _⟩
        · exact .inl rfl
        · exact .inr (List.mem_append_left _ h1)
      · exact .inr (List.mem_append_right _ hi)
    rcases this with rfl | hi
    · refine ⟨fun e => hs (e ▸ un), fun e => hr (e ▸ un), fun e => hw (e ▸ un), fun e => ho (e ▸ un), fun e => ?_, fun d j' hd hu => ?_⟩
      · simp only [Oid.sub.injEq] at e; omega
      · have := (Oid.apart hu (Oid.under_refl _)).1; omega
    · obtain ⟨a1, a2, a3, a4, a5, a6⟩ := h.ne i hi
      exact ⟨a1, a2, a3, a4, a5, fun d j' hd => a6 d j' (by omega)⟩
/-- A row is exchanged. -/
theorem rows_set {B : List (Oid × AObj)} {m : Mem} {i : Oid} {l : List Nat} (h : Names s r w o p c R W) (hB : ∀ q, q ∈ B → m q.1 = some q.2) (hi : m i = some (.arr 1 (ints l)))
    (hm : ∀ j ∈ nmR R ++ nmR W, ¬ nameR f R = some j → m j = Mem.of (rowsM R ++ rowsM W) j) : ∀ q, q ∈ B ++ (rowsM (setR f i l R) ++ rowsM W) → m q.1 = some q.2 := by
  intro q hq
  rcases List.mem_append.1 hq with hq | hq
  · exact hB q hq
  rcases List.mem_append.1 hq with hq | hq
  · obtain ⟨a, ha, rfl⟩ := List.mem_map.1 hq
    rcases set_mem h.ndR ha with rfl | ⟨h1, h2⟩
    · exact hi
    · rw [hm _ (List.mem_append_left _ (List.mem_map.2 ⟨a, h1, rfl⟩)) h2]
      exact h.get (q := (a.2.1, .arr 1 (ints a.2.2))) (List.mem_append_left _ (List.mem_map.2 ⟨a, h1, rfl⟩))
  · obtain ⟨a, ha, rfl⟩ := List.mem_map.1 hq
    have hn : a.2.1 ∈ nmR W := List.mem_map.2 ⟨a, ha, rfl⟩
    rw [hm _ (List.mem_append_right _ hn) fun e => h.dis (name_in e) hn]
    exact h.get (q := (a.2.1, .arr 1 (ints a.2.2))) (List.mem_append_right _ (List.mem_map.2 ⟨a, ha, rfl⟩))
end
end Go.Proofs.Ytpdmiojenhodlaa
