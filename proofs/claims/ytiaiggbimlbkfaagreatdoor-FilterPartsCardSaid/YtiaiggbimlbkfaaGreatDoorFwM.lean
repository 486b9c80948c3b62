/- The framework, sixth part: maps as lists without an order, lists in order. -/
import Derived.Test.YtiaiggbimlbkfaaGreatDoorFwD
set_option linter.unusedVariables false
set_option linter.unusedSimpArgs false
set_option linter.unusedSectionVars false
namespace Go.Ab

/-! ### a map's entries -/
section
variable {κ ν : Type} [DecidableEq κ] {ek : κ → AV} {ev : ν → AV}
def entG (ek : κ → AV) (ev : ν → AV) (q : κ × ν × Nat) : ME := ⟨ek q.1, ev q.2.1, q.2.2⟩
def prj (q : κ × ν × Nat) : κ × ν := (q.1, q.2.1)
def lookG (n : κ) : List (κ × ν) → Option ν
  | [] => none
  | q :: L => if n = q.1 then some q.2 else lookG n L
def setG (n : κ) (b : ν) (c : Nat) : List (κ × ν × Nat) → List (κ × ν × Nat)
  | [] => [(n, b, c)]
  | q :: L => if n = q.1 then (q.1, b, q.2.2) :: L else q :: setG n b c L
def delG (n : κ) : List (κ × ν × Nat) → List (κ × ν × Nat)
  | [] => []
  | q :: L => if n = q.1 then L else q :: delG n L
def optV (ev : ν → AV) (z : AV) : Option ν → AV
  | some b => ev b
  | none => z
theorem val_G (he : EncOK ek) (n : κ) (z : AV) : ∀ E : List (κ × ν × Nat), valE (ek n) z (E.map (entG ek ev)) = optV ev z (lookG n (E.map prj))
  | [] => rfl
  | q :: L => by
    have ih := val_G he n z L
    have h1 := he n q.1
    simp only [valE, List.map_cons, lookE, entG, h1, lookG, prj] at ih ⊢
    by_cases h : n = q.1
    · simp [h, optV]
    · simp only [h, decide_false, Bool.false_eq_true, if_false]; exact ih
theorem has_G (he : EncOK ek) (n : κ) : ∀ E : List (κ × ν × Nat), hasE (ek n) (E.map (entG ek ev)) = (lookG n (E.map prj)).isSome
  | [] => rfl
  | q :: L => by
    have ih := has_G he n L
    have h1 := he n q.1
    simp only [hasE, List.map_cons, lookE, entG, h1, lookG, prj] at ih ⊢
    by_cases h : n = q.1
    · simp [h]
    · simp only [h, decide_false, Bool.false_eq_true, if_false]; exact ih
theorem set_G (he : EncOK ek) (n : κ) (b : ν) (c : Nat) : ∀ E : List (κ × ν × Nat), setE (ek n) (ev b) c (E.map (entG ek ev)) = (setG n b c E).map (entG ek ev)
  | [] => rfl
  | q :: L => by
    have ih := set_G he n b c L
    have h1 := he n q.1
    simp only [List.map_cons, setE, setG]
    by_cases h : n = q.1
    · simp [h, entG, he q.1 q.1]
    · simp only [h, entG, h1, decide_false, Bool.false_eq_true, if_false, List.map_cons]
      exact congrArg _ ih
theorem del_G (he : EncOK ek) (n : κ) : ∀ E : List (κ × ν × Nat), delE (ek n) (E.map (entG ek ev)) = (delG n E).map (entG ek ev)
  | [] => rfl
  | q :: L => by
    have ih := del_G he n L
    have h1 := he n q.1
    simp only [List.map_cons, delE, delG]
    by_cases h : n = q.1
    · simp [h, entG, he q.1 q.1]
    · simp only [h, entG, h1, decide_false, Bool.false_eq_true, if_false, List.map_cons]
      exact congrArg _ ih
theorem filter_no {n : κ} : ∀ {L : List (κ × ν)}, ¬ n ∈ L.map (·.1) → L.filter (fun q => decide (¬ q.1 = n)) = L
  | [], _ => rfl
  | q :: L, h => by
    simp only [List.map_cons, List.mem_cons, not_or] at h
    have h1 : ¬ q.1 = n := fun e => h.1 e.symm
    rw [List.filter_cons_of_pos (by simpa using h1), filter_no h.2]
theorem setG_perm (n : κ) (b : ν) (c : Nat) : ∀ E : List (κ × ν × Nat), ((E.map prj).map (·.1)).Nodup → ((setG n b c E).map prj).Perm ((n, b) :: (E.map prj).filter fun q => decide (¬ q.1 = n))
  | [], _ => .refl _
  | q :: L, h => by
    simp only [List.map_cons, List.nodup_cons] at h
    have ih := setG_perm n b c L h.2
    simp only [setG]
    by_cases hn : n = q.1
    · subst hn
      rw [if_pos rfl, List.map_cons, List.map_cons, List.filter_cons_of_neg (by simp [prj])]; erw [filter_no h.1]
      exact .refl _
    · rw [if_neg hn, List.map_cons, List.map_cons, List.filter_cons_of_pos (by show decide (¬ (prj q).1 = n) = true; exact decide_eq_true fun e => hn (Eq.symm e))]
      exact (ih.cons _).trans (.swap _ _ _)
theorem delG_eq (n : κ) : ∀ E : List (κ × ν × Nat), ((E.map prj).map (·.1)).Nodup → (delG n E).map prj = (E.map prj).filter fun q => decide (¬ q.1 = n)
  | [], _ => rfl
  | q :: L, h => by
    simp only [List.map_cons, List.nodup_cons] at h
    have ih := delG_eq n L h.2
    simp only [delG]
    by_cases hn : n = q.1
    · subst hn
      rw [if_pos rfl, List.map_cons, List.filter_cons_of_neg (by simp [prj])]; exact (filter_no h.1).symm
    · rw [if_neg hn, List.map_cons, List.map_cons, List.filter_cons_of_pos (by show decide (¬ (prj q).1 = n) = true; exact decide_eq_true fun e => hn (Eq.symm e)), ih]
theorem lookG_mem {n : κ} {b : ν} : ∀ {L : List (κ × ν)}, (L.map (·.1)).Nodup → (lookG n L = some b ↔ (n, b) ∈ L)
  | [], _ => by simp [lookG]
  | q :: L, h => by
    simp only [List.map_cons, List.nodup_cons] at h
    have ih := lookG_mem (n := n) (b := b) h.2
    simp only [lookG]
    by_cases hn : n = q.1
    · subst hn
      rw [if_pos rfl]
      refine ⟨fun e => ?_, fun e => ?_⟩
      · simp only [Option.some.injEq] at e; subst e; exact List.mem_cons_self
      · rcases List.mem_cons.1 e with e | e
        · rw [← e]
        · exact absurd (List.mem_map_of_mem (f := (·.1)) e) h.1
    · rw [if_neg hn, ih]
      exact ⟨List.mem_cons_of_mem _, fun e => (List.mem_cons.1 e).resolve_left fun e => hn (by rw [← e])⟩
theorem lookG_perm {n : κ} {L L' : List (κ × ν)} (hp : L.Perm L') (h : (L.map (·.1)).Nodup) : lookG n L = lookG n L' := by
  have h' : (L'.map (·.1)).Nodup := (hp.map _).nodup_iff.1 h
  cases h1 : lookG n L with
  | some b => rw [eq_comm, lookG_mem h', ← hp.mem_iff, ← lookG_mem h]; exact h1
  | none =>
    cases h2 : lookG n L' with
    | none => rfl
    | some b => rw [lookG_mem h', ← hp.mem_iff, ← lookG_mem h, h1] at h2; cases h2
/-- The map's entries are the list's, in some order. -/
def MapG (ek : κ → AV) (ev : ν → AV) (es : List ME) (L : List (κ × ν)) : Prop := ∃ E : List (κ × ν × Nat), es = E.map (entG ek ev) ∧ (E.map prj).Perm L ∧ (L.map (·.1)).Nodup
omit [DecidableEq κ] in
theorem mapG_new : MapG ek ev [] ([] : List (κ × ν)) := ⟨[], rfl, .refl _, List.nodup_nil⟩
theorem mapG_val (he : EncOK ek) {es : List ME} {L : List (κ × ν)} (h : MapG ek ev es L) (n : κ) (z : AV) : valE (ek n) z es = optV ev z (lookG n L) := by
  obtain ⟨E, rfl, h2, h3⟩ := h
  rw [val_G he, lookG_perm h2 ((h2.map _).nodup_iff.2 h3)]
theorem mapG_has (he : EncOK ek) {es : List ME} {L : List (κ × ν)} (h : MapG ek ev es L) (n : κ) : hasE (ek n) es = (lookG n L).isSome := by
  obtain ⟨E, rfl, h2, h3⟩ := h
  rw [has_G he, lookG_perm h2 ((h2.map _).nodup_iff.2 h3)]
theorem mapG_set (he : EncOK ek) {es : List ME} {L L' : List (κ × ν)} (h : MapG ek ev es L) (n : κ) (b : ν) (c : Nat) (hp : L'.Perm ((n, b) :: L.filter fun q => decide (¬ q.1 = n))) : MapG ek ev (setE (ek n) (ev b) c es) L' := by
  obtain ⟨E, rfl, h2, h3⟩ := h
  have h4 := (h2.map (·.1)).nodup_iff.2 h3
  refine ⟨_, set_G he n b c E, ((setG_perm n b c E h4).trans ((h2.filter _).cons _)).trans hp.symm, ((hp.map (·.1)).nodup_iff).2 ?_⟩
  rw [List.map_cons, List.nodup_cons]
  refine ⟨fun hm => ?_, h3.sublist (List.filter_sublist.map _)⟩
  obtain ⟨q, h5, h6⟩ := List.mem_map.1 hm
  have := (List.mem_filter.1 h5).2
  simp only [decide_eq_true_eq] at this
  exact this h6
theorem mapG_del (he : EncOK ek) {es : List ME} {L L' : List (κ × ν)} (h : MapG ek ev es L) (n : κ) (hp : L'.Perm (L.filter fun q => decide (¬ q.1 = n))) : MapG ek ev (delE (ek n) es) L' := by
  obtain ⟨E, rfl, h2, h3⟩ := h
  have h4 := (h2.map (·.1)).nodup_iff.2 h3
  refine ⟨_, del_G he n E, ?_, ((hp.map (·.1)).nodup_iff).2 (h3.sublist (List.filter_sublist.map _))⟩
  rw [delG_eq n E h4]
  exact (h2.filter _).trans hp.symm
omit [DecidableEq κ] in
/-- What was seen of a map, when all was seen. -/
theorem seen_perm {es S : List ME} (hp : es.Pairwise fun e e' => e.born < e'.born) (hs : ∀ e ∈ S, e ∈ es) (hn : (S.map (·.born)).Nodup) (hall : ∀ e ∈ es, e.born ∈ S.map (·.born)) : S.Perm es := by
  have hne : es.Nodup := (hp.imp fun {a b} h => by intro e; subst e; exact Nat.lt_irrefl _ h)
  have hns : S.Nodup := by
    refine List.Pairwise.imp ?_ (List.pairwise_map.1 hn)
    intro a b h e; exact h (by rw [e])
  refine (List.perm_ext_iff_of_nodup hns hne).2 fun e => ⟨hs e, fun he => ?_⟩
  obtain ⟨e', h1, h2⟩ := List.mem_map.1 (hall e he)
  have h3 : e' = e := by
    apply Classical.byContradiction
    intro hne'
    have hinj : ∀ a ∈ es, ∀ b ∈ es, ¬ a = b → ¬ a.born = b.born := fun a ha b hb hab => by
      have h5 : es.Pairwise fun a b => ¬ a.born = b.born := hp.imp fun h => by omega
      obtain ⟨i, hi, rfl⟩ := List.mem_iff_getElem.1 ha
      obtain ⟨j, hj, rfl⟩ := List.mem_iff_getElem.1 hb
      rw [List.pairwise_iff_getElem] at h5
      rcases Nat.lt_trichotomy i j with h | h | h
      · exact h5 i j hi hj h
      · subst h; exact absurd rfl hab
      · exact fun e => h5 j i hj hi h (Eq.symm e)
    exact hinj e' (hs e' h1) e he hne' h2
  rwa [← h3]
omit [DecidableEq κ] in
theorem ents_of {ek : κ → AV} {ev : ν → AV} {E : List (κ × ν × Nat)} : ∀ {S : List ME}, (∀ e ∈ S, e ∈ E.map (entG ek ev)) → ∃ T : List (κ × ν × Nat), S = T.map (entG ek ev)
  | [], _ => ⟨[], rfl⟩
  | e :: S, h => by
    obtain ⟨T, rfl⟩ := ents_of (S := S) fun e' he' => h e' (List.mem_cons_of_mem _ he')
    obtain ⟨q, _, rfl⟩ := List.mem_map.1 (h e List.mem_cons_self)
    exact ⟨q :: T, rfl⟩
end

/-! ### lists in order -/
section
variable {κ ν : Type} [DecidableEq κ] (lt : κ → κ → Prop) [DecidableRel lt]
/-- A strict order in which any two stand. -/
structure Ord : Prop where
  irr : ∀ a, ¬ lt a a
  tr : ∀ a b c, lt a b → lt b c → lt a c
  tot : ∀ a b, ¬ lt a b → ¬ a = b → lt b a
def tipG (n : κ) : Option ν → List (κ × ν)
  | some b => [(n, b)]
  | none => []
/-- Put at its place; none: taken away. -/
def insG (n : κ) (o : Option ν) : List (κ × ν) → List (κ × ν)
  | [] => tipG n o
  | q :: L => if lt q.1 n then q :: insG n o L else tipG n o ++ (if q.1 = n then L else q :: L)
def SortG (L : List (κ × ν)) : Prop := L.Pairwise fun a b => lt a.1 b.1
variable {lt}
omit [DecidableEq κ] [DecidableRel lt] in
theorem SortG.nodup (ho : Ord lt) {L : List (κ × ν)} (h : SortG lt L) : (L.map (·.1)).Nodup := by
  rw [List.nodup_iff_pairwise_ne, List.pairwise_map]
  exact h.imp fun {a b} h (e : a.1 = b.1) => ho.irr a.1 (by rw [← e] at h; exact h)
theorem insG_filter (ho : Ord lt) (n : κ) (o : Option ν) : ∀ {L : List (κ × ν)}, SortG lt L → (insG lt n o L).Perm (tipG n o ++ L.filter fun q => decide (¬ q.1 = n))
  | [], _ => by simp [insG]
  | q :: L, h => by
    have h2 := List.pairwise_cons.1 h
    have ih := insG_filter ho n o (L := L) h2.2
    simp only [insG]
    by_cases hl : lt q.1 n
    · have hn : ¬ q.1 = n := fun e => ho.irr n (by rw [e] at hl; exact hl)
      rw [if_pos hl, List.filter_cons_of_pos (by simpa using hn)]
      exact (ih.cons _).trans List.perm_middle.symm
    · rw [if_neg hl]
      have hno : ∀ q' ∈ L, ¬ q'.1 = n := fun q' hq e => by
        have := h2.1 q' hq
        rw [e] at this; exact hl this
      have hf : L.filter (fun q => decide (¬ q.1 = n)) = L := filter_no fun hm => by
        obtain ⟨q', h3, h4⟩ := List.mem_map.1 hm
        exact hno q' h3 h4
      by_cases hn : q.1 = n
      · rw [if_pos hn, List.filter_cons_of_neg (by simpa using hn), hf]
      · rw [if_neg hn, List.filter_cons_of_pos (by simpa using hn), hf]
theorem insG_mem {n : κ} {o : Option ν} {x : κ × ν} : ∀ {L : List (κ × ν)}, x ∈ insG lt n o L → x ∈ tipG n o ∨ x ∈ L
  | [], h => .inl h
  | q :: L, h => by
    simp only [insG] at h
    split at h
    · rcases List.mem_cons.1 h with rfl | h
      · exact .inr List.mem_cons_self
      · exact (insG_mem h).imp id (List.mem_cons_of_mem _)
    · rcases List.mem_append.1 h with h | h
      · exact .inl h
      · split at h
        · exact .inr (List.mem_cons_of_mem _ h)
        · exact .inr h
omit [DecidableEq κ] [DecidableRel lt] in
theorem tipG_mem {n : κ} {o : Option ν} {x : κ × ν} (h : x ∈ tipG n o) : x.1 = n ∧ o = some x.2 := by
  cases o with
  | none => cases h
  | some b => simp only [tipG, List.mem_singleton] at h; subst h; exact ⟨rfl, rfl⟩
theorem insG_sort (ho : Ord lt) (n : κ) (o : Option ν) : ∀ {L : List (κ × ν)}, SortG lt L → SortG lt (insG lt n o L)
  | [], _ => by cases o <;> simp [insG, tipG, SortG]
  | q :: L, h => by
    have h2 := List.pairwise_cons.1 h
    have ih := insG_sort ho n o (L := L) h2.2
    simp only [insG]
    by_cases hl : lt q.1 n
    · rw [if_pos hl]
      refine List.pairwise_cons.2 ⟨fun x hx => ?_, ih⟩
      rcases insG_mem hx with hx | hx
      · rw [(tipG_mem hx).1]; exact hl
      · exact h2.1 x hx
    · rw [if_neg hl]
      refine List.pairwise_append.2 ⟨by cases o <;> simp [tipG], ?_, fun x hx y hy => ?_⟩
      · split
        · exact h2.2
        · exact h
      · rw [(tipG_mem hx).1]
        by_cases hn : q.1 = n
        · rw [if_pos hn] at hy; rw [← hn]; exact h2.1 y hy
        · rw [if_neg hn] at hy
          have hq := ho.tot q.1 n hl hn
          rcases List.mem_cons.1 hy with rfl | hy
          · exact hq
          · exact ho.tr _ _ _ hq (h2.1 y hy)
omit [DecidableEq κ] [DecidableRel lt] in
theorem sortG_one (ho : Ord lt) {L L' : List (κ × ν)} (hp : L.Perm L') (h1 : SortG lt L) (h2 : SortG lt L') : L = L' :=
  List.Perm.eq_of_pairwise (le := fun a b : κ × ν => lt a.1 b.1) (fun a b _ _ h3 h4 => absurd (ho.tr _ _ _ h3 h4) (ho.irr _)) h1 h2 hp
theorem lookG_ins (ho : Ord lt) (n n' : κ) (o : Option ν) {L : List (κ × ν)} (h : SortG lt L) : lookG n' (insG lt n o L) = if n' = n then o else lookG n' L := by
  have h1 := insG_sort ho n o h
  have hp := insG_filter ho n o h
  have hnd := h1.nodup ho
  rw [lookG_perm hp hnd]
  have hf : ∀ {L : List (κ × ν)}, lookG n' (L.filter fun q => decide (¬ q.1 = n)) = if n' = n then none else lookG n' L := by
    intro L
    induction L with
    | nil => simp [lookG]
    | cons q L ih =>
      by_cases hn : q.1 = n
      · rw [List.filter_cons_of_neg (by simpa using hn), ih, lookG]
        by_cases h' : n' = n
        · simp [h']
        · have : ¬ n' = q.1 := fun e => h' (e.trans hn)
          simp [h', this]
      · rw [List.filter_cons_of_pos (by simpa using hn), lookG, lookG, ih]
        by_cases h' : n' = n
        · subst h'
          have : ¬ n' = q.1 := fun e => hn (Eq.symm e)
          simp [this]
        · simp [h']
  cases o with
  | none => simp only [tipG, List.nil_append, hf]
  | some b =>
    simp only [tipG, List.cons_append, List.nil_append, lookG, hf]
    by_cases h' : n' = n <;> simp [h']
end
end Go.Ab
