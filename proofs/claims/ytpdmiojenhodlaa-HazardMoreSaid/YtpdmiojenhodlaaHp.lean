/- The plain law of hazards: what the program notes and what the document lists are the same hazards; in order they are one list. -/
import Derived.Test.YtpdmiojenhodlaaH14
set_option linter.unusedVariables false
set_option linter.unusedSimpArgs false
namespace Go.Proofs.Ytpdmiojenhodlaa
open Go Go.Ab
open Go.Proofs (ltOf)
set_option maxRecDepth 20000
theorem mem_putF (x h : Hz) : ∀ l, x ∈ putF l h ↔ x = h ∨ x ∈ l
  | [] => by simp [putF]
  | y :: l => by
    simp only [putF]
    split
    · rw [List.mem_cons, mem_putF x h l, List.mem_cons]
      exact ⟨fun h => by rcases h with h | h | h <;> simp [h], fun h => by rcases h with h | h | h <;> simp [h]⟩
    · split
      · rename_i e; subst e
        exact ⟨fun h => .inr h, fun h => by rcases h with h | h <;> simp_all⟩
      · simp
theorem cmpI_lt (a b : Int) : cmpI a b < 0 ↔ a < b := by simp only [cmpI]; (repeat' split) <;> omega
theorem ahead_lt (a b : Hz) : aheadF a b = true ↔ orderF a b < 0 := by
  rw [order_lex]
  simp only [lexC]
  obtain ⟨p, n, f, s, l⟩ := a
  obtain ⟨p', n', f', s', l'⟩ := b
  simp only [aheadF, cmpI_eq, cmpS_eq, Int.ofNat_inj]
  by_cases e1 : f = f'
  · by_cases e2 : s = s'
    · by_cases e3 : p = p'
      · cases n <;> cases n' <;> cases l <;> cases l' <;> simp [e1, e2, e3, b2i, cmpI]
      · simp [e1, e2, e3, cmpS_lt]
    · simp [e1, e2, cmpI_lt, Int.ofNat_lt]
  · simp [e1, cmpI_lt, Int.ofNat_lt]
def Sor (l : List Hz) : Prop := l.Pairwise fun x y => orderF x y < 0
theorem order_tot (x y : Hz) (h : ¬ orderF x y < 0) (hn : ¬ x = y) : orderF y x < 0 := by
  have := order_cmp.sym y x; have h0 := order_eq x y
  have : ¬ orderF x y = 0 := fun e => hn (h0.1 e)
  omega
theorem putF_sor (h : Hz) : ∀ l, Sor l → Sor (putF l h)
  | [], _ => by simp [putF, Sor]
  | y :: l, hs => by
    have hs' := List.pairwise_cons.1 hs
    simp only [putF]
    split
    · rename_i e
      rw [ahead_lt] at e
      refine List.pairwise_cons.2 ⟨fun z hz => ?_, putF_sor h l hs'.2⟩
      rcases (mem_putF z h l).1 hz with rfl | hz
      · exact e
      · exact hs'.1 z hz
    · rename_i e
      rw [ahead_lt] at e
      split
      · exact hs
      · rename_i hn
        have h1 := order_tot y h e hn
        refine List.pairwise_cons.2 ⟨fun z hz => ?_, hs⟩
        rcases List.mem_cons.1 hz with rfl | hz
        · exact h1
        · exact order_cmp.t1 h y z h1 (by have := hs'.1 z hz; omega)
theorem fold_sor {α : Type} (f : List Hz → α → List Hz) (hf : ∀ O a, Sor O → Sor (f O a)) : ∀ (l : List α) (O : List Hz), Sor O → Sor (l.foldl f O)
  | [], _, h => h
  | a :: l, O, h => fold_sor f hf l _ (hf O a h)
theorem refF_sor (l : List Stp) : Sor (refF l) := by
  refine fold_sor _ (fun O i hO => ?_) _ _ (List.Pairwise.nil)
  refine fold_sor _ (fun O k hO => ?_) _ _ hO
  refine fold_sor _ (fun O w hO => ?_) _ _ hO
  have h1 : Sor ((l.getD i default).reads.foldl (refRead i k w) O) := fold_sor (refRead i k w) (fun O r hO => by unfold refRead; split <;> first | exact putF_sor _ _ hO | exact hO) _ _ hO
  simp only [refOne]
  split
  · exact fold_sor (refWrite i k w) (fun O r hO => by unfold refWrite; split <;> first | exact putF_sor _ _ hO | exact hO) _ _ h1
  · exact h1
theorem mem_fold {α : Type} (f : List Hz → α → List Hz) (x : Hz) (Pr : α → Prop) (hf : ∀ O a, x ∈ f O a ↔ Pr a ∨ x ∈ O) : ∀ (l : List α) (O : List Hz), x ∈ l.foldl f O ↔ (∃ a ∈ l, Pr a) ∨ x ∈ O
  | [], O => by simp
  | a :: l, O => by
    rw [List.foldl_cons, mem_fold f x Pr hf l, hf]
    simp only [List.mem_cons, exists_eq_or_imp, or_assoc]
    exact ⟨fun h => by rcases h with h | h | h <;> simp [h], fun h => by rcases h with h | h | h <;> simp [h]⟩
/-- What makes a hazard. -/
def Hit (l : List Stp) (i k : Nat) (w : Tch) (h : Hz) : Prop :=
  (∃ r ∈ (l.getD i default).reads, ((!r.names && decide (r.path = w.path)) || (r.names && decide (r.path = aboveF w.path))) = true ∧ h = ⟨r.path, r.names, i, k, true⟩) ∨
    (i < k ∧ ∃ v ∈ (l.getD i default).writes, v.path = w.path ∧ h = ⟨w.path, false, i, k, false⟩)
theorem mem_refF (l : List Stp) (h : Hz) : h ∈ refF l ↔ ∃ i k, i ≤ k ∧ k < l.length ∧ ∃ w ∈ (l.getD k default).writes, Hit l i k w h := by
  have h1 : ∀ i k w O, h ∈ refOne i k (l.getD i default) O w ↔ Hit l i k w h ∨ h ∈ O := by
    intro i k w O
    have hr := mem_fold (refRead i k w) h (fun r => ((!r.names && decide (r.path = w.path)) || (r.names && decide (r.path = aboveF w.path))) = true ∧ h = ⟨r.path, r.names, i, k, true⟩) (fun O r => by
      unfold refRead; split
      · rename_i e; rw [mem_putF]; exact ⟨fun h => h.imp (fun h => ⟨e, h⟩) id, fun h => h.imp (fun h => h.2) id⟩
      · rename_i e; exact ⟨.inr, fun h => h.resolve_left fun h => e h.1⟩) (l.getD i default).reads O
    have hw := fun O => mem_fold (refWrite i k w) h (fun v => v.path = w.path ∧ h = ⟨w.path, false, i, k, false⟩) (fun O r => by
      unfold refWrite; split
      · rename_i e; rw [mem_putF]; exact ⟨fun h => h.imp (fun h => ⟨e, h⟩) id, fun h => h.imp (fun h => h.2) id⟩
      · rename_i e; exact ⟨.inr, fun h => h.resolve_left fun h => e h.1⟩) (l.getD i default).writes O
    simp only [refOne]
    split
    · rename_i e
      rw [hw, hr]
      unfold Hit
      constructor
      · rintro (h | h | h)
        · exact .inl (.inr ⟨e, h⟩)
        · exact .inl (.inl h)
        · exact .inr h
      · rintro ((h | h) | h)
        · exact .inr (.inl h)
        · exact .inl h.2
        · exact .inr (.inr h)
    · rename_i e
      rw [hr]
      unfold Hit
      exact ⟨fun h => h.imp .inl id, fun h => h.imp (fun h => h.resolve_right fun h => e h.1) id⟩
  have h2 : ∀ i k O, h ∈ refTwo l i O k ↔ (∃ w ∈ (l.getD k default).writes, Hit l i k w h) ∨ h ∈ O := fun i k O => mem_fold _ h (fun w => Hit l i k w h) (fun O w => h1 i k w O) _ O
  have h3 : ∀ i O, h ∈ refRow l O i ↔ (∃ k ∈ List.range' i (l.length - i), ∃ w ∈ (l.getD k default).writes, Hit l i k w h) ∨ h ∈ O := fun i O => mem_fold _ h (fun k => ∃ w ∈ (l.getD k default).writes, Hit l i k w h) (fun O k => h2 i k O) _ O
  have h4 := mem_fold (refRow l) h (fun i => ∃ k ∈ List.range' i (l.length - i), ∃ w ∈ (l.getD k default).writes, Hit l i k w h) (fun O i => h3 i O) (List.range' 0 l.length) []
  unfold refF
  rw [h4]
  constructor
  · rintro (⟨i, hi, k, hk, w, hw, hh⟩ | h)
    · rw [List.mem_range'_1] at hi hk
      exact ⟨i, k, hk.1, by omega, w, hw, hh⟩
    · cases h
  · rintro ⟨i, k, h1, h2, w, hw, hh⟩
    exact .inl ⟨i, List.mem_range'_1.2 (by omega), k, List.mem_range'_1.2 (by omega), w, hw, hh⟩
/-! what the program notes -/
def snF : Nat → List Stp → Sn → Sn
  | _, [], s => s
  | k, x :: l, s => snF (k + 1) l (takeF s x k)
def hzO (l : List Stp) : List Hz := (snF 0 l ⟨[], [], []⟩).o
theorem mem_rowAdd (f g : Fct) (k j : Nat) : ∀ R, j ∈ rowGet f (rowAdd g k R) ↔ (f = g ∧ j = k) ∨ j ∈ rowGet f R
  | [] => by
    simp only [rowAdd, rowGet]
    by_cases e : f = g <;> simp [e]
  | q :: R => by
    have ih := mem_rowAdd f g k j R
    simp only [rowAdd]
    by_cases e : g = q.1
    · rw [if_pos e]
      simp only [rowGet]
      by_cases e2 : f = q.1
      · rw [if_pos e2, if_pos e2, List.mem_append, List.mem_singleton]
        exact ⟨fun h => h.elim .inr fun h => .inl ⟨e2.trans e.symm, h⟩, fun h => h.elim (fun h => .inr h.2) .inl⟩
      · rw [if_neg e2, if_neg e2]
        exact ⟨.inr, fun h => h.resolve_left fun h => e2 (h.1.trans e)⟩
    · rw [if_neg e]
      simp only [rowGet]
      by_cases e2 : f = q.1
      · rw [if_pos e2, if_pos e2]
        exact ⟨.inr, fun h => h.resolve_left fun h => e (h.1.symm.trans e2)⟩
      · rw [if_neg e2, if_neg e2]; exact ih
theorem mem_rowsAdd {α : Type} (f : Fct) (g : α → Fct) (k j : Nat) : ∀ (l : List α) R, j ∈ rowGet f (l.foldl (fun r t => rowAdd (g t) k r) R) ↔ (j = k ∧ ∃ t ∈ l, f = g t) ∨ j ∈ rowGet f R
  | [], R => by simp
  | t :: l, R => by
    rw [List.foldl_cons, mem_rowsAdd f g k j l, mem_rowAdd]
    simp only [List.mem_cons, exists_eq_or_imp]
    exact ⟨fun h => by rcases h with ⟨h, h'⟩ | ⟨h, h'⟩ | h <;> simp [*], fun h => by rcases h with ⟨h, h' | h'⟩ | h <;> simp [*]⟩
theorem mem_outAdd (O : List Hz) (h x : Hz) : x ∈ outAdd O h ↔ x = h ∨ x ∈ O := by
  unfold outAdd; split
  · rename_i e; exact ⟨.inr, fun h' => h'.elim (fun e' => e' ▸ e) id⟩
  · rw [List.mem_append, List.mem_singleton]; exact Or.comm
theorem mem_noteF (R W : List (Fct × List Nat)) (f : Fct) (k : Nat) (O : List Hz) (x : Hz) : x ∈ noteF R W f k O ↔ (∃ i ∈ rowGet f W, x = ⟨f.path, false, i, k, false⟩) ∨ (∃ i ∈ rowGet f R, x = ⟨f.path, f.names, i, k, true⟩) ∨ x ∈ O := by
  unfold noteF
  rw [mem_fold _ x (fun i => x = ⟨f.path, false, i, k, false⟩) (fun O i => mem_outAdd _ _ _), mem_fold _ x (fun i => x = ⟨f.path, f.names, i, k, true⟩) (fun O i => mem_outAdd _ _ _)]
structure SnInv (l : List Stp) (k : Nat) (s : Sn) : Prop where
  r : ∀ f j, j ∈ rowGet f s.r ↔ j < k ∧ ∃ t ∈ (l.getD j default).reads, f = ⟨t.path, t.names⟩
  w : ∀ f j, j ∈ rowGet f s.w ↔ j < k ∧ ∃ t ∈ (l.getD j default).writes, f = ⟨t.path, false⟩
  o : ∀ h, h ∈ s.o ↔ ∃ i k', i ≤ k' ∧ k' < k ∧ ∃ w ∈ (l.getD k' default).writes, Hit l i k' w h
theorem SnInv.take {l : List Stp} {k : Nat} {s : Sn} (h : SnInv l k s) : SnInv l (k + 1) (takeF s (l.getD k default) k) := by
  have hr : ∀ f j, j ∈ rowGet f (takeF s (l.getD k default) k).r ↔ j < k + 1 ∧ ∃ t ∈ (l.getD j default).reads, f = ⟨t.path, t.names⟩ := by
    intro f j
    show j ∈ rowGet f ((l.getD k default).reads.foldl (fun r t => rowAdd ⟨t.path, t.names⟩ k r) s.r) ↔ _
    rw [mem_rowsAdd f (fun t : Tch => ⟨t.path, t.names⟩), h.r]
    constructor
    · rintro (⟨rfl, hh⟩ | ⟨h1, hh⟩)
      · exact ⟨by omega, hh⟩
      · exact ⟨by omega, hh⟩
    · rintro ⟨h1, hh⟩
      by_cases e : j = k
      · subst e; exact .inl ⟨rfl, hh⟩
      · exact .inr ⟨by omega, hh⟩
  refine ⟨hr, fun f j => ?_, fun x => ?_⟩
  · show j ∈ rowGet f ((l.getD k default).writes.foldl (fun w t => rowAdd ⟨t.path, false⟩ k w) s.w) ↔ _
    rw [mem_rowsAdd f (fun t : Tch => ⟨t.path, false⟩), h.w]
    constructor
    · rintro (⟨rfl, hh⟩ | ⟨h1, hh⟩)
      · exact ⟨by omega, hh⟩
      · exact ⟨by omega, hh⟩
    · rintro ⟨h1, hh⟩
      by_cases e : j = k
      · subst e; exact .inl ⟨rfl, hh⟩
      · exact .inr ⟨by omega, hh⟩
  · generalize hR : (takeF s (l.getD k default) k).r = R at hr
    have e : (takeF s (l.getD k default) k).o = (l.getD k default).writes.foldl (fun o t => noteF R s.w ⟨aboveF t.path, true⟩ k (noteF R s.w ⟨t.path, false⟩ k o)) s.o := by rw [← hR]; rfl
    rw [e]
    have key : ∀ O (t : Tch), x ∈ noteF R s.w ⟨aboveF t.path, true⟩ k (noteF R s.w ⟨t.path, false⟩ k O) ↔ (∃ i, i ≤ k ∧ Hit l i k t x) ∨ x ∈ O := by
      intro O t
      rw [mem_noteF, mem_noteF]
      constructor
      · rintro (⟨i, hi, hx⟩ | ⟨i, hi, hx⟩ | ⟨i, hi, hx⟩ | ⟨i, hi, hx⟩ | hx)
        · rw [h.w] at hi
          obtain ⟨_, t', _, e'⟩ := hi
          simp at e'
        · rw [hr] at hi
          obtain ⟨h1, t', h2, e'⟩ := hi
          simp only [Fct.mk.injEq] at e'
          refine .inl ⟨i, by omega, .inl ⟨t', h2, ?_, ?_⟩⟩
          · simp [← e'.1, ← e'.2]
          · rw [hx, ← e'.1, ← e'.2]
        · rw [h.w] at hi
          obtain ⟨h1, t', h2, e'⟩ := hi
          simp only [Fct.mk.injEq, and_true] at e'
          exact .inl ⟨i, by omega, .inr ⟨h1, t', h2, e'.symm, hx⟩⟩
        · rw [hr] at hi
          obtain ⟨h1, t', h2, e'⟩ := hi
          simp only [Fct.mk.injEq] at e'
          refine .inl ⟨i, by omega, .inl ⟨t', h2, ?_, ?_⟩⟩
          · simp [← e'.1, ← e'.2]
          · rw [hx, ← e'.1, ← e'.2]
        · exact .inr hx
      · rintro (⟨i, hi, ⟨r, h2, hc, hx⟩ | ⟨h1, v, h2, e', hx⟩⟩ | hx)
        · simp only [Bool.or_eq_true, Bool.and_eq_true, Bool.not_eq_true', decide_eq_true_eq] at hc
          rcases hc with ⟨hn, hp⟩ | ⟨hn, hp⟩
          · refine .inr (.inr (.inr (.inl ⟨i, (hr _ _).2 ⟨by omega, r, h2, ?_⟩, ?_⟩)))
            · rw [hn, hp]
            · rw [hx, hn, hp]
          · refine .inr (.inl ⟨i, (hr _ _).2 ⟨by omega, r, h2, ?_⟩, ?_⟩)
            · rw [hn, hp]
            · rw [hx, hn, hp]
        · exact .inr (.inr (.inl ⟨i, (h.w _ _).2 ⟨h1, v, h2, by rw [e']⟩, hx⟩))
        · exact .inr (.inr (.inr (.inr hx)))
    rw [mem_fold _ x (fun t => ∃ i, i ≤ k ∧ Hit l i k t x) key, h.o]
    constructor
    · rintro (⟨t, ht, i, hi, hh⟩ | ⟨i, k', h1, h2, w, hw, hh⟩)
      · exact ⟨i, k, hi, by omega, t, ht, hh⟩
      · exact ⟨i, k', h1, by omega, w, hw, hh⟩
    · rintro ⟨i, k', h1, h2, w, hw, hh⟩
      by_cases e : k' = k
      · subst e; exact .inl ⟨w, hw, i, h1, hh⟩
      · exact .inr ⟨i, k', h1, by omega, w, hw, hh⟩
theorem snF_drop {l : List Stp} {i : Nat} (h : i < l.length) (s : Sn) : snF i (l.drop i) s = snF (i + 1) (l.drop (i + 1)) (takeF s (l.getD i default) i) := by
  rw [List.drop_eq_getElem_cons h, snF]
  simp [List.getD_eq_getElem?_getD, List.getElem?_eq_getElem h]
theorem snF_inv {l : List Stp} : ∀ (d i : Nat) (s : Sn), l.length - i = d → i ≤ l.length → SnInv l i s → SnInv l l.length (snF i (l.drop i) s)
  | 0, i, s, hd, hi, h => by
    obtain rfl : i = l.length := by omega
    rw [List.drop_length]; exact h
  | d + 1, i, s, hd, hi, h => by
    rw [snF_drop (by omega)]
    exact snF_inv d (i + 1) _ (by omega) (by omega) h.take
theorem mem_hzO (l : List Stp) (h : Hz) : h ∈ hzO l ↔ h ∈ refF l := by
  have h0 : SnInv l 0 ⟨[], [], []⟩ := ⟨fun f j => by simp [rowGet], fun f j => by simp [rowGet], fun h => by simp⟩
  have := (snF_inv (l := l) l.length 0 _ rfl (Nat.zero_le _) h0).o h
  rw [mem_refF]; exact this
theorem outAdd_nodup {O : List Hz} (h : Hz) (hO : O.Nodup) : (outAdd O h).Nodup := by
  unfold outAdd; split
  · exact hO
  · rename_i e
    refine List.nodup_append.2 ⟨hO, by simp, fun a ha b hb => ?_⟩
    simp only [List.mem_singleton] at hb
    subst hb
    exact fun e' => e (e' ▸ ha)
theorem fold_nodup {α : Type} (f : List Hz → α → List Hz) (hf : ∀ O a, O.Nodup → (f O a).Nodup) : ∀ (l : List α) (O : List Hz), O.Nodup → (l.foldl f O).Nodup
  | [], _, h => h
  | a :: l, O, h => fold_nodup f hf l _ (hf O a h)
theorem noteF_nodup (R W : List (Fct × List Nat)) (f : Fct) (k : Nat) {O : List Hz} (hO : O.Nodup) : (noteF R W f k O).Nodup :=
  fold_nodup _ (fun _ _ h => outAdd_nodup _ h) _ _ (fold_nodup _ (fun _ _ h => outAdd_nodup _ h) _ _ hO)
theorem snF_nodup : ∀ (l : List Stp) (k : Nat) (s : Sn), s.o.Nodup → (snF k l s).o.Nodup
  | [], _, _, h => h
  | x :: l, k, s, h => snF_nodup l (k + 1) _ (fold_nodup _ (fun _ _ h => noteF_nodup _ _ _ _ (noteF_nodup _ _ _ _ h)) _ _ h)
theorem hzO_nodup (l : List Stp) : (hzO l).Nodup := snF_nodup l 0 _ (by simp)
theorem Sor.nodup {l : List Hz} (h : Sor l) : l.Nodup := h.imp fun {x y} h e => by
  subst e; have := order_cmp.refl x; omega
theorem ext_sor : ∀ {a b : List Hz}, Sor a → Sor b → (∀ x, x ∈ a ↔ x ∈ b) → a = b
  | [], [], _, _, _ => rfl
  | [], y :: b, _, _, h => by have := (h y).2 (by simp); cases this
  | x :: a, [], _, _, h => by have := (h x).1 (by simp); cases this
  | x :: a, y :: b, ha, hb, h => by
    have ha' := List.pairwise_cons.1 ha
    have hb' := List.pairwise_cons.1 hb
    have hlt : ∀ u v, orderF u v < 0 → orderF v u < 0 → False := fun u v h1 h2 => by
      have := order_cmp.sym u v; omega
    have hxy : x = y := by
      rcases List.mem_cons.1 ((h x).1 (by simp)) with e | hx
      · exact e
      · rcases List.mem_cons.1 ((h y).2 (by simp)) with e | hy
        · exact e.symm
        · exact (hlt x y (ha'.1 y hy) (hb'.1 x hx)).elim
    subst hxy
    have hnx : ∀ z, orderF x z < 0 → ¬ z = x := fun z hz e => by
      subst e; have := order_cmp.refl z; omega
    rw [ext_sor ha'.2 hb'.2 fun z => ?_]
    constructor
    · intro hz
      rcases List.mem_cons.1 ((h z).1 (List.mem_cons_of_mem _ hz)) with e | hz'
      · exact (hnx z (ha'.1 z hz) e).elim
      · exact hz'
    · intro hz
      rcases List.mem_cons.1 ((h z).2 (List.mem_cons_of_mem _ hz)) with e | hz'
      · exact (hnx z (hb'.1 z hz) e).elim
      · exact hz'
theorem sorted_is (l : List Stp) (l' : List Hz) (hp : l'.Perm (hzO l)) (hs : l'.Pairwise (fun x y => ltOf orderF y x = false)) : l' = refF l := by
  have hnd : l'.Nodup := hp.nodup_iff.2 (hzO_nodup l)
  refine ext_sor ?_ (refF_sor l) fun x => by rw [hp.mem_iff, mem_hzO]
  have h2 : l'.Pairwise (fun x y => ltOf orderF y x = false ∧ x ≠ y) := by
    have := List.Pairwise.and hs hnd
    exact this
  refine h2.imp fun {x y} h => ?_
  have h1 := h.1
  simp only [ltOf, decide_eq_false_iff_not] at h1
  have := order_cmp.sym y x
  have hne : ¬ orderF x y = 0 := fun e => h.2 ((order_eq x y).1 e)
  have := order_cmp.sym x y
  omega
end Go.Proofs.Ytpdmiojenhodlaa
