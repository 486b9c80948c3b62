/- Laws of hazards without the document's answer, on plain lists. -/
import Derived.Test.YtpdmiojenhodlaaHp
set_option linter.unusedVariables false
set_option linter.unusedSimpArgs false
namespace Go.Proofs.Ytpdmiojenhodlaa
open Go Go.Ab
set_option maxRecDepth 20000
/-! steps by numbers are small -/
theorem tch_path (b : UInt8) (n : Bool) : (tchF b n).path.length ≤ 4 := by
  unfold tchF
  generalize hk : b.toNat % 8 = k
  have : k < 8 := by omega
  show (pls.getD k []).length ≤ 4
  match k, this with
  | 0, _ | 1, _ | 2, _ | 3, _ | 4, _ | 5, _ | 6, _ | 7, _ => decide
theorem touches_len (l : Str) (n : Bool) : (touchesF l n).length ≤ 6 := by
  unfold touchesF; rw [List.length_map, List.length_take]; omega
theorem touches_path (l : Str) (n : Bool) : ∀ t ∈ touchesF l n, t.path.length ≤ 4 := by
  intro t ht
  obtain ⟨b, _, rfl⟩ := List.mem_map.1 ht
  exact tch_path b n
def Tiny (l : List Stp) : Prop := l.length ≤ 9 ∧ ∀ s ∈ l, s.reads.length ≤ 6 ∧ s.writes.length ≤ 6 ∧ (∀ t ∈ s.reads, t.path.length ≤ 4) ∧ ∀ t ∈ s.writes, t.path.length ≤ 4
theorem made_tiny (l : List Bt) : Tiny (madeF l) ∧ (madeF l).length ≤ 8 := by
  have h : (madeF l).length ≤ 8 := by unfold madeF; rw [List.length_map, List.length_take]; omega
  refine ⟨⟨by omega, fun s hs => ?_⟩, h⟩
  obtain ⟨b, _, rfl⟩ := List.mem_map.1 hs
  exact ⟨touches_len _ _, touches_len _ _, touches_path _ _, touches_path _ _⟩
theorem Tiny.small {l : List Stp} (h : Tiny l) : Small300 l := ⟨by have := h.1; omega, fun s hs => by
  obtain ⟨h1, h2, h3, h4⟩ := h.2 s hs
  exact ⟨by omega, by omega, fun t ht => by have := h3 t ht; omega, fun t ht => by have := h4 t ht; omega⟩⟩
/-! steps behind others -/
theorem hit_order {l : List Stp} {h : Hz} (hh : h ∈ refF l) : h.first < h.second ∨ (h.first = h.second ∧ h.late = true) := by
  obtain ⟨i, k, h1, h2, w, hw, hit⟩ := (mem_refF l h).1 hh
  rcases hit with ⟨r, _, _, rfl⟩ | ⟨h3, v, _, _, rfl⟩
  · rcases Nat.lt_or_eq_of_le h1 with h | h
    · exact .inl h
    · exact .inr ⟨h, rfl⟩
  · exact .inl h3
theorem getD_app {l m : List Stp} {i : Nat} (h : i < l.length) : (l ++ m).getD i default = l.getD i default := by
  simp [List.getD_eq_getElem?_getD, List.getElem?_append_left h]
theorem refF_more (l m : List Stp) : (refF (l ++ m)).filter (fun h => decide (h.second < l.length)) = refF l := by
  refine ext_sor ((refF_sor _).filter _) (refF_sor l) fun h => ?_
  rw [List.mem_filter, mem_refF, mem_refF, decide_eq_true_eq]
  constructor
  · rintro ⟨⟨i, k, h1, h2, w, hw, hit⟩, hs⟩
    have hk : k < l.length := by
      rcases hit with ⟨_, _, _, rfl⟩ | ⟨_, _, _, _, rfl⟩ <;> exact hs
    rw [getD_app hk] at hw
    unfold Hit at hit
    rw [getD_app (show i < l.length by omega)] at hit
    exact ⟨i, k, h1, hk, w, hw, hit⟩
  · rintro ⟨i, k, h1, h2, w, hw, hit⟩
    refine ⟨⟨i, k, h1, by rw [List.length_append]; omega, w, by rw [getD_app h2]; exact hw, ?_⟩, ?_⟩
    · unfold Hit
      rw [getD_app (show i < l.length by omega)]
      exact hit
    · rcases hit with ⟨_, _, _, rfl⟩ | ⟨_, _, _, _, rfl⟩ <;> exact h2
theorem refF_quiet (l : List Stp) : refF (l.map fun s => ⟨s.reads, []⟩) = [] := by
  refine List.eq_nil_iff_forall_not_mem.2 fun h hh => ?_
  obtain ⟨i, k, h1, h2, w, hw, _⟩ := (mem_refF _ h).1 hh
  rw [List.length_map] at h2
  simp [List.getD_eq_getElem?_getD, List.getElem?_map, List.getElem?_eq_getElem h2] at hw
/-! steps that touch the same -/
theorem lastN_none (s : Str) : ∀ n, (∀ j, j < n → s.getD j 0 ≠ 47) → lastN s 47 n = -1
  | 0, _ => rfl
  | n + 1, h => by
    rw [lastN, if_neg (h n (Nat.lt_succ_self _))]
    exact lastN_none s n fun j hj => h j (Nat.lt_succ_of_lt hj)
theorem lastN_at (s : Str) {m : Nat} (hm : s.getD m 0 = 47) : ∀ n, m < n → (∀ j, m < j → j < n → s.getD j 0 ≠ 47) → lastN s 47 n = m
  | 0, h, _ => by omega
  | n + 1, h, hh => by
    rw [lastN]
    by_cases e : n = m
    · subst e; rw [if_pos hm]
    · rw [if_neg (hh n (by omega) (Nat.lt_succ_self _))]
      exact lastN_at s hm n (by omega) fun j h1 h2 => hh j h1 (by omega)
theorem has47 (s : Str) : s.contains 47 = false ↔ ∀ j, j < s.length → s.getD j 0 ≠ 47 := by
  rw [Bool.eq_false_iff, Ne, List.contains_iff_mem]
  constructor
  · intro h j hj e
    rw [List.getD_eq_getElem?_getD, List.getElem?_eq_getElem hj] at e
    exact h (by simp at e; rw [← e]; exact List.getElem_mem hj)
  · intro h hm
    obtain ⟨j, hj, e⟩ := List.getElem_of_mem hm
    exact h j hj (by rw [List.getD_eq_getElem?_getD, List.getElem?_eq_getElem hj]; simpa using e)
theorem last_cases (s : Str) : (s.contains 47 = false ∧ lastI s 47 = -1) ∨ ∃ m, m < s.length ∧ s.getD m 0 = 47 ∧ (∀ j, m < j → j < s.length → s.getD j 0 ≠ 47) ∧ lastI s 47 = m := by
  have key : ∀ n, n ≤ s.length → (∀ j, j < n → s.getD j 0 ≠ 47) ∨ ∃ m, m < n ∧ s.getD m 0 = 47 ∧ ∀ j, m < j → j < n → s.getD j 0 ≠ 47 := by
    intro n
    induction n with
    | zero => exact fun _ => .inl fun j hj => absurd hj (Nat.not_lt_zero _)
    | succ n ih =>
      intro hn
      by_cases e : s.getD n 0 = 47
      · exact .inr ⟨n, Nat.lt_succ_self _, e, fun j h1 h2 => by omega⟩
      · rcases ih (by omega) with h | ⟨m, h1, h2, h3⟩
        · exact .inl fun j hj => by
            by_cases e2 : j = n
            · subst e2; exact e
            · exact h j (by omega)
        · exact .inr ⟨m, by omega, h2, fun j k1 k2 => by
            by_cases e2 : j = n
            · subst e2; exact e
            · exact h3 j k1 (by omega)⟩
  rcases key s.length (Nat.le_refl _) with h | ⟨m, h1, h2, h3⟩
  · exact .inl ⟨(has47 s).2 h, lastN_none s _ h⟩
  · exact .inr ⟨m, h1, h2, h3, lastN_at s h2 _ h1 h3⟩
theorem hit_iff (r : Tch) (p : Str) : hitF r p = ((!r.names && decide (r.path = p)) || (r.names && decide (r.path = aboveF p))) := by
  obtain ⟨rp, rn, rv⟩ := r
  cases rn with
  | false => simp [hitF]
  | true =>
    have ha : aboveF p = p.take (lastI p 47).toNat := rfl
    simp only [hitF, Bool.not_true, Bool.false_and, Bool.false_or, Bool.true_and]
    rw [Bool.eq_iff_iff]
    simp only [Bool.or_eq_true, Bool.and_eq_true, decide_eq_true_eq, Bool.not_eq_true']
    rcases last_cases p with ⟨hc, hl⟩ | ⟨m, h1, h2, h3, hl⟩
    · rw [ha, hl, hc]
      simp only [show ((-1 : Int).toNat) = 0 from rfl, List.take_zero]
      constructor
      · rintro (⟨⟨⟨k1, _⟩, k3⟩, _⟩ | ⟨h, _⟩)
        · exact absurd k3 ((has47 p).1 hc _ k1)
        · exact h
      · exact fun h => .inr ⟨h, trivial⟩
    · rw [ha, hl, Int.toNat_natCast]
      have hc : p.contains 47 = true := by
        cases e : p.contains 47 with
        | true => rfl
        | false => exact absurd h2 ((has47 p).1 e m h1)
      rw [hc]
      constructor
      · rintro (⟨⟨⟨k1, k2⟩, k3⟩, k4⟩ | ⟨_, h⟩)
        · have e : rp.length = m := by
            rcases Nat.lt_trichotomy rp.length m with e | e | e
            · have := (has47 _).1 k4 (m - (rp.length + 1)) (by rw [List.length_drop]; omega)
              simp only [List.getD_eq_getElem?_getD, List.getElem?_drop] at this
              rw [show rp.length + 1 + (m - (rp.length + 1)) = m by omega] at this
              rw [List.getD_eq_getElem?_getD] at h2
              exact absurd h2 this
            · exact e
            · exact absurd k3 (h3 _ e k1)
          rw [← e]; exact k2.symm
        · cases h
      · intro h
        have hlen : rp.length = m := by rw [h, List.length_take]; omega
        refine .inl ⟨⟨⟨by omega, by rw [hlen]; exact h.symm⟩, by rw [hlen]; exact h2⟩, ?_⟩
        rw [has47]
        intro j hj
        rw [List.length_drop] at hj
        have := h3 (m + 1 + j) (by omega) (by omega)
        simpa [List.getD_eq_getElem?_getD, List.getElem?_drop, hlen] using this
theorem clash_iff (a b : Stp) (two : Bool) : clashF a b two = true ↔ ∃ w ∈ b.writes, (∃ r ∈ a.reads, ((!r.names && decide (r.path = w.path)) || (r.names && decide (r.path = aboveF w.path))) = true) ∨ (two = true ∧ ∃ v ∈ a.writes, v.path = w.path) := by
  simp only [clashF, List.any_eq_true, Bool.or_eq_true, Bool.and_eq_true, decide_eq_true_eq, hit_iff]
  refine exists_congr fun w => and_congr_right fun _ => ?_
  constructor
  · rintro (⟨v, h1, h2, h3⟩ | h)
    · exact .inr ⟨h2, v, h1, h3⟩
    · exact .inl h
  · rintro (h | ⟨h2, v, h1, h3⟩)
    · exact .inr h
    · exact .inl ⟨v, h1, h2, h3⟩
theorem free_iff (l : List Stp) : refF l = [] ↔ ∀ i k, i ≤ k → k < l.length → clashF (l.getD i default) (l.getD k default) (decide (i < k)) = false := by
  constructor
  · intro h i k h1 h2
    rw [Bool.eq_false_iff]
    intro hc
    obtain ⟨w, hw, hh⟩ := (clash_iff _ _ _).1 hc
    have : ∃ h, Hit l i k w h := by
      rcases hh with ⟨r, h3, h4⟩ | ⟨h3, v, h4, h5⟩
      · exact ⟨_, .inl ⟨r, h3, h4, rfl⟩⟩
      · exact ⟨_, .inr ⟨of_decide_eq_true h3, v, h4, h5, rfl⟩⟩
    obtain ⟨x, hx⟩ := this
    have := (mem_refF l x).2 ⟨i, k, h1, h2, w, hw, hx⟩
    rw [h] at this; cases this
  · intro h
    refine List.eq_nil_iff_forall_not_mem.2 fun x hx => ?_
    obtain ⟨i, k, h1, h2, w, hw, hit⟩ := (mem_refF l x).1 hx
    have := (clash_iff (l.getD i default) (l.getD k default) (decide (i < k))).2 ⟨w, hw, by
      rcases hit with ⟨r, h3, h4, _⟩ | ⟨h3, v, h4, h5, _⟩
      · exact .inl ⟨r, h3, h4⟩
      · exact .inr ⟨decide_eq_true h3, v, h4, h5⟩⟩
    rw [h i k h1 h2] at this; cases this
end Go.Proofs.Ytpdmiojenhodlaa
