/- Filter: rows of lines in order: the reference's way and the program's are one. -/
import Derived.Test.YtiaiggbimlbkfaaGreatDoorQ6
set_option linter.unusedVariables false
set_option linter.unusedSimpArgs false
namespace Go.Proofs.YtiaiggbimlbkfaaGreatDoor
open Go Go.Ab
set_option maxRecDepth 20000
set_option maxHeartbeats 2000000
/-- Does the walk over what is out go past y, to put in x? -/
def pB (rv : Bool) (x y : Str) : Bool := (decide (y < x) != rv) || decide (y = x)
/-- Is a ahead of b? -/
def rel (rv : Bool) (a b : Str) : Prop := if rv = true then b ≤ a else a ≤ b
theorem str_le {a b : Str} : a ≤ b ↔ a < b ∨ a = b := by
  constructor
  · intro h
    by_cases he : a = b
    · exact .inr he
    · exact .inl (Std.lt_of_le_of_ne h he)
  · rintro (h | rfl)
    · exact List.le_of_lt h
    · exact List.le_refl _
theorem pB_rel {rv : Bool} {x y : Str} : pB rv x y = true ↔ rel rv y x := by
  unfold pB rel
  cases rv with
  | false => simp [str_le]
  | true =>
    have hd : (decide (y < x) != true) = decide (¬ y < x) := by by_cases h : y < x <;> simp [h]
    rw [hd, Bool.or_eq_true, decide_eq_true_eq, decide_eq_true_eq, List.not_lt, if_pos rfl]
    constructor
    · rintro (h | rfl)
      · exact h
      · exact List.le_refl _
    · intro h; exact .inl h
theorem rel_total (rv : Bool) (a b : Str) : rel rv a b ∨ rel rv b a := by
  unfold rel; cases rv
  · exact (List.le_total _ _)
  · exact (List.le_total _ _)
theorem rel_trans {rv : Bool} {a b c : Str} (h1 : rel rv a b) (h2 : rel rv b c) : rel rv a c := by
  unfold rel at *; cases rv
  · exact List.le_trans h1 h2
  · exact List.le_trans h2 h1
theorem rel_anti {rv : Bool} {a b : Str} (h1 : rel rv a b) (h2 : rel rv b a) : a = b := by
  unfold rel at *; cases rv
  · exact List.le_antisymm h1 h2
  · exact List.le_antisymm h2 h1
theorem rel_refl (rv : Bool) (a : Str) : rel rv a a := by
  unfold rel; cases rv
  · exact List.le_refl _
  · exact List.le_refl _
/-- How far the walk goes. -/
def kI (rv : Bool) (x : Str) (o : List Str) : Nat := (o.takeWhile (pB rv x)).length
def ins (rv on : Bool) (x : Str) (o : List Str) : List Str :=
  if on = true ∧ 0 < kI rv x o ∧ o.getD (kI rv x o - 1) default = x then o else o.take (kI rv x o) ++ x :: o.drop (kI rv x o)
def insAll (rv on : Bool) (l : List Str) : List Str := l.foldl (fun o x => ins rv on x o) []
theorem tw_len (q : Str → Bool) : ∀ o : List Str, o.take (o.takeWhile q).length = o.takeWhile q
  | [] => rfl
  | a :: o => by
    rw [List.takeWhile_cons]
    split
    · rw [List.length_cons, List.take_succ_cons, tw_len q o]
    · rfl
theorem dw_len (q : Str → Bool) : ∀ o : List Str, o.drop (o.takeWhile q).length = o.dropWhile q
  | [] => rfl
  | a :: o => by
    rw [List.takeWhile_cons, List.dropWhile_cons]
    split
    · rw [List.length_cons, List.drop_succ_cons, dw_len q o]
    · rfl
theorem tw_all (q : Str → Bool) : ∀ (o : List Str), ∀ y ∈ o.takeWhile q, q y = true
  | [], _, h => by cases h
  | a :: o, y, h => by
    rw [List.takeWhile_cons] at h
    split at h
    · rename_i ha
      rcases List.mem_cons.1 h with rfl | h
      · exact ha
      · exact tw_all q o y h
    · cases h
theorem dw_head (q : Str → Bool) : ∀ (o : List Str) z w, o.dropWhile q = z :: w → ¬ q z = true
  | [], _, _, h => by cases h
  | a :: o, z, w, h => by
    rw [List.dropWhile_cons] at h
    split at h
    · exact dw_head q o z w h
    · rename_i ha
      rw [List.cons.injEq] at h
      rw [← h.1]; exact ha
/-- Whoever stands behind the place where x goes is behind x. -/
theorem behind {rv : Bool} {x : Str} {o : List Str} (h : o.Pairwise (rel rv)) : ∀ y ∈ o.dropWhile (pB rv x), rel rv x y ∧ ¬ rel rv y x := by
  cases hd : o.dropWhile (pB rv x) with
  | nil => intro y hy; cases hy
  | cons z w =>
    have hz := dw_head _ _ _ _ hd
    rw [pB_rel] at hz
    have hxz : rel rv x z := (rel_total rv x z).resolve_right hz
    have hp : (z :: w).Pairwise (rel rv) := by
      rw [← hd]; exact h.sublist (List.dropWhile_sublist _)
    intro y hy
    rcases List.mem_cons.1 hy with rfl | hy
    · exact ⟨hxz, hz⟩
    · have hzy := (List.pairwise_cons.1 hp).1 y hy
      exact ⟨rel_trans hxz hzy, fun hyx => hz (rel_trans hzy hyx)⟩
theorem put_pair {rv : Bool} {x : Str} {o : List Str} (h : o.Pairwise (rel rv)) : (o.take (kI rv x o) ++ x :: o.drop (kI rv x o)).Pairwise (rel rv) := by
  unfold kI
  rw [tw_len, dw_len, List.pairwise_append, List.pairwise_cons]
  have hb := behind (x := x) h
  refine ⟨h.sublist (List.takeWhile_sublist _), ⟨fun y hy => (hb y hy).1, h.sublist (List.dropWhile_sublist _)⟩, fun y hy z hz => ?_⟩
  have hyx := pB_rel.1 (tw_all _ _ y hy)
  rcases List.mem_cons.1 hz with rfl | hz
  · exact hyx
  · exact rel_trans hyx (hb z hz).1
theorem put_perm (rv : Bool) (x : Str) (o : List Str) : (o.take (kI rv x o) ++ x :: o.drop (kI rv x o)).Perm (x :: o) := by
  refine List.perm_middle.trans ?_
  rw [List.take_append_drop]
theorem insAll_off (rv : Bool) : ∀ (l o : List Str), o.Pairwise (rel rv) → (l.foldl (fun o x => ins rv false x o) o).Pairwise (rel rv) ∧ (l.foldl (fun o x => ins rv false x o) o).Perm (o ++ l)
  | [], o, h => ⟨h, by rw [List.append_nil]; exact List.Perm.refl _⟩
  | x :: l, o, h => by
    have he : ins rv false x o = o.take (kI rv x o) ++ x :: o.drop (kI rv x o) := by rw [ins, if_neg (fun h => Bool.false_ne_true h.1)]
    rw [List.foldl_cons, he]
    have ih := insAll_off rv l _ (put_pair (x := x) h)
    refine ⟨ih.1, ih.2.trans ?_⟩
    refine ((put_perm rv x o).append_right l).trans ?_
    rw [List.cons_append]
    exact List.perm_middle.symm
/-- No two are the same. -/
def strict (rv : Bool) (o : List Str) : Prop := o.Pairwise (rel rv) ∧ o.Nodup
/-- x is there just if it stands right ahead of its place. -/
theorem there {rv : Bool} {x : Str} {o : List Str} (h : strict rv o) : (0 < kI rv x o ∧ o.getD (kI rv x o - 1) default = x) ↔ x ∈ o := by
  unfold kI
  have hsp : o.takeWhile (pB rv x) ++ o.dropWhile (pB rv x) = o := List.takeWhile_append_dropWhile
  constructor
  · rintro ⟨h0, he⟩
    have hl : (o.takeWhile (pB rv x)).length ≤ o.length := (List.takeWhile_sublist _).length_le
    rw [← he, List.getD_eq_getElem?_getD, List.getElem?_eq_getElem (by omega)]
    exact List.getElem_mem _
  · intro hx
    have hx1 : x ∈ o.takeWhile (pB rv x) := by
      rw [← hsp] at hx
      rcases List.mem_append.1 hx with hx | hx
      · exact hx
      · exact absurd (rel_refl rv x) (behind h.1 x hx).2
    obtain ⟨a, b, hab⟩ := List.append_of_mem hx1
    have hb : b = [] := by
      cases b with
      | nil => rfl
      | cons y b =>
        have h2 : strict rv (o.takeWhile (pB rv x)) := ⟨h.1.sublist (List.takeWhile_sublist _), h.2.sublist (List.takeWhile_sublist _)⟩
        have hyx := pB_rel.1 (tw_all (pB rv x) o y (by rw [hab]; simp))
        rw [hab] at h2
        have h3 := (List.pairwise_cons.1 (List.pairwise_append.1 h2.1).2.1).1 y List.mem_cons_self
        have h4 := (List.nodup_cons.1 (List.nodup_append.1 h2.2).2.1).1
        exact absurd (by rw [rel_anti hyx h3]; exact List.mem_cons_self) h4
    subst hb
    have hlen : (o.takeWhile (pB rv x)).length = a.length + 1 := by rw [hab]; simp
    refine ⟨by omega, ?_⟩
    rw [hlen, Nat.add_sub_cancel]
    conv => lhs; rw [← hsp, hab]
    simp
theorem ins_on {rv : Bool} {x : Str} {o : List Str} (h : strict rv o) : strict rv (ins rv true x o) ∧ ∀ y, y ∈ ins rv true x o ↔ y ∈ o ∨ y = x := by
  have ht := there (x := x) h
  by_cases hx : x ∈ o
  · have he : ins rv true x o = o := by rw [ins, if_pos ⟨rfl, ht.2 hx⟩]
    rw [he]
    exact ⟨h, fun y => ⟨.inl, fun hy => hy.elim id fun e => e ▸ hx⟩⟩
  · have he : ins rv true x o = o.take (kI rv x o) ++ x :: o.drop (kI rv x o) := by rw [ins, if_neg (fun h => hx (ht.1 h.2))]
    rw [he]
    have hp := put_perm rv x o
    refine ⟨⟨put_pair h.1, hp.nodup_iff.2 (List.nodup_cons.2 ⟨hx, h.2⟩)⟩, fun y => ?_⟩
    rw [hp.mem_iff, List.mem_cons]; exact Or.comm
theorem insAll_on (rv : Bool) : ∀ (l o : List Str), strict rv o → strict rv (l.foldl (fun o x => ins rv true x o) o) ∧ ∀ y, y ∈ l.foldl (fun o x => ins rv true x o) o ↔ y ∈ o ∨ y ∈ l
  | [], o, h => ⟨h, fun y => by simp⟩
  | x :: l, o, h => by
    have h1 := ins_on (x := x) h
    have ih := insAll_on rv l _ h1.1
    rw [List.foldl_cons]
    refine ⟨ih.1, fun y => ?_⟩
    rw [ih.2, h1.2, List.mem_cons, or_assoc]
theorem arr_get (l : List Str) {m : Nat} (h : m < l.length) : l.toArray[m]! = l.getD m default := by
  simp [List.getD_eq_getElem?_getD, List.getElem?_eq_getElem h, h]
theorem compact_pairs {l : List Str} (h : l.Pairwise (rel false)) : ∀ m, m ≤ l.length → strict false (Lib.compactUpTo l.toArray m) ∧ (∀ y, y ∈ Lib.compactUpTo l.toArray m ↔ y ∈ l.take m) ∧ ∀ y ∈ Lib.compactUpTo l.toArray m, 0 < m ∧ rel false y (l.getD (m - 1) default)
  | 0, _ => ⟨⟨List.Pairwise.nil, List.nodup_nil⟩, fun y => by simp [Lib.compactUpTo], fun y hy => by simp [Lib.compactUpTo] at hy⟩
  | m + 1, hm => by
    have hml : m < l.length := by omega
    obtain ⟨⟨i1, i2⟩, i3, i4⟩ := compact_pairs h m (by omega)
    have hstep : ∀ y ∈ Lib.compactUpTo l.toArray m, rel false y (l.getD m default) := fun y hy => by
      obtain ⟨h0, h1⟩ := i4 y hy
      refine rel_trans h1 ?_
      have := List.pairwise_iff_getElem.1 h (m - 1) m (by omega) hml (by omega)
      rwa [List.getD_eq_getElem?_getD, List.getElem?_eq_getElem (by omega), List.getD_eq_getElem?_getD, List.getElem?_eq_getElem hml]
    have hmem : ∀ y, y ∈ l.take (m + 1) ↔ y ∈ l.take m ∨ y = l.getD m default := fun y => by
      rw [List.take_add_one, List.mem_append, List.getD_eq_getElem?_getD, List.getElem?_eq_getElem hml]; simp
    rw [Lib.compactUpTo_succ, arr_get l hml]
    by_cases hk : Lib.keeps l.toArray m = true
    · rw [if_pos hk]
      have hnot : l.getD m default ∉ Lib.compactUpTo l.toArray m := fun hin => by
        obtain ⟨h0, h1⟩ := i4 _ hin
        simp only [Lib.keeps, decide_eq_true_eq] at hk
        rcases hk with hk | hk
        · omega
        · rw [arr_get l hml, arr_get l (by omega)] at hk
          have h2 : rel false (l.getD (m - 1) default) (l.getD m default) := by
            have := List.pairwise_iff_getElem.1 h (m - 1) m (by omega) hml (by omega)
            rwa [List.getD_eq_getElem?_getD, List.getElem?_eq_getElem (by omega), List.getD_eq_getElem?_getD, List.getElem?_eq_getElem hml]
          exact hk (rel_anti h1 h2)
      refine ⟨⟨?_, ?_⟩, fun y => ?_, fun y hy => ⟨by omega, ?_⟩⟩
      · rw [List.pairwise_append]
        exact ⟨i1, List.pairwise_singleton _ _, fun a ha b hb => by rw [List.mem_singleton.1 hb]; exact hstep a ha⟩
      · rw [List.nodup_append]
        exact ⟨i2, by simp, fun a ha b hb => by rw [List.mem_singleton.1 hb]; exact fun e => hnot (e ▸ ha)⟩
      · rw [List.mem_append, i3, hmem, List.mem_singleton]
      · rw [Nat.add_sub_cancel]
        rcases List.mem_append.1 hy with hy | hy
        · exact hstep y hy
        · rw [List.mem_singleton.1 hy]; exact rel_refl _ _
    · rw [if_neg hk, List.append_nil]
      have h0 : ¬ m = 0 := fun e => hk (by simp [Lib.keeps, e])
      have he : l.getD m default = l.getD (m - 1) default := by
        simp only [Lib.keeps, decide_eq_true_eq, not_or, ne_eq, Classical.not_not] at hk
        have := hk.2
        rwa [arr_get l hml, arr_get l (by omega)] at this
      refine ⟨⟨i1, i2⟩, fun y => ?_, fun y hy => ⟨by omega, ?_⟩⟩
      · rw [i3, hmem]
        refine ⟨.inl, fun h => h.elim id fun e => ?_⟩
        have : l.getD (m - 1) default ∈ l.take m := by
          rw [List.getD_eq_getElem?_getD, List.getElem?_eq_getElem (by omega)]
          exact List.mem_take_iff_getElem.2 ⟨m - 1, by omega, rfl⟩
        rw [e, he]; exact this
      · rw [Nat.add_sub_cancel]; exact hstep y hy
theorem compact_strict {l : List Str} (h : l.Pairwise (rel false)) : strict false (Lib.compact l) ∧ ∀ y, y ∈ Lib.compact l ↔ y ∈ l := by
  have := compact_pairs h l.length (Nat.le_refl _)
  rw [List.take_length] at this
  exact ⟨this.1, this.2.1⟩
theorem sortS_pair (l : List Str) : (sortS l).Pairwise (rel false) := by
  have h := List.pairwise_mergeSort (le := fun x y : Str => decide (x ≤ y)) (fun a b c h1 h2 => by
      rw [decide_eq_true_eq] at *; exact List.le_trans h1 h2) (fun a b => by
      rw [Bool.or_eq_true, decide_eq_true_eq, decide_eq_true_eq]; exact (List.le_total _ _)) l
  refine h.imp ?_
  intro a b hab
  show a ≤ b
  simpa using hab
theorem rev_pair {l : List Str} (h : l.Pairwise (rel false)) : l.reverse.Pairwise (rel true) := by
  rw [List.pairwise_reverse]
  refine h.imp ?_
  intro a b hab; exact hab
theorem one_row {rv : Bool} {a b : List Str} (ha : a.Pairwise (rel rv)) (hb : b.Pairwise (rel rv)) (hp : a.Perm b) : a = b :=
  List.Perm.eq_of_pairwise (le := rel rv) (fun _ _ _ _ h3 h4 => rel_anti h3 h4) ha hb hp
theorem one_set {rv : Bool} {a b : List Str} (ha : strict rv a) (hb : strict rv b) (hm : ∀ y, y ∈ a ↔ y ∈ b) : a = b :=
  one_row ha.1 hb.1 ((List.perm_ext_iff_of_nodup ha.2 hb.2).2 hm)
theorem rev_strict {l : List Str} (h : strict false l) : strict true l.reverse := ⟨rev_pair h.1, (List.reverse_perm l).nodup_iff.2 h.2⟩
/-- The reference's row is the program's. -/
theorem insAll_row (rv on : Bool) (l : List Str) : insAll rv on l = if rv = true then (if on = true then Lib.compact (sortS l) else sortS l).reverse else if on = true then Lib.compact (sortS l) else sortS l := by
  have hp := sortS_pair l
  have hm : ∀ y, y ∈ sortS l ↔ y ∈ l := fun y => (sortS_perm l).mem_iff
  unfold insAll
  cases on with
  | false =>
    have h1 := insAll_off rv l [] List.Pairwise.nil
    rw [List.nil_append] at h1
    cases rv with
    | false => simpa using one_row h1.1 hp (h1.2.trans (sortS_perm l).symm)
    | true => simpa using one_row h1.1 (rev_pair hp) (h1.2.trans ((List.reverse_perm _).trans (sortS_perm l)).symm)
  | true =>
    have h1 := insAll_on rv l [] ⟨List.Pairwise.nil, List.nodup_nil⟩
    have hc := compact_strict hp
    cases rv with
    | false => simpa using one_set h1.1 hc.1 (fun y => by rw [h1.2, hc.2, hm]; simp)
    | true => simpa using one_set h1.1 (rev_strict hc.1) (fun y => by rw [h1.2, List.mem_reverse, hc.2, hm]; simp)
end Go.Proofs.YtiaiggbimlbkfaaGreatDoor
