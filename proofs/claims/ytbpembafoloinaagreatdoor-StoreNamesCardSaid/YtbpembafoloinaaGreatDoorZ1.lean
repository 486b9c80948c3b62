/- The plain model of a store: what is where, by rising places; its map; the names below a place. -/
import Derived.Test.YtbpembafoloinaaGreatDoorS26
import Derived.Test.YtbpembafoloinaaGreatDoorFwN
set_option linter.unusedVariables false
set_option linter.unusedSimpArgs false
namespace Go.Proofs.YtbpembafoloinaaGreatDoor
open Go Go.Ab
abbrev PL := List (Str × Bits)
/-! the order of texts -/
theorem ltS_cons (a b : UInt8) (x y : Str) : ltS (a :: x) (b :: y) = true ↔ a.toNat < b.toNat ∨ (a.toNat = b.toNat ∧ ltS x y = true) := by
  simp only [ltS, Op.bytesLess, Bool.or_eq_true, Bool.and_eq_true, decide_eq_true_eq, beq_iff_eq, UInt8.lt_iff_toNat_lt, ← UInt8.toNat_inj]
theorem ltS_trans : ∀ a b c : Str, ltS a b = true → ltS b c = true → ltS a c = true
  | [], _, [], _, h => by cases ‹Str› <;> simp [ltS, Op.bytesLess] at h
  | [], _, _ :: _, _, _ => rfl
  | _ :: _, [], _, h, _ => by simp [ltS, Op.bytesLess] at h
  | _ :: _, _ :: _, [], _, h => by simp [ltS, Op.bytesLess] at h
  | a :: x, b :: y, c :: z, h1, h2 => by
    rw [ltS_cons] at h1 h2 ⊢
    rcases h1 with h1 | ⟨h1, h3⟩ <;> rcases h2 with h2 | ⟨h2, h4⟩
    · exact .inl (by omega)
    · exact .inl (by omega)
    · exact .inl (by omega)
    · exact .inr ⟨by omega, ltS_trans x y z h3 h4⟩
theorem ltS_irr : ∀ a : Str, ltS a a = false
  | [] => rfl
  | a :: x => by
    have := ltS_irr x
    rw [Bool.eq_false_iff] at this ⊢
    intro h
    rw [ltS_cons] at h
    rcases h with h | ⟨_, h⟩
    · omega
    · exact this h
theorem ltS_tot : ∀ a b : Str, ltS a b = false → ltS b a = false → a = b
  | [], [], _, _ => rfl
  | [], _ :: _, h, _ => by simp [ltS, Op.bytesLess] at h
  | _ :: _, [], _, h => by simp [ltS, Op.bytesLess] at h
  | a :: x, b :: y, h1, h2 => by
    rw [Bool.eq_false_iff] at h1 h2
    have h3 := fun h => h1 ((ltS_cons a b x y).2 h)
    have h4 := fun h => h2 ((ltS_cons b a y x).2 h)
    have hab : a.toNat = b.toNat := by
      rcases Nat.lt_trichotomy a.toNat b.toNat with h | h | h
      · exact absurd (.inl h) h3
      · exact h
      · exact absurd (.inl h) h4
    have := ltS_tot x y (by rw [Bool.eq_false_iff]; exact fun h => h3 (.inr ⟨hab, h⟩)) (by rw [Bool.eq_false_iff]; exact fun h => h4 (.inr ⟨hab.symm, h⟩))
    rw [this, UInt8.toNat_inj.1 hab]
theorem ltS_app : ∀ (p a b : Str), ltS (p ++ a) (p ++ b) = ltS a b
  | [], _, _ => rfl
  | c :: p, a, b => by
    have ih := ltS_app p a b
    rw [Bool.eq_iff_iff, List.cons_append, List.cons_append, ltS_cons, ih]
    constructor
    · rintro (h | ⟨_, h⟩)
      · omega
      · exact h
    · exact fun h => .inr ⟨rfl, h⟩
theorem ltS_lt : ∀ {a b : Str}, ltS a b = true → a < b
  | [], [], h => by simp [ltS, Op.bytesLess] at h
  | [], _ :: _, _ => by simp
  | _ :: _, [], h => by simp [ltS, Op.bytesLess] at h
  | a :: x, b :: y, h => by
    rw [ltS_cons] at h
    rw [List.cons_lt_cons_iff, UInt8.lt_iff_toNat_lt, ← UInt8.toNat_inj]
    exact h.imp id fun ⟨h1, h2⟩ => ⟨h1, ltS_lt h2⟩
def ltB (a b : Str) : Prop := ltS a b = true
instance : DecidableRel ltB := fun a b => inferInstanceAs (Decidable (ltS a b = true))
theorem ordB : Ord ltB where
  irr a h := by rw [ltB, ltS_irr] at h; cases h
  tr := ltS_trans
  tot a b h hn := by
    cases h2 : ltS b a with
    | true => exact h2
    | false => exact absurd (ltS_tot a b (Bool.eq_false_iff.2 h) h2) hn
/-! what is where -/
def getP (L : PL) (n : Str) : Bits := if n = [] then ⟨2, 7, []⟩ else (lookG n L).getD Bits.no
def putP (n : Str) (b : Bits) (L : PL) : PL := if n = [] then L else insG ltB n (if b.k = 0 then none else some b) L
def namesP (L : PL) (n : Str) : List Str := L.filterMap fun q => restOf n q.1
def MapP (es : List ME) (L : PL) : Prop := MapG AV.str Bits.av es L
theorem encS : EncOK AV.str := sameK_str
theorem mapP_new : MapP [] [] := mapG_new
theorem mapP_val {es : List ME} {L : PL} (h : MapP es L) (n : Str) : valE (.str n) (.agg [.int .i64 0, .int .i64 0, .str []]) es = ((lookG n L).getD Bits.no).av := by
  rw [mapG_val encS h]
  cases lookG n L <;> rfl
theorem mapP_put {es : List ME} {L : PL} (h : MapP es L) (hs : SortG ltB L) (n : Str) (b : Bits) (c : Nat) : MapP (putE n b es c) (putP n b L) := by
  unfold putE putP
  split
  · exact h
  · split
    · exact mapG_del encS h n ((insG_filter ordB n none hs).trans (.refl _))
    · exact mapG_set encS h n b c ((insG_filter ordB n (some b) hs).trans (.refl _))
theorem putP_sort {L : PL} (hs : SortG ltB L) (n : Str) (b : Bits) : SortG ltB (putP n b L) := by
  unfold putP
  split
  · exact hs
  · exact insG_sort ordB _ _ hs
/-! the names below a place -/
theorem preT_split {k p : Str} (h : preT k p = true) : k = p ++ k.drop p.length := by
  simp only [preT, Bool.and_eq_true, decide_eq_true_eq] at h
  have := List.take_append_drop p.length k
  rw [h.2] at this
  exact this.symm
theorem restOf_some {n k r : Str} (h : restOf n k = some r) : k = (n ++ [47]) ++ r := by
  unfold restOf at h
  split at h
  · rename_i hc
    simp only [Option.some.injEq] at h
    have := preT_split hc.1
    rw [← h]
    simpa using this
  · cases h
theorem namesP_le {L : PL} (hs : SortG ltB L) (n : Str) : (namesP L n).Pairwise (· ≤ ·) := by
  unfold namesP
  rw [List.pairwise_filterMap]
  refine hs.imp fun {a b} h r hr r' hr' => ?_
  rw [ltB, restOf_some hr, restOf_some hr', ltS_app] at h
  exact List.le_of_lt (ltS_lt h)
theorem namesE_eq {es : List ME} {L : PL} (h : MapP es L) (hs : SortG ltB L) (n : Str) : sortS (namesE n es) = namesP L n := by
  refine sortS_eq ?_ (namesP_le hs n)
  obtain ⟨E, rfl, h2, _⟩ := h
  have h3 : namesE n (E.map (entG AV.str Bits.av)) = (E.map prj).filterMap fun q => restOf n q.1 := by
    unfold namesE
    rw [List.filterMap_map, List.filterMap_map]
    rfl
  rw [h3]
  exact h2.filterMap _
/-! sizes -/
/-- No more, no longer than any machine holds. -/
structure POk (L : PL) : Prop where
  len : L.length ≤ 1000000
  key : ∀ q ∈ L, q.1.length ≤ 1000000
  val : ∀ q ∈ L, q.2.ok
theorem mapP_len {es : List ME} {L : PL} (h : MapP es L) : es.length = L.length := by
  obtain ⟨E, rfl, h2, _⟩ := h
  rw [List.length_map, ← h2.length_eq, List.length_map]
theorem mapP_key {es : List ME} {L : PL} (h : MapP es L) (ho : POk L) : ∀ e ∈ es, (keyS e).length ≤ 1000000 := by
  obtain ⟨E, rfl, h2, _⟩ := h
  intro e he
  obtain ⟨q, h3, rfl⟩ := List.mem_map.1 he
  exact ho.key (prj q) (h2.mem_iff.1 (List.mem_map_of_mem h3))
theorem namesP_mem {L : PL} (ho : POk L) {n r : Str} (h : r ∈ namesP L n) : r.length ≤ 1000000 := by
  obtain ⟨q, h1, h2⟩ := List.mem_filterMap.1 h
  have h3 := ho.key q h1
  rw [restOf_some h2, List.length_append] at h3
  omega
theorem encT_le {l : List Str} {k : Nat} (hk : k ≤ 4000000000) (h : ∀ s ∈ l, s.length ≤ k) : (encT l).length ≤ l.length * (k + 100) := by
  induction l with
  | nil => simp [encT]
  | cons a l ih =>
    have h1 := ih fun s hs => h s (List.mem_cons_of_mem _ hs)
    have h2 := h a List.mem_cons_self
    have h3 := chunk_len a
    have h4 := Lib.itoa_length_le a.length (by omega) (by omega)
    simp only [encT, List.length_append, List.length_cons, Nat.add_mul, Nat.one_mul]
    omega
theorem namesP_enc {L : PL} (ho : POk L) (n : Str) : (encT (namesP L n)).length ≤ 100000000000000 ∧ (namesP L n).length ≤ 1000000 := by
  have h1 := encT_le (k := 1000000) (by decide) fun s hs => namesP_mem ho (n := n) hs
  have h2 : (namesP L n).length ≤ L.length := List.length_filterMap_le _ _
  have h3 := ho.len
  refine ⟨Nat.le_trans h1 ?_, by omega⟩
  have : (namesP L n).length * (1000000 + 100) ≤ 1000000 * (1000000 + 100) := Nat.mul_le_mul_right _ (by omega)
  omega
end Go.Proofs.YtbpembafoloinaaGreatDoor
