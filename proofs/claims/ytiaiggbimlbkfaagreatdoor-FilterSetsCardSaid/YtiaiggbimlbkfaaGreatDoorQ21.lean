/- Filter: tr is the document's; FilterSets. -/
import Derived.Test.YtiaiggbimlbkfaaGreatDoorQ20
set_option linter.unusedVariables false
set_option linter.unusedSimpArgs false
namespace Go.Proofs.YtiaiggbimlbkfaaGreatDoor
open Go Go.Ab
set_option maxRecDepth 20000
set_option maxHeartbeats 4000000
theorem tr_cases (args : List Str) : (∃ a b, args = [a, b] ∧ (a = [45, 100] ∨ ¬ b = [])) ∨ (¬ args.length = 2 ∨ ∃ a, args = [a, []] ∧ ¬ a = [45, 100]) := by
  match args with
  | [] => exact .inr (.inl (by simp))
  | [a] => exact .inr (.inl (by simp))
  | [a, b] =>
    by_cases ha : a = [45, 100]
    · exact .inl ⟨a, b, rfl, .inl ha⟩
    · by_cases hb : b = []
      · subst hb; exact .inr (.inr ⟨a, rfl, ha⟩)
      · exact .inl ⟨a, b, rfl, .inr hb⟩
  | a :: b :: c :: r => exact .inr (.inl (by simp))
theorem same_tr (args : List Str) (t : Str) (ha : ∀ s ∈ args, s.length ≤ 4000000) (ht : t.length ≤ 4000000) (p : Oid) (hp : p.mono = false) :
    CallOK Tryz.prog 17 [.list 1 ((([116, 114] : Str) :: args).map AV.str), .str t] (Oid.under p) ⟨[], .bool true, []⟩ := by
  rcases tr_cases args with ⟨a, b, rfl, hc⟩ | h
  · have hal := ha a (by simp)
    have hbl := ha b (by simp)
    have hx : ∃ f g, (a = [45, 100] ∧ f = setP b ∧ g = []) ∨ (¬ a = [45, 100] ∧ ¬ b = [] ∧ f = setP a ∧ g = setP b) := by
      by_cases h1 : a = [45, 100]
      · exact ⟨_, _, .inl ⟨h1, rfl, rfl⟩⟩
      · exact ⟨_, _, .inr ⟨h1, hc.resolve_left h1, rfl, rfl⟩⟩
    obtain ⟨f, g, hfg⟩ := hx
    exact same_of _ t _ true (fun p hp => run_any [116, 114] (by decide) [a, b] t 36 (by kernel_rfl) (by kernel_rfl) (toldR (t.flatMap (trB f g))) true p (fun p _ => tr_ok a b t f g hfg hal hbl ht p) hp)
      (fun p => runR_tr [a, b] t _ (fun p => translate_ok a b t f g hfg hal hbl ht p) p) p hp
  · exact same_of _ t _ true (fun p hp => run_any [116, 114] (by decide) args t 36 (by kernel_rfl) (by kernel_rfl) badR false p (fun p _ => tr_bad args t h p) hp)
      (fun p => runR_tr args t _ (fun p => translate_bad args t h p) p) p hp
theorem filterSets_ok (t a b : Str) (h1 : t.length ≤ 140737488355328) (h2 : a.length ≤ 140737488355328) (h3 : b.length ≤ 140737488355328) (p : Oid) (hp : p.mono = false) :
    CallOK Tryz.prog 9 [.str t, .str a, .str b] (Oid.under p) ⟨[], .bool true, []⟩ := by
  have hs1 : t.length ≤ 500 → a.length ≤ 60 → b.length ≤ 60 → ∀ p, p.mono = false → CallOK Tryz.prog 17 [.list 1 [.str [116, 114], .str a, .str b], .str t] (Oid.under p) ⟨[], .bool true, []⟩ :=
    fun h4 h5 h6 p hp => same_tr [a, b] t (by simp; omega) (by omega) p hp
  have hs2 : t.length ≤ 500 → a.length ≤ 60 → ∀ p, p.mono = false → CallOK Tryz.prog 17 [.list 1 [.str [116, 114], .str [45, 100], .str a], .str t] (Oid.under p) ⟨[], .bool true, []⟩ :=
    fun h4 h5 p hp => same_tr [[45, 100], a] t (by simp; omega) (by omega) p hp
  refine fnOK (n := 34) (rs := [.tmp 6]) Tryz.func9 rfl rfl (by decide) rfl rfl rfl ?_; rintro x rfl hrd hng
  (repeat (with_reducible (first | refine K_seq ?_ | refine K_next ?_ | refine K_skip ?_ | refine K_bend ?_ | refine K_block ?_ | refine K_exit ?_ | refine X_code ?_ | refine X_lend ?_ | refine X_here ?_ | refine X_on (by decide) ?_ | refine K_lendL ?_)))
  refine K_ev nmd [] hng (by kernel_rfl) fun hf C S K hC1 hC hS hK => ?_; simp (disch := first | omega | assumption) only [go_sem, ↓reduceIte, Nat.reduceEqDiff, Nat.reduceAdd, Nat.reduceMul, Nat.reduceLT, Nat.reduceLeDiff, reduceCtorEq, Nat.reduceBEq, Int.reduceToNat, Int.reduceNeg]
  refine hK ?_; clear hK hS hC hC1 K S C hf
  (repeat (with_reducible (first | refine K_seq ?_ | refine K_next ?_ | refine K_skip ?_ | refine K_bend ?_ | refine K_block ?_ | refine K_exit ?_ | refine X_code ?_ | refine X_lend ?_ | refine X_here ?_ | refine X_on (by decide) ?_ | refine K_lendL ?_)))
  refine K_ev nmd [(1, 8), (5, 12), (13, 20), (19, 26)] hng (by kernel_rfl) fun hf C S K hC1 hC hS hK => ?_; simp (disch := first | omega | assumption) only [go_sem, ↓reduceIte, Nat.reduceEqDiff, Nat.reduceAdd, Nat.reduceMul, Nat.reduceLT, Nat.reduceLeDiff, reduceCtorEq, Nat.reduceBEq, Int.reduceToNat, Int.reduceNeg, decide_true, decide_false, ne_eq, not_true_eq_false, not_false_eq_true]
  (repeat' (first | (refine evG_split (fun hv => ?_) (fun hv => ?_) <;> (try simp only [decide_eq_true_eq, decide_eq_false_iff_not, Bool.not_eq_true', Bool.not_eq_false', Bool.and_eq_true] at hv) <;> simp (disch := first | omega | assumption) only [go_sem, ↓reduceIte, Nat.reduceEqDiff, Nat.reduceAdd, Nat.reduceMul, Nat.reduceLT, Nat.reduceLeDiff, reduceCtorEq, Nat.reduceBEq, Int.reduceToNat, Int.reduceNeg, hv, decide_true, decide_false, ne_eq, not_true_eq_false, not_false_eq_true]) | (refine hC1 _ (awake_ok _ (mono_sub' rfl hp)) (by simp (disch := first | omega | assumption) only [go_sem, ↓reduceIte, Nat.reduceEqDiff, Nat.reduceAdd, Nat.reduceMul, Nat.reduceLT, Nat.reduceLeDiff, reduceCtorEq, Nat.reduceBEq, Int.reduceToNat, Int.reduceNeg, decide_true, decide_false, ne_eq, not_true_eq_false, not_false_eq_true]) ?_; simp (disch := first | omega | assumption) only [go_sem, ↓reduceIte, Nat.reduceEqDiff, Nat.reduceAdd, Nat.reduceMul, Nat.reduceLT, Nat.reduceLeDiff, reduceCtorEq, Nat.reduceBEq, Int.reduceToNat, Int.reduceNeg, decide_true, decide_false, ne_eq, not_true_eq_false, not_false_eq_true]) | (refine hC1 _ (hs1 (by omega) (by omega) (by omega) _ (mono_sub' rfl hp)) (by simp (disch := first | omega | assumption) only [go_sem, ↓reduceIte, Nat.reduceEqDiff, Nat.reduceAdd, Nat.reduceMul, Nat.reduceLT, Nat.reduceLeDiff, reduceCtorEq, Nat.reduceBEq, Int.reduceToNat, Int.reduceNeg, decide_true, decide_false, ne_eq, not_true_eq_false, not_false_eq_true]) ?_; simp (disch := first | omega | assumption) only [go_sem, ↓reduceIte, Nat.reduceEqDiff, Nat.reduceAdd, Nat.reduceMul, Nat.reduceLT, Nat.reduceLeDiff, reduceCtorEq, Nat.reduceBEq, Int.reduceToNat, Int.reduceNeg, decide_true, decide_false, ne_eq, not_true_eq_false, not_false_eq_true]) | (refine hC1 _ (hs2 (by omega) (by omega) _ (mono_sub' rfl hp)) (by simp (disch := first | omega | assumption) only [go_sem, ↓reduceIte, Nat.reduceEqDiff, Nat.reduceAdd, Nat.reduceMul, Nat.reduceLT, Nat.reduceLeDiff, reduceCtorEq, Nat.reduceBEq, Int.reduceToNat, Int.reduceNeg, decide_true, decide_false, ne_eq, not_true_eq_false, not_false_eq_true]) ?_; simp (disch := first | omega | assumption) only [go_sem, ↓reduceIte, Nat.reduceEqDiff, Nat.reduceAdd, Nat.reduceMul, Nat.reduceLT, Nat.reduceLeDiff, reduceCtorEq, Nat.reduceBEq, Int.reduceToNat, Int.reduceNeg, decide_true, decide_false, ne_eq, not_true_eq_false, not_false_eq_true]) | (refine hK ?_; clear hK hS hC hC1 K S C hf)))
  all_goals first | contradiction | skip
  all_goals (repeat (first | (with_reducible (first | refine K_seq ?_ | refine K_next ?_ | refine K_skip ?_ | refine K_bend ?_ | refine K_block ?_ | refine K_exit ?_ | refine X_code ?_ | refine X_lend ?_ | refine X_here ?_ | refine X_on (by decide) ?_ | refine K_lendL ?_)) | (refine K_ifT rfl rfl ?_) | (refine K_ifF rfl rfl ?_) | (refine K_ev nmd [] hng (by kernel_rfl) fun hf C S K hC1 hC hS hK => ?_; simp (disch := first | omega | assumption) only [go_sem, ↓reduceIte, Nat.reduceEqDiff, Nat.reduceAdd, Nat.reduceMul, Nat.reduceLT, Nat.reduceLeDiff, reduceCtorEq, Nat.reduceBEq, Int.reduceToNat, Int.reduceNeg]; refine hK ?_; clear hK hS hC hC1 K S C hf)))
  all_goals exact K_ret (done1 rfl)
end Go.Proofs.YtiaiggbimlbkfaaGreatDoor
