/- Filter: wc is the document's; FilterCounts, walked. -/
import Derived.Test.YtiaiggbimlbkfaaGreatDoorQ41
import Derived.Test.YtiaiggbimlbkfaaGreatDoorQ20
set_option linter.unusedVariables false
set_option linter.unusedSimpArgs false
namespace Go.Proofs.YtiaiggbimlbkfaaGreatDoor
open Go Go.Ab
set_option maxRecDepth 20000
set_option maxHeartbeats 4000000
theorem runR_wc (args : List Str) (t : Str) (r : Res) (hU : ∀ p, CallOK Tryz.prog 43 [.list 1 (args.map AV.str), .str t] (Oid.under p) ⟨[], r.av, []⟩) (p : Oid) :
    CallOK Tryz.prog 26 [.list 1 ((([119, 99] : Str) :: args).map AV.str), .str t] (Oid.under p) ⟨[], .tuple [r.av, .bool true], []⟩ := by
  obtain ⟨st, out, err⟩ := r
  simp only [Res.av] at hU
  refine fnOK (n := 90) (rs := [.cell 4 32, .tmp 5]) Tryz.func26 rfl rfl (by decide) rfl rfl rfl ?_; rintro x rfl hrd hng
  (repeat (first | (with_reducible (first | refine K_seq ?_ | refine K_next ?_ | refine K_skip ?_ | refine K_bend ?_ | refine K_block ?_ | refine K_exit ?_ | refine X_code ?_ | refine X_lend ?_ | refine X_here ?_ | refine X_on (by decide) ?_ | refine K_lendL ?_)) | (refine K_ifT rfl rfl ?_) | (refine K_ifF rfl rfl ?_) | (refine K_ev nmd [] hng (by kernel_rfl) fun hf C S K hC1 hC hS hK => ?_; simp (disch := first | omega | assumption) only [go_sem, ↓reduceIte, Nat.reduceEqDiff, Nat.reduceAdd, Nat.reduceMul, Nat.reduceLT, Nat.reduceLeDiff, reduceCtorEq, Nat.reduceBEq, Int.reduceToNat, Int.reduceNeg]; refine hK ?_; clear hK hS hC hC1 K S C hf)))
  refine K_evd nmd [] [] mixed hng (by kernel_rfl) [1, 4, 6, 7] fun hf C S K hC hS hK => ?_; simp (disch := first | omega | assumption) only [go_sem, ↓reduceIte, Nat.reduceEqDiff, Nat.reduceAdd, Nat.reduceMul, Nat.reduceLT, Nat.reduceLeDiff, reduceCtorEq, Nat.reduceBEq, Int.reduceToNat, Int.reduceNeg]
  (first | refine hK (dynN_quiet rfl) ?_ | refine hK (by simp (disch := first | omega | assumption) only [go_sem, ↓reduceIte, Nat.reduceEqDiff, Nat.reduceAdd, Nat.reduceMul, Nat.reduceLT, Nat.reduceLeDiff, reduceCtorEq, Nat.reduceBEq, Int.reduceToNat, Int.reduceNeg, List.reverse_cons, List.reverse_nil, ne_eq, not_false_eq_true, implies_true]) ?_); clear hK hS hC K S C hf
  (repeat (first | (with_reducible (first | refine K_seq ?_ | refine K_next ?_ | refine K_skip ?_ | refine K_bend ?_ | refine K_block ?_ | refine K_exit ?_ | refine X_code ?_ | refine X_lend ?_ | refine X_here ?_ | refine X_on (by decide) ?_ | refine K_lendL ?_)) | (refine K_ifT rfl rfl ?_) | (refine K_ifF rfl rfl ?_) | (refine K_ev nmd [] hng (by kernel_rfl) fun hf C S K hC1 hC hS hK => ?_; simp (disch := first | omega | assumption) only [go_sem, ↓reduceIte, Nat.reduceEqDiff, Nat.reduceAdd, Nat.reduceMul, Nat.reduceLT, Nat.reduceLeDiff, reduceCtorEq, Nat.reduceBEq, Int.reduceToNat, Int.reduceNeg]; (repeat ((first | refine hC1 _ (hU _) (by simp (disch := first | omega | assumption) only [go_sem, ↓reduceIte, Nat.reduceEqDiff, Nat.reduceAdd, Nat.reduceMul, Nat.reduceLT, Nat.reduceLeDiff, reduceCtorEq, Nat.reduceBEq, Int.reduceToNat, Int.reduceNeg]) ?_); simp (disch := first | omega | assumption) only [go_sem, ↓reduceIte, Nat.reduceEqDiff, Nat.reduceAdd, Nat.reduceMul, Nat.reduceLT, Nat.reduceLeDiff, reduceCtorEq, Nat.reduceBEq, Int.reduceToNat, Int.reduceNeg])); refine hK ?_; clear hK hS hC hC1 K S C hf)))
  exact K_ret (done_plain (by simp (disch := first | omega | assumption) only [go_sem, ↓reduceIte, Nat.reduceEqDiff, Nat.reduceAdd, Nat.reduceMul, Nat.reduceLT, Nat.reduceLeDiff, reduceCtorEq, Nat.reduceBEq, Int.reduceToNat, Int.reduceNeg, Res.av, toldR, badR, usageR]))
theorem wc_valid {args : List Str} {t o : Str} (h : wcX args t = some o) (htl : t.length ≤ 4000000) (p : Oid) (hp : p.mono = false) :
    CallOK Tryz.prog 32 [.list 1 (args.map AV.str), .str t] (Oid.under p) ⟨[], .tuple [(toldR o).av, .bool true], []⟩ := by
  rcases args with _ | ⟨a, _ | ⟨b, r⟩⟩
  · obtain rfl := Option.some.inj h
    exact wc_none t htl p hp
  · rw [wcX] at h
    by_cases h1 : a = [45, 108]
    · rw [if_pos h1] at h
      obtain rfl := Option.some.inj h
      subst h1
      exact wc_l t htl p hp
    · rw [if_neg h1] at h
      by_cases h2 : a = [45, 119]
      · rw [if_pos h2] at h
        obtain rfl := Option.some.inj h
        subst h2
        exact wc_w t htl p hp
      · rw [if_neg h2] at h
        by_cases h3 : a = [45, 99]
        · rw [if_pos h3] at h
          obtain rfl := Option.some.inj h
          subst h3
          exact wc_c t htl p hp
        · rw [if_neg h3] at h; cases h
  · cases h
theorem wc_bad {args : List Str} {t : Str} (h : wcX args t = none) (ha : ∀ s ∈ args, s.length ≤ 4000000) (hal : args.length ≤ 4000000) (htl : t.length ≤ 4000000) (p : Oid) (hp : p.mono = false) :
    CallOK Tryz.prog 32 [.list 1 (args.map AV.str), .str t] (Oid.under p) ⟨[], .tuple [badR.av, .bool false], []⟩ := by
  rcases args with _ | ⟨a, _ | ⟨b, r⟩⟩
  · cases h
  · rw [wcX] at h
    by_cases h1 : a = [45, 108]
    · rw [if_pos h1] at h; cases h
    · rw [if_neg h1] at h
      by_cases h2 : a = [45, 119]
      · rw [if_pos h2] at h; cases h
      · rw [if_neg h2] at h
        by_cases h3 : a = [45, 99]
        · rw [if_pos h3] at h; cases h
        · exact wc_odd a t (ha a (by simp)) h1 h2 h3 htl p hp
  · exact wc_many (a :: b :: r) ha hal (by simp) (by simp) t htl p hp
theorem same_wc (args : List Str) (ha : ∀ s ∈ args, s.length ≤ 4000000) (hal : args.length ≤ 4000000) (t : Str) (ht : t.length ≤ 4000000) (p : Oid) (hp : p.mono = false) :
    CallOK Tryz.prog 17 [.list 1 ((([119, 99] : Str) :: args).map AV.str), .str t] (Oid.under p) ⟨[], .bool true, []⟩ := by
  have hr := fun p => countRef_ok args t ht p
  cases h : wcX args t with
  | some o =>
    rw [h] at hr
    exact same_of _ t _ true (fun p hp => run_any ([119, 99] : Str) (by decide) args t 32 (by kernel_rfl) (by kernel_rfl) (toldR o) true p (fun p hp => wc_valid h ht p hp) hp)
      (fun p => runR_wc args t _ hr p) p hp
  | none =>
    rw [h] at hr
    exact same_of _ t _ true (fun p hp => run_any ([119, 99] : Str) (by decide) args t 32 (by kernel_rfl) (by kernel_rfl) badR false p (fun p hp => wc_bad h ha hal ht p hp) hp)
      (fun p => runR_wc args t _ hr p) p hp
theorem filterCounts_ok (t : Str) (h1 : t.length ≤ 140737488355328) (p : Oid) (hp : p.mono = false) :
    CallOK Tryz.prog 10 [.str t] (Oid.under p) ⟨[], .bool true, []⟩ := by
  have hA := fun (h5 : t.length ≤ 500) p hp => same_wc [] (by simp) (by decide) t (by omega) p hp
  have hB := fun (h5 : t.length ≤ 500) p hp => same_wc [[45, 108]] (by simp) (by decide) t (by omega) p hp
  have hD := fun (h5 : t.length ≤ 500) p hp => same_wc [[45, 119]] (by simp) (by decide) t (by omega) p hp
  have hF := fun (h5 : t.length ≤ 500) p hp => same_wc [[45, 99]] (by simp) (by decide) t (by omega) p hp
  simp only [List.map_cons, List.map_nil] at hA hB hD hF
  refine fnOK (n := 29) (rs := [.tmp 2]) Tryz.func10 rfl rfl (by decide) rfl rfl rfl ?_; rintro x rfl hrd hng
  (repeat (with_reducible (first | refine K_seq ?_ | refine K_next ?_ | refine K_skip ?_ | refine K_bend ?_ | refine K_block ?_ | refine K_exit ?_ | refine X_code ?_ | refine X_lend ?_ | refine X_here ?_ | refine X_on (by decide) ?_ | refine K_lendL ?_)))
  refine K_ev nmd [] hng (by kernel_rfl) fun hf C S K hC1 hC hS hK => ?_; simp (disch := first | omega | assumption) only [go_sem, ↓reduceIte, Nat.reduceEqDiff, Nat.reduceAdd, Nat.reduceMul, Nat.reduceLT, Nat.reduceLeDiff, reduceCtorEq, Nat.reduceBEq, Int.reduceToNat, Int.reduceNeg]
  refine hK ?_; clear hK hS hC hC1 K S C hf
  (repeat (with_reducible (first | refine K_seq ?_ | refine K_next ?_ | refine K_skip ?_ | refine K_bend ?_ | refine K_block ?_ | refine K_exit ?_ | refine X_code ?_ | refine X_lend ?_ | refine X_here ?_ | refine X_on (by decide) ?_ | refine K_lendL ?_)))
  refine K_ev nmd [(1, 4), (5, 8), (9, 12), (14, 17), (19, 22)] hng (by kernel_rfl) fun hf C S K hC1 hC hS hK => ?_; simp (disch := first | omega | assumption) only [go_sem, ↓reduceIte, Nat.reduceEqDiff, Nat.reduceAdd, Nat.reduceMul, Nat.reduceLT, Nat.reduceLeDiff, reduceCtorEq, Nat.reduceBEq, Int.reduceToNat, Int.reduceNeg, decide_true, decide_false, ne_eq, not_true_eq_false, not_false_eq_true]
  (repeat' (first | (refine evG_split (fun hv => ?_) (fun hv => ?_) <;> (try simp only [decide_eq_true_eq, decide_eq_false_iff_not, Bool.not_eq_true', Bool.not_eq_false', Bool.and_eq_true] at hv) <;> simp (disch := first | omega | assumption) only [go_sem, ↓reduceIte, Nat.reduceEqDiff, Nat.reduceAdd, Nat.reduceMul, Nat.reduceLT, Nat.reduceLeDiff, reduceCtorEq, Nat.reduceBEq, Int.reduceToNat, Int.reduceNeg, hv, decide_true, decide_false, ne_eq, not_true_eq_false, not_false_eq_true]) | (refine hC1 _ (awake_ok _ (mono_sub' rfl hp)) (by simp (disch := first | omega | assumption) only [go_sem, ↓reduceIte, Nat.reduceEqDiff, Nat.reduceAdd, Nat.reduceMul, Nat.reduceLT, Nat.reduceLeDiff, reduceCtorEq, Nat.reduceBEq, Int.reduceToNat, Int.reduceNeg, decide_true, decide_false, ne_eq, not_true_eq_false, not_false_eq_true]) ?_; simp (disch := first | omega | assumption) only [go_sem, ↓reduceIte, Nat.reduceEqDiff, Nat.reduceAdd, Nat.reduceMul, Nat.reduceLT, Nat.reduceLeDiff, reduceCtorEq, Nat.reduceBEq, Int.reduceToNat, Int.reduceNeg, decide_true, decide_false, ne_eq, not_true_eq_false, not_false_eq_true]) | (refine hC1 _ (hA (by omega) _ (mono_sub' rfl hp)) (by simp (disch := first | omega | assumption) only [go_sem, ↓reduceIte, Nat.reduceEqDiff, Nat.reduceAdd, Nat.reduceMul, Nat.reduceLT, Nat.reduceLeDiff, reduceCtorEq, Nat.reduceBEq, Int.reduceToNat, Int.reduceNeg, decide_true, decide_false, ne_eq, not_true_eq_false, not_false_eq_true]) ?_; simp (disch := first | omega | assumption) only [go_sem, ↓reduceIte, Nat.reduceEqDiff, Nat.reduceAdd, Nat.reduceMul, Nat.reduceLT, Nat.reduceLeDiff, reduceCtorEq, Nat.reduceBEq, Int.reduceToNat, Int.reduceNeg, decide_true, decide_false, ne_eq, not_true_eq_false, not_false_eq_true]) | (refine hC1 _ (hB (by omega) _ (mono_sub' rfl hp)) (by simp (disch := first | omega | assumption) only [go_sem, ↓reduceIte, Nat.reduceEqDiff, Nat.reduceAdd, Nat.reduceMul, Nat.reduceLT, Nat.reduceLeDiff, reduceCtorEq, Nat.reduceBEq, Int.reduceToNat, Int.reduceNeg, decide_true, decide_false, ne_eq, not_true_eq_false, not_false_eq_true]) ?_; simp (disch := first | omega | assumption) only [go_sem, ↓reduceIte, Nat.reduceEqDiff, Nat.reduceAdd, Nat.reduceMul, Nat.reduceLT, Nat.reduceLeDiff, reduceCtorEq, Nat.reduceBEq, Int.reduceToNat, Int.reduceNeg, decide_true, decide_false, ne_eq, not_true_eq_false, not_false_eq_true]) | (refine hC1 _ (hD (by omega) _ (mono_sub' rfl hp)) (by simp (disch := first | omega | assumption) only [go_sem, ↓reduceIte, Nat.reduceEqDiff, Nat.reduceAdd, Nat.reduceMul, Nat.reduceLT, Nat.reduceLeDiff, reduceCtorEq, Nat.reduceBEq, Int.reduceToNat, Int.reduceNeg, decide_true, decide_false, ne_eq, not_true_eq_false, not_false_eq_true]) ?_; simp (disch := first | omega | assumption) only [go_sem, ↓reduceIte, Nat.reduceEqDiff, Nat.reduceAdd, Nat.reduceMul, Nat.reduceLT, Nat.reduceLeDiff, reduceCtorEq, Nat.reduceBEq, Int.reduceToNat, Int.reduceNeg, decide_true, decide_false, ne_eq, not_true_eq_false, not_false_eq_true]) | (refine hC1 _ (hF (by omega) _ (mono_sub' rfl hp)) (by simp (disch := first | omega | assumption) only [go_sem, ↓reduceIte, Nat.reduceEqDiff, Nat.reduceAdd, Nat.reduceMul, Nat.reduceLT, Nat.reduceLeDiff, reduceCtorEq, Nat.reduceBEq, Int.reduceToNat, Int.reduceNeg, decide_true, decide_false, ne_eq, not_true_eq_false, not_false_eq_true]) ?_; simp (disch := first | omega | assumption) only [go_sem, ↓reduceIte, Nat.reduceEqDiff, Nat.reduceAdd, Nat.reduceMul, Nat.reduceLT, Nat.reduceLeDiff, reduceCtorEq, Nat.reduceBEq, Int.reduceToNat, Int.reduceNeg, decide_true, decide_false, ne_eq, not_true_eq_false, not_false_eq_true]) | (refine hK ?_; clear hK hS hC hC1 K S C hf)))
  all_goals first | contradiction | skip
  all_goals (repeat (first | (with_reducible (first | refine K_seq ?_ | refine K_next ?_ | refine K_skip ?_ | refine K_bend ?_ | refine K_block ?_ | refine K_exit ?_ | refine X_code ?_ | refine X_lend ?_ | refine X_here ?_ | refine X_on (by decide) ?_ | refine K_lendL ?_)) | (refine K_ifT rfl rfl ?_) | (refine K_ifF rfl rfl ?_) | (refine K_ev nmd [] hng (by kernel_rfl) fun hf C S K hC1 hC hS hK => ?_; simp (disch := first | omega | assumption) only [go_sem, ↓reduceIte, Nat.reduceEqDiff, Nat.reduceAdd, Nat.reduceMul, Nat.reduceLT, Nat.reduceLeDiff, reduceCtorEq, Nat.reduceBEq, Int.reduceToNat, Int.reduceNeg]; refine hK ?_; clear hK hS hC hC1 K S C hf)))
  all_goals exact K_ret (done1 rfl)
end Go.Proofs.YtiaiggbimlbkfaaGreatDoor
