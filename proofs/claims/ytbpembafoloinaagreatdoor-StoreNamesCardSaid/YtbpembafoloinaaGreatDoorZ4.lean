/- The reference's store: a place put. -/
import Derived.Test.YtbpembafoloinaaGreatDoorZ3
set_option linter.unusedVariables false
set_option linter.unusedSimpArgs false
namespace Go.Proofs.YtbpembafoloinaaGreatDoor
open Go Go.Ab
set_option maxRecDepth 20000
set_option maxHeartbeats 4000000
abbrev WL := List (Str × Unit)
theorem wrote_ok (r : Oid) (LL OO RR bb : AV) (W : WL) (hW : W.length ≤ 140737488355328) (n : Str) (p : Oid) (hr : ¬ Oid.under p r) :
    CallOK Tryz.prog 28 [.ptr r 0, .str n] (Oid.under p) ⟨[(r, .cells [LL, OO, RR, .list 1 (W.map fun q => .str q.1), bb])], .bool (lookG n W).isSome, []⟩ := by
  refine fnOK (n := 24) (rs := [.tmp 4]) Tryz.func28 rfl rfl (by decide) rfl rfl rfl ?_; rintro x rfl hrd hng
  (repeat (first | (with_reducible (first | refine K_seq ?_ | refine K_next ?_ | refine K_skip ?_ | refine K_bend ?_ | refine K_block ?_ | refine K_exit ?_ | refine X_code ?_ | refine X_lend ?_ | refine X_here ?_ | refine X_on (by decide) ?_ | refine K_lendL ?_)) | (refine K_ifT rfl rfl ?_) | (refine K_ifF rfl rfl ?_) | (refine K_ev nmd [] hng (by kernel_rfl) fun hf C S K hC1 hC hS hK => ?_; simp (disch := first | omega | assumption) only [go_sem, ↓reduceIte, Nat.reduceEqDiff, Nat.reduceAdd, Nat.reduceMul, Nat.reduceLT, Nat.reduceLeDiff, reduceCtorEq, Nat.reduceBEq, Int.reduceToNat, Int.reduceNeg, Oid.not_under_sub hr, Oid.sub_not_under hr]; refine hK ?_; clear hK hS hC hC1 K S C hf)))
  refine K_loop [0, 1, 5] (fun k s' => ∃ i c : Nat, k = W.length - i ∧ i ≤ W.length ∧ lookG n W = lookG n (W.drop i) ∧ s' = ⟨[(0, .ptr r 0), (1, .str n), (5, .int .i64 i)], Mem.of [(r, .cells [LL, OO, RR, .list 1 (W.map fun q => .str q.1), bb])], c, []⟩) _ ⟨0, _, rfl, Nat.zero_le _, rfl, rfl⟩ ?_
  rintro k s' ⟨i, c, rfl, hi, hlk, rfl⟩
  (repeat (first | (with_reducible (first | refine K_seq ?_ | refine K_next ?_ | refine K_skip ?_ | refine K_bend ?_ | refine K_block ?_ | refine K_exit ?_ | refine X_code ?_ | refine X_lend ?_ | refine X_here ?_ | refine X_on (by decide) ?_ | refine K_lendL ?_)) | (refine K_ifT rfl rfl ?_) | (refine K_ifF rfl rfl ?_) | (refine K_ev nmd [] hng (by kernel_rfl) fun hf C S K hC1 hC hS hK => ?_; simp (disch := first | omega | assumption) only [go_sem, ↓reduceIte, Nat.reduceEqDiff, Nat.reduceAdd, Nat.reduceMul, Nat.reduceLT, Nat.reduceLeDiff, reduceCtorEq, Nat.reduceBEq, Int.reduceToNat, Int.reduceNeg, Oid.not_under_sub hr, Oid.sub_not_under hr]; refine hK ?_; clear hK hS hC hC1 K S C hf)))
  refine K_ifd rfl rfl (fun hb => ?_) (fun hb => ?_)
  · have hlt : i < W.length := by omega
    rw [drop_cons hlt, lookG] at hlk
    generalize hq : W.getD i default = q at hlk
    obtain ⟨qn, qu⟩ := q
    simp only at hlk
    (repeat (first | (with_reducible (first | refine K_seq ?_ | refine K_next ?_ | refine K_skip ?_ | refine K_bend ?_ | refine K_block ?_ | refine K_exit ?_ | refine X_code ?_ | refine X_lend ?_ | refine X_here ?_ | refine X_on (by decide) ?_ | refine K_lendL ?_)) | (refine K_ifT rfl rfl ?_) | (refine K_ifF rfl rfl ?_) | (refine K_ev nmd [] hng (by kernel_rfl) fun hf C S K hC1 hC hS hK => ?_; simp (disch := first | omega | assumption) only [go_sem, ↓reduceIte, Nat.reduceEqDiff, Nat.reduceAdd, Nat.reduceMul, Nat.reduceLT, Nat.reduceLeDiff, reduceCtorEq, Nat.reduceBEq, Int.reduceToNat, Int.reduceNeg, Oid.not_under_sub hr, Oid.sub_not_under hr, hq]; refine hK ?_; clear hK hS hC hC1 K S C hf)))
    refine K_ifd rfl rfl (fun hb => ?_) (fun hb => ?_)
    · rw [if_pos hb.symm] at hlk
      (repeat (first | (with_reducible (first | refine K_seq ?_ | refine K_next ?_ | refine K_skip ?_ | refine K_bend ?_ | refine K_block ?_ | refine K_exit ?_ | refine X_code ?_ | refine X_lend ?_ | refine X_here ?_ | refine X_on (by decide) ?_ | refine K_lendL ?_)) | (refine K_ifT rfl rfl ?_) | (refine K_ifF rfl rfl ?_) | (refine K_ev nmd [] hng (by kernel_rfl) fun hf C S K hC1 hC hS hK => ?_; simp (disch := first | omega | assumption) only [go_sem, ↓reduceIte, Nat.reduceEqDiff, Nat.reduceAdd, Nat.reduceMul, Nat.reduceLT, Nat.reduceLeDiff, reduceCtorEq, Nat.reduceBEq, Int.reduceToNat, Int.reduceNeg, Oid.not_under_sub hr, Oid.sub_not_under hr]; refine hK ?_; clear hK hS hC hC1 K S C hf)))
      refine K_ret (done_upd (by simp (disch := first | omega | assumption) only [go_sem, ↓reduceIte, Nat.reduceEqDiff, Nat.reduceAdd, Nat.reduceMul, Nat.reduceLT, Nat.reduceLeDiff, reduceCtorEq, Nat.reduceBEq, Int.reduceToNat, Int.reduceNeg, hlk]) ?_ ?_)
      all_goals simp only [List.mem_cons, List.not_mem_nil, or_false, forall_eq_or_imp, forall_eq, Option.some.injEq, forall_eq', Mem.of_cons_at, eq_self, if_true, ↓reduceIte, reduceCtorEq, implies_true, not_true_eq_false, false_imp_iff, true_and, and_true, false_and, and_false, imp_self]
    · rw [if_neg (fun e => hb e.symm)] at hlk
      (repeat (first | (with_reducible (first | refine K_seq ?_ | refine K_next ?_ | refine K_skip ?_ | refine K_bend ?_ | refine K_block ?_ | refine K_exit ?_ | refine X_code ?_ | refine X_lend ?_ | refine X_here ?_ | refine X_on (by decide) ?_ | refine K_lendL ?_)) | (refine K_ifT rfl rfl ?_) | (refine K_ifF rfl rfl ?_) | (refine K_ev nmd [] hng (by kernel_rfl) fun hf C S K hC1 hC hS hK => ?_; simp (disch := first | omega | assumption) only [go_sem, ↓reduceIte, Nat.reduceEqDiff, Nat.reduceAdd, Nat.reduceMul, Nat.reduceLT, Nat.reduceLeDiff, reduceCtorEq, Nat.reduceBEq, Int.reduceToNat, Int.reduceNeg, Oid.not_under_sub hr, Oid.sub_not_under hr]; refine hK ?_; clear hK hS hC hC1 K S C hf)))
      exact ⟨_, _, by omega, fun _ _ h => h, i + 1, _, rfl, by omega, hlk, rfl⟩
  · have : i = W.length := by omega
    subst this
    rw [List.drop_length] at hlk
    (repeat (first | (with_reducible (first | refine K_seq ?_ | refine K_next ?_ | refine K_skip ?_ | refine K_bend ?_ | refine K_block ?_ | refine K_exit ?_ | refine X_code ?_ | refine X_lend ?_ | refine X_here ?_ | refine X_on (by decide) ?_ | refine K_lendL ?_)) | (refine K_ifT rfl rfl ?_) | (refine K_ifF rfl rfl ?_) | (refine K_ev nmd [] hng (by kernel_rfl) fun hf C S K hC1 hC hS hK => ?_; simp (disch := first | omega | assumption) only [go_sem, ↓reduceIte, Nat.reduceEqDiff, Nat.reduceAdd, Nat.reduceMul, Nat.reduceLT, Nat.reduceLeDiff, reduceCtorEq, Nat.reduceBEq, Int.reduceToNat, Int.reduceNeg, Oid.not_under_sub hr, Oid.sub_not_under hr]; refine hK ?_; clear hK hS hC hC1 K S C hf)))
    refine K_ret (done_upd (by simp (disch := first | omega | assumption) only [go_sem, ↓reduceIte, Nat.reduceEqDiff, Nat.reduceAdd, Nat.reduceMul, Nat.reduceLT, Nat.reduceLeDiff, reduceCtorEq, Nat.reduceBEq, Int.reduceToNat, Int.reduceNeg, hlk, lookG]) ?_ ?_)
    all_goals simp only [List.mem_cons, List.not_mem_nil, or_false, forall_eq_or_imp, forall_eq, Option.some.injEq, forall_eq', Mem.of_cons_at, eq_self, if_true, ↓reduceIte, reduceCtorEq, implies_true, not_true_eq_false, false_imp_iff, true_and, and_true, false_and, and_false, imp_self]
/-! an insertion, by its place -/
theorem insG_split {κ ν : Type} [DecidableEq κ] {lt : κ → κ → Prop} [DecidableRel lt] (n : κ) (o : Option ν) : ∀ (L : List (κ × ν)) (i : Nat), i ≤ L.length → (∀ j q, j < i → L[j]? = some q → lt q.1 n) → (∀ q, L[i]? = some q → ¬ lt q.1 n) →
    insG lt n o L = L.take i ++ tipG n o ++ (match L[i]? with | some q => if q.1 = n then L.drop (i + 1) else L.drop i | none => [])
  | [], i, h, _, _ => by
    obtain rfl : i = 0 := by simpa using h
    simp [insG]
  | q :: L, 0, _, _, h2 => by
    have h3 := h2 q (by simp)
    simp only [insG, if_neg h3, List.take_zero, List.nil_append, List.getElem?_cons_zero, List.drop_succ_cons, List.drop_zero]
  | q :: L, i + 1, h, h1, h2 => by
    have h3 := h1 0 q (by omega) (by simp)
    have ih := insG_split (lt := lt) n o L i (by simpa using h) (fun j q' hj hq => h1 (j + 1) q' (by omega) (by simpa using hq)) (fun q' hq => h2 q' (by simpa using hq))
    simp only [insG, if_pos h3, ih, List.take_succ_cons, List.cons_append, List.getElem?_cons_succ, List.drop_succ_cons]
/-- What was put twice is put once. -/
theorem insG_same {κ ν : Type} [DecidableEq κ] {lt : κ → κ → Prop} [DecidableRel lt] (ho : Ord lt) {n : κ} {b : ν} {L : List (κ × ν)} (hs : SortG lt L) (h : lookG n L = some b) : insG lt n (some b) L = L := by
  have h1 := insG_sort ho n (some b) hs
  refine sortG_one ho ((insG_filter ho n (some b) hs).trans ?_) h1 hs
  have hm := (lookG_mem (hs.nodup ho)).1 h
  have hd := hs.nodup ho
  clear h1 h hs
  induction L with
  | nil => cases hm
  | cons q L ih =>
    simp only [List.map_cons, List.nodup_cons] at hd
    rcases List.mem_cons.1 hm with rfl | hm'
    · rw [List.filter_cons_of_neg (by simp), filter_no hd.1]
      exact .refl _
    · have hne : ¬ q.1 = n := fun e => hd.1 (e ▸ List.mem_map_of_mem (f := (·.1)) hm')
      rw [List.filter_cons_of_pos (by simpa using hne)]
      exact (List.Perm.swap _ _ _).trans ((ih hm' hd.2).cons q)
end Go.Proofs.YtbpembafoloinaaGreatDoor
