/- tuple.Encode, walked: its fold, the function that it folds with. -/
import Derived.Test.YtbpembafoloinaaGreatDoorS2
set_option linter.unusedVariables false
set_option linter.unusedSimpArgs false
namespace Go.Proofs.YtbpembafoloinaaGreatDoor
open Go Go.Ab
set_option maxRecDepth 20000
set_option maxHeartbeats 2000000
abbrev Str := List UInt8
/-- What one name is written as; what a row of names is. -/
def chunk (s : Str) : Str := Lib.itoa s.length ++ [58] ++ s ++ [44]
def encT : List Str → Str
  | [] => []
  | s :: l => chunk s ++ encT l
theorem encT_append (a b : List Str) : encT (a ++ b) = encT a ++ encT b := by
  induction a with
  | nil => rfl
  | cons s a ih => simp only [List.cons_append, encT, ih, List.append_assoc]
theorem encT_take {l : List Str} {i : Nat} (h : i < l.length) : encT (l.take (i + 1)) = encT (l.take i) ++ chunk (l.getD i default) := by
  rw [List.take_add_one, encT_append, List.getElem?_eq_getElem h, List.getD_eq_getElem?_getD, List.getElem?_eq_getElem h]
  simp [encT]
theorem encT_take_le {l : List Str} (i : Nat) : (encT (l.take i)).length ≤ (encT l).length := by
  conv => rhs; rw [← List.take_append_drop i l, encT_append, List.length_append]
  omega
theorem chunk_len (s : Str) : (Lib.itoa s.length).length + 1 + s.length + 1 = (chunk s).length := by simp only [chunk, List.length_append, List.length_cons, List.length_nil]
theorem mono_sub' {c i : Nat} {p : Oid} (hi : (i == 999983) = false) (hp : p.mono = false) : (Oid.sub c i p).mono = false := by rw [Oid.mono_sub, hi, hp]; rfl
theorem encs_fresh (q : Oid) (s : Str) (hl : (chunk s).length ≤ 140737488355328) (p : Oid) (hp : p.mono = false) (hq : ¬ Oid.under p (.ty 121 q)) :
    CallOK Tryz.prog 73 [.ptr (.ty 121 q) 0, .str s] (Oid.under p) ⟨[(.ty 121 q, .cells [.nilPtr, .nilSl])], .ptr (.ty 121 q) 0,
      [(.ty 121 q, some (.cells [.ptr (.ty 121 q) 0, .sl (.ty 5 (.sub 2 6 (.sub 1 8 p))) 1 (chunk s).length])), (.ty 5 (.sub 2 6 (.sub 1 8 p)), some (.arr 1 ((chunk s).map byA)))]⟩ := by
  have hs := chunk_len s
  have hq' : ∀ c i, ¬ Oid.under (.sub c i p) (.ty 121 q) := fun c i h => hq (Oid.under_sub h)
  refine fnOK (n := 15) (rs := [.tmp 4]) Tryz.func73 rfl rfl (by decide) rfl rfl rfl ?_; rintro x rfl hrd hng
  (repeat (first | (with_reducible (first | refine K_seq ?_ | refine K_next ?_ | refine K_skip ?_ | refine K_bend ?_ | refine K_block ?_ | refine K_exit ?_ | refine X_code ?_ | refine X_lend ?_ | refine X_here ?_ | refine X_on (by decide) ?_ | refine K_lendL ?_)) | (refine K_ifT rfl rfl ?_) | (refine K_ifF rfl rfl ?_) | (refine K_ev nmd [] hng (by kernel_rfl) fun hf C S K hC1 hC hS hK => ?_; simp (disch := first | omega | assumption) only [go_sem, ↓reduceIte, Nat.reduceEqDiff, Nat.reduceAdd, Nat.reduceMul, Nat.reduceLT, Nat.reduceLeDiff, reduceCtorEq, Nat.reduceBEq, Int.reduceToNat, Int.reduceNeg]; (repeat ((first | refine hC1 _ (itoa_ok s.length (by omega) (by omega) _ (mono_sub' rfl hp)) (by simp (disch := first | omega | assumption) only [go_sem, ↓reduceIte, Nat.reduceEqDiff, Nat.reduceAdd, Nat.reduceMul, Nat.reduceLT, Nat.reduceLeDiff, reduceCtorEq, Nat.reduceBEq, Int.reduceToNat, Int.reduceNeg]) ?_ | refine hC1 _ (ws_fresh q (chunk s) hl _ (hq' _ _)) (by simp (disch := first | omega | assumption) only [go_sem, ↓reduceIte, Nat.reduceEqDiff, Nat.reduceAdd, Nat.reduceMul, Nat.reduceLT, Nat.reduceLeDiff, reduceCtorEq, Nat.reduceBEq, Int.reduceToNat, Int.reduceNeg]) ?_); simp (disch := first | omega | assumption) only [go_sem, ↓reduceIte, Nat.reduceEqDiff, Nat.reduceAdd, Nat.reduceMul, Nat.reduceLT, Nat.reduceLeDiff, reduceCtorEq, Nat.reduceBEq, Int.reduceToNat, Int.reduceNeg])); refine hK ?_; clear hK hS hC hC1 K S C hf)))
  refine K_ret (done_upd rfl ?_ ?_)
  all_goals simp only [List.mem_cons, List.not_mem_nil, or_false, forall_eq_or_imp, forall_eq, Option.some.injEq, forall_eq', Mem.of_cons_at, eq_self, if_true, ↓reduceIte, reduceCtorEq, implies_true, not_true_eq_false, false_imp_iff, true_and, and_true, false_and, and_false, imp_self, Oid.ty.injEq, Nat.reduceEqDiff]
theorem encs_used (q r : Oid) (s0 s : Str) (hl : s0.length + (chunk s).length ≤ 140737488355328) (p : Oid) (hp : p.mono = false) (hq : ¬ Oid.under p (.ty 121 q)) (hr : ¬ Oid.under p (.ty 5 r)) :
    CallOK Tryz.prog 73 [.ptr (.ty 121 q) 0, .str s] (Oid.under p) ⟨[(.ty 121 q, .cells [.ptr (.ty 121 q) 0, .sl (.ty 5 r) 1 s0.length]), (.ty 5 r, .arr 1 (s0.map byA))], .ptr (.ty 121 q) 0,
      [(.ty 121 q, some (.cells [.ptr (.ty 121 q) 0, .sl (.ty 5 (.sub 2 6 (.sub 1 8 p))) 1 (s0 ++ chunk s).length])), (.ty 5 r, none), (.ty 5 (.sub 2 6 (.sub 1 8 p)), some (.arr 1 ((s0 ++ chunk s).map byA)))]⟩ := by
  have hs := chunk_len s
  have hq' : ∀ c i, ¬ Oid.under (.sub c i p) (.ty 121 q) := fun c i h => hq (Oid.under_sub h)
  have hr' : ∀ c i, ¬ Oid.under (.sub c i p) (.ty 5 r) := fun c i h => hr (Oid.under_sub h)
  have hn : ¬ Oid.sub 2 6 (.sub 1 8 p) = r := fun e => hr (by subst e; simp [Oid.under, Oid.under_refl])
  have hn' : ¬ r = Oid.sub 2 6 (.sub 1 8 p) := fun e => hn e.symm
  refine fnOK (n := 15) (rs := [.tmp 4]) Tryz.func73 rfl rfl (by decide) rfl rfl rfl ?_; rintro x rfl hrd hng
  (repeat (first | (with_reducible (first | refine K_seq ?_ | refine K_next ?_ | refine K_skip ?_ | refine K_bend ?_ | refine K_block ?_ | refine K_exit ?_ | refine X_code ?_ | refine X_lend ?_ | refine X_here ?_ | refine X_on (by decide) ?_ | refine K_lendL ?_)) | (refine K_ifT rfl rfl ?_) | (refine K_ifF rfl rfl ?_) | (refine K_ev nmd [] hng (by kernel_rfl) fun hf C S K hC1 hC hS hK => ?_; simp (disch := first | omega | assumption) only [go_sem, ↓reduceIte, Nat.reduceEqDiff, Nat.reduceAdd, Nat.reduceMul, Nat.reduceLT, Nat.reduceLeDiff, reduceCtorEq, Nat.reduceBEq, Int.reduceToNat, Int.reduceNeg]; (repeat ((first | refine hC1 _ (itoa_ok s.length (by omega) (by omega) _ (mono_sub' rfl hp)) (by simp (disch := first | omega | assumption) only [go_sem, ↓reduceIte, Nat.reduceEqDiff, Nat.reduceAdd, Nat.reduceMul, Nat.reduceLT, Nat.reduceLeDiff, reduceCtorEq, Nat.reduceBEq, Int.reduceToNat, Int.reduceNeg]) ?_ | refine hC1 _ (ws_used q r s0 (chunk s) hl _ (hq' _ _) (hr' _ _)) (by simp (disch := first | omega | assumption) only [go_sem, ↓reduceIte, Nat.reduceEqDiff, Nat.reduceAdd, Nat.reduceMul, Nat.reduceLT, Nat.reduceLeDiff, reduceCtorEq, Nat.reduceBEq, Int.reduceToNat, Int.reduceNeg]) ?_); simp (disch := first | omega | assumption) only [go_sem, ↓reduceIte, Nat.reduceEqDiff, Nat.reduceAdd, Nat.reduceMul, Nat.reduceLT, Nat.reduceLeDiff, reduceCtorEq, Nat.reduceBEq, Int.reduceToNat, Int.reduceNeg])); refine hK ?_; clear hK hS hC hC1 K S C hf)))
  refine K_ret (done_upd rfl ?_ ?_)
  all_goals simp only [List.mem_cons, List.not_mem_nil, or_false, forall_eq_or_imp, forall_eq, Option.some.injEq, forall_eq', Mem.of_cons_at, eq_self, if_true, ↓reduceIte, reduceCtorEq, implies_true, not_true_eq_false, false_imp_iff, true_and, and_true, false_and, and_false, imp_self, Oid.ty.injEq, Nat.reduceEqDiff, hn, hn', List.length_append]
/-- The row behind n names. -/
def rowN (n : Nat) (p : Oid) : Oid := .sub 2 6 (.sub 1 8 (.sub (4 * n) 3 p))
theorem rowN_young {c n : Nat} {p : Oid} (h : 4 * n < c) : ¬ Oid.under (.sub c 3 p) (.ty 5 (rowN n p)) := by
  have hself : ¬ Oid.under (.sub c 3 p) p := fun h => by have := Oid.under_depth h; simp [Oid.depth] at this; omega
  simp only [rowN, Oid.under, reduceCtorEq, false_or, Oid.sub.injEq, Nat.reduceEqDiff, false_and, and_false, hself, or_false]
  omega
theorem fold_ok (l : List Str) (hne : ¬ l = []) (hl : (encT l).length ≤ 140737488355328) (hn : l.length ≤ 140737488355328) (q : Oid) (p : Oid) (hp : p.mono = false) (hq : ¬ Oid.under p (.ty 121 q)) :
    CallOK Tryz.prog 72 [.list 1 (l.map AV.str), .ptr (.ty 121 q) 0, .fn (.func 73) [] []] (Oid.under p) ⟨[(.ty 121 q, .cells [.nilPtr, .nilSl])], .ptr (.ty 121 q) 0,
      [(.ty 121 q, some (.cells [.ptr (.ty 121 q) 0, .sl (.ty 5 (rowN l.length p)) 1 (encT l).length])), (.ty 5 (rowN l.length p), some (.arr 1 ((encT l).map byA)))]⟩ := by
  have hq' : ∀ c i, ¬ Oid.under (.sub c i p) (.ty 121 q) := fun c i h => hq (Oid.under_sub h)
  refine fnOK (n := 21) (rs := [.tmp 6]) Tryz.func72 rfl rfl (by decide) rfl rfl rfl ?_; rintro x rfl hrd hng
  (repeat (first | (with_reducible (first | refine K_seq ?_ | refine K_next ?_ | refine K_skip ?_ | refine K_bend ?_ | refine K_block ?_ | refine K_exit ?_ | refine X_code ?_ | refine X_lend ?_ | refine X_here ?_ | refine X_on (by decide) ?_ | refine K_lendL ?_)) | (refine K_ifT rfl rfl ?_) | (refine K_ifF rfl rfl ?_) | (refine K_ev nmd [] hng (by kernel_rfl) fun hf C S K hC1 hC hS hK => ?_; simp (disch := first | omega | assumption) only [go_sem, ↓reduceIte, Nat.reduceEqDiff, Nat.reduceAdd, Nat.reduceMul, Nat.reduceLT, Nat.reduceLeDiff, reduceCtorEq, Nat.reduceBEq, Int.reduceToNat, Int.reduceNeg]; refine hK ?_; clear hK hS hC hC1 K S C hf)))
  refine K_loop [1, 2, 9, 10, 11] (fun k s' => ∃ (i : Nat) (M : List (Oid × AObj)), k = l.length - i ∧ i ≤ l.length ∧ (i = 0 ∧ M = [(.ty 121 q, .cells [.nilPtr, .nilSl])] ∨
      ¬ i = 0 ∧ M = [(.ty 121 q, .cells [.ptr (.ty 121 q) 0, .sl (.ty 5 (rowN i x.p)) 1 (encT (l.take i)).length]), (.ty 5 (rowN i x.p), .arr 1 ((encT (l.take i)).map byA))]) ∧
      s' = ⟨[(1, .ptr (.ty 121 q) 0), (2, .fn (.func 73) [] []), (9, .list 1 (l.map AV.str)), (10, .int .i64 l.length), (11, .int .i64 i)], Mem.of M, 2 + 4 * i, []⟩) _ ⟨0, _, rfl, Nat.zero_le _, .inl ⟨rfl, rfl⟩, rfl⟩ ?_
  rintro k s' ⟨i, M, rfl, hi, hM, rfl⟩
  rcases hM with ⟨rfl, rfl⟩ | ⟨h0, rfl⟩
  · (repeat (first | (with_reducible (first | refine K_seq ?_ | refine K_next ?_ | refine K_skip ?_ | refine K_bend ?_ | refine K_block ?_ | refine K_exit ?_ | refine X_code ?_ | refine X_lend ?_ | refine X_here ?_ | refine X_on (by decide) ?_ | refine K_lendL ?_)) | (refine K_ifT rfl rfl ?_) | (refine K_ifF rfl rfl ?_) | (refine K_ev nmd [] hng (by kernel_rfl) fun hf C S K hC1 hC hS hK => ?_; simp (disch := first | omega | assumption) only [go_sem, ↓reduceIte, Nat.reduceEqDiff, Nat.reduceAdd, Nat.reduceMul, Nat.reduceLT, Nat.reduceLeDiff, reduceCtorEq, Nat.reduceBEq, Int.reduceToNat, Int.reduceNeg]; refine hK ?_; clear hK hS hC hC1 K S C hf)))
    refine K_ifd rfl rfl (fun hb => ?_) (fun hb => ?_)
    · have hi0 : 0 < l.length := by omega
      have ht := encT_take (l := l) hi0
      have hle := encT_take_le (l := l) 1
      rw [List.take_zero] at ht
      simp only [Nat.zero_add] at ht
      (repeat (first | (with_reducible (first | refine K_seq ?_ | refine K_next ?_ | refine K_skip ?_ | refine K_bend ?_ | refine K_block ?_ | refine K_exit ?_ | refine X_code ?_ | refine X_lend ?_ | refine X_here ?_ | refine X_on (by decide) ?_ | refine K_lendL ?_)) | (refine K_ifT rfl rfl ?_) | (refine K_ifF rfl rfl ?_) | (refine K_ev nmd [] hng (by kernel_rfl) fun hf C S K hC1 hC hS hK => ?_; simp (disch := first | omega | assumption) only [go_sem, ↓reduceIte, Nat.reduceEqDiff, Nat.reduceAdd, Nat.reduceMul, Nat.reduceLT, Nat.reduceLeDiff, reduceCtorEq, Nat.reduceBEq, Int.reduceToNat, Int.reduceNeg]; (repeat ((first | refine hC1 _ (encs_fresh q (l.getD 0 default) (by rw [ht] at hle; simp only [encT, List.nil_append] at hle; omega) _ (mono_sub' rfl hp) (hq' _ _)) (by simp (disch := first | omega | assumption) only [go_sem, ↓reduceIte, Nat.reduceEqDiff, Nat.reduceAdd, Nat.reduceMul, Nat.reduceLT, Nat.reduceLeDiff, reduceCtorEq, Nat.reduceBEq, Int.reduceToNat, Int.reduceNeg]) ?_); simp (disch := first | omega | assumption) only [go_sem, ↓reduceIte, Nat.reduceEqDiff, Nat.reduceAdd, Nat.reduceMul, Nat.reduceLT, Nat.reduceLeDiff, reduceCtorEq, Nat.reduceBEq, Int.reduceToNat, Int.reduceNeg])); refine hK ?_; clear hK hS hC hC1 K S C hf)))
      refine ⟨_, _, ?_, fun _ _ h => h, 1, _, rfl, by omega, .inr ⟨by omega, rfl⟩, ?_⟩
      · omega
      · rw [ht]; rfl
    · exact absurd (List.eq_nil_of_length_eq_zero (by omega)) hne
  · (repeat (first | (with_reducible (first | refine K_seq ?_ | refine K_next ?_ | refine K_skip ?_ | refine K_bend ?_ | refine K_block ?_ | refine K_exit ?_ | refine X_code ?_ | refine X_lend ?_ | refine X_here ?_ | refine X_on (by decide) ?_ | refine K_lendL ?_)) | (refine K_ifT rfl rfl ?_) | (refine K_ifF rfl rfl ?_) | (refine K_ev nmd [] hng (by kernel_rfl) fun hf C S K hC1 hC hS hK => ?_; simp (disch := first | omega | assumption) only [go_sem, ↓reduceIte, Nat.reduceEqDiff, Nat.reduceAdd, Nat.reduceMul, Nat.reduceLT, Nat.reduceLeDiff, reduceCtorEq, Nat.reduceBEq, Int.reduceToNat, Int.reduceNeg]; refine hK ?_; clear hK hS hC hC1 K S C hf)))
    refine K_ifd rfl rfl (fun hb => ?_) (fun hb => ?_)
    · have ht := encT_take (l := l) (i := i) (by omega)
      have hle := encT_take_le (l := l) (i + 1)
      (repeat (first | (with_reducible (first | refine K_seq ?_ | refine K_next ?_ | refine K_skip ?_ | refine K_bend ?_ | refine K_block ?_ | refine K_exit ?_ | refine X_code ?_ | refine X_lend ?_ | refine X_here ?_ | refine X_on (by decide) ?_ | refine K_lendL ?_)) | (refine K_ifT rfl rfl ?_) | (refine K_ifF rfl rfl ?_) | (refine K_ev nmd [] hng (by kernel_rfl) fun hf C S K hC1 hC hS hK => ?_; simp (disch := first | omega | assumption) only [go_sem, ↓reduceIte, Nat.reduceEqDiff, Nat.reduceAdd, Nat.reduceMul, Nat.reduceLT, Nat.reduceLeDiff, reduceCtorEq, Nat.reduceBEq, Int.reduceToNat, Int.reduceNeg]; (repeat ((first | refine hC1 _ (encs_used q (rowN i x.p) (encT (l.take i)) (l.getD i default) (by rw [ht, List.length_append] at hle; omega) _ (mono_sub' rfl hp) (hq' _ _) (rowN_young (by omega))) (by simp (disch := first | omega | assumption) only [go_sem, ↓reduceIte, Nat.reduceEqDiff, Nat.reduceAdd, Nat.reduceMul, Nat.reduceLT, Nat.reduceLeDiff, reduceCtorEq, Nat.reduceBEq, Int.reduceToNat, Int.reduceNeg]) ?_); simp (disch := first | omega | assumption) only [go_sem, ↓reduceIte, Nat.reduceEqDiff, Nat.reduceAdd, Nat.reduceMul, Nat.reduceLT, Nat.reduceLeDiff, reduceCtorEq, Nat.reduceBEq, Int.reduceToNat, Int.reduceNeg])); refine hK ?_; clear hK hS hC hC1 K S C hf)))
      refine ⟨_, _, ?_, fun _ _ h => h, i + 1, _, rfl, by omega, .inr ⟨by omega, rfl⟩, ?_⟩
      · omega
      · have hc : 4 * (i + 1) = 2 + 4 * i + 1 + 1 := by omega
        rw [ht, List.length_append, rowN, hc, show 2 + 4 * i + 1 + 1 + 1 + 1 = 2 + (2 + 4 * i + 1 + 1) by omega]; rfl
    · obtain rfl : i = l.length := by omega
      (repeat (first | (with_reducible (first | refine K_seq ?_ | refine K_next ?_ | refine K_skip ?_ | refine K_bend ?_ | refine K_block ?_ | refine K_exit ?_ | refine X_code ?_ | refine X_lend ?_ | refine X_here ?_ | refine X_on (by decide) ?_ | refine K_lendL ?_)) | (refine K_ifT rfl rfl ?_) | (refine K_ifF rfl rfl ?_) | (refine K_ev nmd [] hng (by kernel_rfl) fun hf C S K hC1 hC hS hK => ?_; simp (disch := first | omega | assumption) only [go_sem, ↓reduceIte, Nat.reduceEqDiff, Nat.reduceAdd, Nat.reduceMul, Nat.reduceLT, Nat.reduceLeDiff, reduceCtorEq, Nat.reduceBEq, Int.reduceToNat, Int.reduceNeg]; refine hK ?_; clear hK hS hC hC1 K S C hf)))
      refine K_ret (done_upd rfl ?_ ?_)
      all_goals simp only [List.mem_cons, List.not_mem_nil, or_false, forall_eq_or_imp, forall_eq, Option.some.injEq, forall_eq', Mem.of_cons_at, eq_self, if_true, ↓reduceIte, reduceCtorEq, implies_true, not_true_eq_false, false_imp_iff, true_and, and_true, false_and, and_false, imp_self, Oid.ty.injEq, Nat.reduceEqDiff, List.take_length]
theorem fold_nil (q : Oid) (p : Oid) :
    CallOK Tryz.prog 72 [.list 1 [], .ptr q 0, .fn (.func 73) [] []] (Oid.under p) ⟨[(q, .cells [.nilPtr, .nilSl])], .ptr q 0, []⟩ := by
  refine fnOK (n := 21) (rs := [.tmp 6]) Tryz.func72 rfl rfl (by decide) rfl rfl rfl ?_; rintro x rfl hrd hng
  (repeat (first | (with_reducible (first | refine K_seq ?_ | refine K_next ?_ | refine K_skip ?_ | refine K_bend ?_ | refine K_block ?_ | refine K_exit ?_ | refine X_code ?_ | refine X_lend ?_ | refine X_here ?_ | refine X_on (by decide) ?_ | refine K_lendL ?_)) | (refine K_ifT rfl rfl ?_) | (refine K_ifF rfl rfl ?_) | (refine K_ev nmd [] hng (by kernel_rfl) fun hf C S K hC1 hC hS hK => ?_; simp (disch := first | omega | assumption) only [go_sem, ↓reduceIte, Nat.reduceEqDiff, Nat.reduceAdd, Nat.reduceMul, Nat.reduceLT, Nat.reduceLeDiff, reduceCtorEq, Nat.reduceBEq, Int.reduceToNat, Int.reduceNeg]; refine hK ?_; clear hK hS hC hC1 K S C hf)))
  refine K_loop [1, 2, 9, 10, 11] (fun k s' => k = 0 ∧ s' = ⟨[(1, .ptr q 0), (2, .fn (.func 73) [] []), (9, .list 1 []), (10, .int .i64 0), (11, .int .i64 0)], Mem.of [(q, .cells [.nilPtr, .nilSl])], 2, []⟩) _ ⟨rfl, rfl⟩ ?_
  rintro k s' ⟨rfl, rfl⟩
  (repeat (first | (with_reducible (first | refine K_seq ?_ | refine K_next ?_ | refine K_skip ?_ | refine K_bend ?_ | refine K_block ?_ | refine K_exit ?_ | refine X_code ?_ | refine X_lend ?_ | refine X_here ?_ | refine X_on (by decide) ?_ | refine K_lendL ?_)) | (refine K_ifT rfl rfl ?_) | (refine K_ifF rfl rfl ?_) | (refine K_ev nmd [] hng (by kernel_rfl) fun hf C S K hC1 hC hS hK => ?_; simp (disch := first | omega | assumption) only [go_sem, ↓reduceIte, Nat.reduceEqDiff, Nat.reduceAdd, Nat.reduceMul, Nat.reduceLT, Nat.reduceLeDiff, reduceCtorEq, Nat.reduceBEq, Int.reduceToNat, Int.reduceNeg]; refine hK ?_; clear hK hS hC hC1 K S C hf)))
  refine K_ret (done_upd rfl ?_ ?_)
  all_goals simp only [List.mem_cons, List.not_mem_nil, or_false, forall_eq_or_imp, forall_eq, Option.some.injEq, forall_eq', Mem.of_cons_at, eq_self, if_true, ↓reduceIte, reduceCtorEq, implies_true, not_true_eq_false, false_imp_iff, true_and, and_true, false_and, and_false, imp_self, Oid.ty.injEq, Nat.reduceEqDiff]
theorem under_next {c i j : Nat} {t : Nat} {p : Oid} (h : ¬ j = i) : ¬ Oid.under (.sub c j p) (.ty t (.sub c i p)) := by
  have hself : ¬ Oid.under (.sub c j p) p := fun h => by have := Oid.under_depth h; simp [Oid.depth] at this; omega
  simp only [Oid.under, reduceCtorEq, false_or, Oid.sub.injEq, h, false_and, and_false, hself, or_false, not_false_eq_true]
/-- tuple.Encode. -/
theorem encode_ok (l : List Str) (hl : (encT l).length ≤ 140737488355328) (hn : l.length ≤ 140737488355328) (p : Oid) (hp : p.mono = false) :
    CallOK Tryz.prog 51 [.list 1 (l.map AV.str)] (Oid.under p) ⟨[], .str (encT l), []⟩ := by
  by_cases hne : l = []
  · subst hne
    refine fnOK (n := 8) (rs := [.tmp 2]) Tryz.func51 rfl rfl (by decide) rfl rfl rfl ?_; rintro x rfl hrd hng
    (repeat (first | (with_reducible (first | refine K_seq ?_ | refine K_next ?_ | refine K_skip ?_ | refine K_bend ?_ | refine K_block ?_ | refine K_exit ?_ | refine X_code ?_ | refine X_lend ?_ | refine X_here ?_ | refine X_on (by decide) ?_ | refine K_lendL ?_)) | (refine K_ifT rfl rfl ?_) | (refine K_ifF rfl rfl ?_) | (refine K_ev nmd [] hng (by kernel_rfl) fun hf C S K hC1 hC hS hK => ?_; simp (disch := first | omega | assumption) only [go_sem, ↓reduceIte, Nat.reduceEqDiff, Nat.reduceAdd, Nat.reduceMul, Nat.reduceLT, Nat.reduceLeDiff, reduceCtorEq, Nat.reduceBEq, Int.reduceToNat, Int.reduceNeg]; refine hK ?_; clear hK hS hC hC1 K S C hf)))
    refine K_ev nmd [] hng (by kernel_rfl) fun hf C S K hC1 hC hS hK => ?_; simp (disch := first | omega | assumption) only [go_sem, ↓reduceIte, Nat.reduceEqDiff, Nat.reduceAdd, Nat.reduceMul, Nat.reduceLT, Nat.reduceLeDiff, reduceCtorEq, Nat.reduceBEq, Int.reduceToNat, Int.reduceNeg]
    refine hC1 _ (fold_nil (.ty 121 (.sub 1 2 _)) _) (by simp (disch := first | omega | assumption) only [go_sem, ↓reduceIte, Nat.reduceEqDiff, Nat.reduceAdd, Nat.reduceMul, Nat.reduceLT, Nat.reduceLeDiff, reduceCtorEq, Nat.reduceBEq, Int.reduceToNat, Int.reduceNeg]) ?_
    simp (disch := first | omega | assumption) only [go_sem, ↓reduceIte, Nat.reduceEqDiff, Nat.reduceAdd, Nat.reduceMul, Nat.reduceLT, Nat.reduceLeDiff, reduceCtorEq, Nat.reduceBEq, Int.reduceToNat, Int.reduceNeg]

    refine hC1 _ (string_nil (.sub 1 2 _) _) (by simp (disch := first | omega | assumption) only [go_sem, ↓reduceIte, Nat.reduceEqDiff, Nat.reduceAdd, Nat.reduceMul, Nat.reduceLT, Nat.reduceLeDiff, reduceCtorEq, Nat.reduceBEq, Int.reduceToNat, Int.reduceNeg]) ?_
    simp (disch := first | omega | assumption) only [go_sem, ↓reduceIte, Nat.reduceEqDiff, Nat.reduceAdd, Nat.reduceMul, Nat.reduceLT, Nat.reduceLeDiff, reduceCtorEq, Nat.reduceBEq, Int.reduceToNat, Int.reduceNeg]
    refine hK ?_; clear hK hS hC hC1 K S C hf
    (repeat (first | (with_reducible (first | refine K_seq ?_ | refine K_next ?_ | refine K_skip ?_ | refine K_bend ?_ | refine K_block ?_ | refine K_exit ?_ | refine X_code ?_ | refine X_lend ?_ | refine X_here ?_ | refine X_on (by decide) ?_ | refine K_lendL ?_)) | (refine K_ifT rfl rfl ?_) | (refine K_ifF rfl rfl ?_) | (refine K_ev nmd [] hng (by kernel_rfl) fun hf C S K hC1 hC hS hK => ?_; simp (disch := first | omega | assumption) only [go_sem, ↓reduceIte, Nat.reduceEqDiff, Nat.reduceAdd, Nat.reduceMul, Nat.reduceLT, Nat.reduceLeDiff, reduceCtorEq, Nat.reduceBEq, Int.reduceToNat, Int.reduceNeg]; refine hK ?_; clear hK hS hC hC1 K S C hf)))
    exact K_ret (done1 rfl)
  · have h0 : 0 < (encT l).length := by
      cases l with
      | nil => exact absurd rfl hne
      | cons s l =>
        have := chunk_len s
        simp only [encT, List.length_append]; omega
    refine fnOK (n := 8) (rs := [.tmp 2]) Tryz.func51 rfl rfl (by decide) rfl rfl rfl ?_; rintro x rfl hrd hng
    (repeat (first | (with_reducible (first | refine K_seq ?_ | refine K_next ?_ | refine K_skip ?_ | refine K_bend ?_ | refine K_block ?_ | refine K_exit ?_ | refine X_code ?_ | refine X_lend ?_ | refine X_here ?_ | refine X_on (by decide) ?_ | refine K_lendL ?_)) | (refine K_ifT rfl rfl ?_) | (refine K_ifF rfl rfl ?_) | (refine K_ev nmd [] hng (by kernel_rfl) fun hf C S K hC1 hC hS hK => ?_; simp (disch := first | omega | assumption) only [go_sem, ↓reduceIte, Nat.reduceEqDiff, Nat.reduceAdd, Nat.reduceMul, Nat.reduceLT, Nat.reduceLeDiff, reduceCtorEq, Nat.reduceBEq, Int.reduceToNat, Int.reduceNeg]; refine hK ?_; clear hK hS hC hC1 K S C hf)))
    refine K_ev nmd [] hng (by kernel_rfl) fun hf C S K hC1 hC hS hK => ?_; simp (disch := first | omega | assumption) only [go_sem, ↓reduceIte, Nat.reduceEqDiff, Nat.reduceAdd, Nat.reduceMul, Nat.reduceLT, Nat.reduceLeDiff, reduceCtorEq, Nat.reduceBEq, Int.reduceToNat, Int.reduceNeg]
    refine hC1 _ (fold_ok l hne hl hn (.sub 1 2 _) _ (mono_sub' rfl hp) (under_next (by decide))) (by simp (disch := first | omega | assumption) only [go_sem, ↓reduceIte, Nat.reduceEqDiff, Nat.reduceAdd, Nat.reduceMul, Nat.reduceLT, Nat.reduceLeDiff, reduceCtorEq, Nat.reduceBEq, Int.reduceToNat, Int.reduceNeg]) ?_
    simp (disch := first | omega | assumption) only [go_sem, ↓reduceIte, Nat.reduceEqDiff, Nat.reduceAdd, Nat.reduceMul, Nat.reduceLT, Nat.reduceLeDiff, reduceCtorEq, Nat.reduceBEq, Int.reduceToNat, Int.reduceNeg]

    refine hC1 _ (string_ok (.sub 1 2 _) (rowN l.length (.sub 1 3 x.p)) _ h0 hl _) (by simp (disch := first | omega | assumption) only [go_sem, ↓reduceIte, Nat.reduceEqDiff, Nat.reduceAdd, Nat.reduceMul, Nat.reduceLT, Nat.reduceLeDiff, reduceCtorEq, Nat.reduceBEq, Int.reduceToNat, Int.reduceNeg]) ?_
    simp (disch := first | omega | assumption) only [go_sem, ↓reduceIte, Nat.reduceEqDiff, Nat.reduceAdd, Nat.reduceMul, Nat.reduceLT, Nat.reduceLeDiff, reduceCtorEq, Nat.reduceBEq, Int.reduceToNat, Int.reduceNeg]
    refine hK ?_; clear hK hS hC hC1 K S C hf
    (repeat (first | (with_reducible (first | refine K_seq ?_ | refine K_next ?_ | refine K_skip ?_ | refine K_bend ?_ | refine K_block ?_ | refine K_exit ?_ | refine X_code ?_ | refine X_lend ?_ | refine X_here ?_ | refine X_on (by decide) ?_ | refine K_lendL ?_)) | (refine K_ifT rfl rfl ?_) | (refine K_ifF rfl rfl ?_) | (refine K_ev nmd [] hng (by kernel_rfl) fun hf C S K hC1 hC hS hK => ?_; simp (disch := first | omega | assumption) only [go_sem, ↓reduceIte, Nat.reduceEqDiff, Nat.reduceAdd, Nat.reduceMul, Nat.reduceLT, Nat.reduceLeDiff, reduceCtorEq, Nat.reduceBEq, Int.reduceToNat, Int.reduceNeg]; refine hK ?_; clear hK hS hC hC1 K S C hf)))
    exact K_ret (done1 rfl)
end Go.Proofs.YtbpembafoloinaaGreatDoor
