/- All places of a store, in order. -/
import Derived.Test.YtbpembafoloinaaGreatDoorZ7
set_option linter.unusedVariables false
set_option linter.unusedSimpArgs false
namespace Go.Proofs.YtbpembafoloinaaGreatDoor
open Go Go.Ab
set_option maxRecDepth 20000
set_option maxHeartbeats 4000000
theorem keysT_ok (o : Oid) (p : Oid) (ho : ¬ Oid.under p o) : CallOK Tryz.prog 34 [.map o] (Oid.under p) ⟨[], .fn (.func 59) [] [.ptr (.sub 0 0 p) 0], [(.sub 0 0 p, some (.cells [.map o]))]⟩ := by
  refine fnOK (n := 4) (rs := [.tmp 2]) Tryz.func34 rfl rfl (by decide) rfl rfl rfl ?_; rintro x rfl hrd hng
  (repeat (first | (with_reducible (first | refine K_seq ?_ | refine K_next ?_ | refine K_skip ?_ | refine K_bend ?_ | refine K_block ?_ | refine K_exit ?_ | refine X_code ?_ | refine X_lend ?_ | refine X_here ?_ | refine X_on (by decide) ?_ | refine K_lendL ?_)) | (refine K_ifT rfl rfl ?_) | (refine K_ifF rfl rfl ?_) | (refine K_ev nmd [] hng (by kernel_rfl) fun hf C S K hC1 hC hS hK => ?_; simp (disch := first | omega | assumption) only [go_sem, ↓reduceIte, Nat.reduceEqDiff, Nat.reduceAdd, Nat.reduceMul, Nat.reduceLT, Nat.reduceLeDiff, reduceCtorEq, Nat.reduceBEq, Int.reduceToNat, Int.reduceNeg]; refine hK ?_; clear hK hS hC hC1 K S C hf)))
  refine K_ret (done_ret _ _ rfl ⟨rfl, rfl⟩ ?_)
  intro i o' h
  rw [Mem.of_upds] at h
  exact h
theorem paths_ok (st t : Oid) (tv : AV) (es : List ME) (clock : Nat) (hel : es.length ≤ 2000000000000) (hts : ¬ t = st) (p : Oid) (hs : ¬ Oid.under p st) (ht : ¬ Oid.under p t) :
    CallOK Tryz.prog 14 [.ptr st 0] (Oid.under p) ⟨[(st, .cells [.map t, tv]), (t, .map [.ss] false es clock)], .list 1 ((sortS (es.map keyS)).map .str), []⟩ := by
  refine fnOK (n := 9) (rs := [.tmp 2]) Tryz.func14 rfl rfl (by decide) rfl rfl rfl ?_; rintro x rfl hrd hng
  have hu12 : Oid.under (.sub 1 4 x.p) (.sub 0 0 (.sub 1 4 x.p)) := Oid.under_sub (Oid.under_refl _)
  have hapt : ∀ p', Oid.under (.sub 1 5 x.p) p' → ¬ Oid.under p' (.sub 0 0 (.sub 1 4 x.p)) := fun p' h h2 => by
    have := (Oid.apart (Oid.under_trans h h2) hu12).2
    omega
  (repeat (with_reducible (first | refine K_seq ?_ | refine K_next ?_ | refine K_skip ?_ | refine K_bend ?_ | refine K_block ?_ | refine K_exit ?_ | refine X_code ?_ | refine X_lend ?_ | refine X_here ?_ | refine X_on (by decide) ?_ | refine K_lendL ?_)))
  (repeat (first | (with_reducible (first | refine K_seq ?_ | refine K_next ?_ | refine K_skip ?_ | refine K_bend ?_ | refine K_block ?_ | refine K_exit ?_ | refine X_code ?_ | refine X_lend ?_ | refine X_here ?_ | refine X_on (by decide) ?_ | refine K_lendL ?_)) | (refine K_ifT rfl rfl ?_) | (refine K_ifF rfl rfl ?_) | (refine K_ev nmd [] hng (by kernel_rfl) fun hf C S K hC1 hC hS hK => ?_; simp (disch := first | omega | assumption) only [go_sem, ↓reduceIte, Nat.reduceEqDiff, Nat.reduceAdd, Nat.reduceMul, Nat.reduceLT, Nat.reduceLeDiff, reduceCtorEq, Nat.reduceBEq, Int.reduceToNat, Int.reduceNeg]; refine hK ?_; clear hK hS hC hC1 K S C hf)))
  refine K_ev nmd [] hng (by kernel_rfl) fun hf C S K hC1 hC hS hK => ?_; simp (disch := first | omega | assumption) only [go_sem, ↓reduceIte, Nat.reduceEqDiff, Nat.reduceAdd, Nat.reduceMul, Nat.reduceLT, Nat.reduceLeDiff, reduceCtorEq, Nat.reduceBEq, Int.reduceToNat, Int.reduceNeg, Oid.not_under_sub ht, Oid.sub_not_under ht, Oid.not_under_sub hs, Oid.sub_not_under hs, hts]
  refine hC1 _ (keysT_ok t _ (fun h => ht (Oid.under_sub h))) (by simp (disch := first | omega | assumption) only [go_sem, ↓reduceIte, Nat.reduceEqDiff, Nat.reduceAdd, Nat.reduceMul, Nat.reduceLT, Nat.reduceLeDiff, reduceCtorEq, Nat.reduceBEq, Int.reduceToNat, Int.reduceNeg]) ?_
  simp (disch := first | omega | assumption) only [go_sem, ↓reduceIte, Nat.reduceEqDiff, Nat.reduceAdd, Nat.reduceMul, Nat.reduceLT, Nat.reduceLeDiff, reduceCtorEq, Nat.reduceBEq, Int.reduceToNat, Int.reduceNeg]
  refine hC1 _ (sorted_ok 59 [.ptr (.sub 0 0 (.sub 1 4 x.p)) 0] [(.sub 0 0 (.sub 1 4 x.p), .cells [.map t]), (t, .map [.ss] false es clock)] es.length (es.map keyS) _ hel (by simp) _ ?_ ?_
    (fun p' hp => keysT_seq (.sub 0 0 (.sub 1 4 x.p)) t es clock p' ?_ ?_ ?_) ?_) ?_ ?_
  · intro q hq
    simp only [List.mem_cons, List.not_mem_nil, or_false] at hq
    rcases hq with rfl | rfl
    · exact hapt _ (Oid.under_refl _)
    · exact fun h => ht (Oid.under_sub h)
  · intro q hq
    simp only [List.mem_cons, List.not_mem_nil, or_false] at hq
    rcases hq with rfl | rfl <;> (intro sz xs e; cases e)
  · exact fun e => ht (e ▸ Oid.under_sub hu12)
  · exact hapt _ hp
  · exact fun h => ht (Oid.under_sub (Oid.under_trans hp h))
  · intro l hl
    obtain ⟨U, h1, h2⟩ := hl rfl
    have h3 : l = U.map keyS := str_inj (by rw [h2, List.map_map]; rfl)
    rw [h3]
    exact h1.map _
  · have h0 := Oid.not_under_sub (fun h => ht (Oid.under_sub h) : ¬ Oid.under (.sub 1 4 x.p) t) 0 0
    have h1 := Oid.sub_not_under (fun h => ht (Oid.under_sub h) : ¬ Oid.under (.sub 1 4 x.p) t) 0 0
    have h2 := Oid.not_under_sub (fun h => hs (Oid.under_sub h) : ¬ Oid.under (.sub 1 4 x.p) st) 0 0
    have h3 := Oid.sub_not_under (fun h => hs (Oid.under_sub h) : ¬ Oid.under (.sub 1 4 x.p) st) 0 0
    simp only [fa_cons, fa_nil, Mem.of_cons_at, Mem.of_nil_at, Mem.of_upds, Mem.of_putL, putLs, putL, List.cons_append, List.nil_append, List.append_nil, ↓reduceIte, eq_self, and_true, true_and, and_self, and_false, false_and, reduceCtorEq, Oid.sub.injEq, Nat.reduceEqDiff, of_put_at, h0, h1, h2, h3, Oid.not_under_sub ht, Oid.sub_not_under ht, Oid.not_under_sub hs, Oid.sub_not_under hs, hts]
  · simp (disch := first | omega | assumption) only [go_sem, ↓reduceIte, Nat.reduceEqDiff, Nat.reduceAdd, Nat.reduceMul, Nat.reduceLT, Nat.reduceLeDiff, reduceCtorEq, Nat.reduceBEq, Int.reduceToNat, Int.reduceNeg]
    refine hK ?_; clear hK hS hC hC1 K S C hf
    (repeat (first | (with_reducible (first | refine K_seq ?_ | refine K_next ?_ | refine K_skip ?_ | refine K_bend ?_ | refine K_block ?_ | refine K_exit ?_ | refine X_code ?_ | refine X_lend ?_ | refine X_here ?_ | refine X_on (by decide) ?_ | refine K_lendL ?_)) | (refine K_ifT rfl rfl ?_) | (refine K_ifF rfl rfl ?_) | (refine K_ev nmd [] hng (by kernel_rfl) fun hf C S K hC1 hC hS hK => ?_; simp (disch := first | omega | assumption) only [go_sem, ↓reduceIte, Nat.reduceEqDiff, Nat.reduceAdd, Nat.reduceMul, Nat.reduceLT, Nat.reduceLeDiff, reduceCtorEq, Nat.reduceBEq, Int.reduceToNat, Int.reduceNeg]; refine hK ?_; clear hK hS hC hC1 K S C hf)))
    have h0 := Oid.not_under_sub (fun h => ht (Oid.under_sub h) : ¬ Oid.under (.sub 1 4 x.p) t) 0 0
    have h1 := Oid.sub_not_under (fun h => ht (Oid.under_sub h) : ¬ Oid.under (.sub 1 4 x.p) t) 0 0
    have h2 := Oid.not_under_sub (fun h => hs (Oid.under_sub h) : ¬ Oid.under (.sub 1 4 x.p) st) 0 0
    have h3 := Oid.sub_not_under (fun h => hs (Oid.under_sub h) : ¬ Oid.under (.sub 1 4 x.p) st) 0 0
    refine K_ret (done_upd rfl ?_ ?_)
    all_goals simp only [List.mem_cons, List.not_mem_nil, or_false, forall_eq_or_imp, forall_eq, Option.some.injEq, forall_eq', Mem.of_cons_at, eq_self, if_true, ↓reduceIte, reduceCtorEq, implies_true, not_true_eq_false, false_imp_iff, true_and, and_true, false_and, and_false, imp_self, of_put_at, h0, h1, h2, h3, Oid.not_under_sub ht, Oid.sub_not_under ht, Oid.not_under_sub hs, Oid.sub_not_under hs, hts]
theorem pathsP_eq {es : List ME} {L : PL} (h : MapP es L) (hs : SortG ltB L) : sortS (es.map keyS) = L.map (·.1) := by
  refine sortS_eq ?_ (List.pairwise_map.2 (hs.imp fun {a b} h => List.le_of_lt (ltS_lt h)))
  obtain ⟨E, rfl, h2, _⟩ := h
  have h3 : (E.map (entG AV.str Bits.av)).map keyS = (E.map prj).map (·.1) := by
    rw [List.map_map, List.map_map]; rfl
  rw [h3]
  exact h2.map _
end Go.Proofs.YtbpembafoloinaaGreatDoor
