/- The reference's store: what it reads of its lists. -/
import Derived.Test.YtbpembafoloinaaGreatDoorZ1
set_option linter.unusedVariables false
set_option linter.unusedSimpArgs false
namespace Go.Proofs.YtbpembafoloinaaGreatDoor
open Go Go.Ab
set_option maxRecDepth 20000
set_option maxHeartbeats 4000000
instance : Inhabited Bits := ⟨Bits.no⟩
def pairAV (q : Str × Bits) : AV := .agg [.str q.1, .int .i64 q.2.k, .int .i64 q.2.m, .str q.2.l]
theorem get_ok (L : PL) (hL : L.length ≤ 140737488355328) (n : Str) (p : Oid) : CallOK Tryz.prog 56 [.list 4 (L.map pairAV), .str n] (Oid.under p) ⟨[], (getP L n).av, []⟩ := by
  refine fnOK (n := 28) (rs := [.cell 4 30]) Tryz.func56 rfl rfl (by decide) rfl rfl rfl ?_; rintro x rfl hrd hng
  (repeat (first | (with_reducible (first | refine K_seq ?_ | refine K_next ?_ | refine K_skip ?_ | refine K_bend ?_ | refine K_block ?_ | refine K_exit ?_ | refine X_code ?_ | refine X_lend ?_ | refine X_here ?_ | refine X_on (by decide) ?_ | refine K_lendL ?_)) | (refine K_ifT rfl rfl ?_) | (refine K_ifF rfl rfl ?_) | (refine K_ev nmd [] hng (by kernel_rfl) fun hf C S K hC1 hC hS hK => ?_; simp (disch := first | omega | assumption) only [go_sem, ↓reduceIte, Nat.reduceEqDiff, Nat.reduceAdd, Nat.reduceMul, Nat.reduceLT, Nat.reduceLeDiff, reduceCtorEq, Nat.reduceBEq, Int.reduceToNat, Int.reduceNeg]; refine hK ?_; clear hK hS hC hC1 K S C hf)))
  refine K_ifd rfl rfl (fun hb => ?_) (fun hb => ?_)
  · (repeat (first | (with_reducible (first | refine K_seq ?_ | refine K_next ?_ | refine K_skip ?_ | refine K_bend ?_ | refine K_block ?_ | refine K_exit ?_ | refine X_code ?_ | refine X_lend ?_ | refine X_here ?_ | refine X_on (by decide) ?_ | refine K_lendL ?_)) | (refine K_ifT rfl rfl ?_) | (refine K_ifF rfl rfl ?_) | (refine K_ev nmd [] hng (by kernel_rfl) fun hf C S K hC1 hC hS hK => ?_; simp (disch := first | omega | assumption) only [go_sem, ↓reduceIte, Nat.reduceEqDiff, Nat.reduceAdd, Nat.reduceMul, Nat.reduceLT, Nat.reduceLeDiff, reduceCtorEq, Nat.reduceBEq, Int.reduceToNat, Int.reduceNeg]; refine hK ?_; clear hK hS hC hC1 K S C hf)))
    exact K_ret (done_plain (by rw [getP, if_pos hb]; simp (disch := first | omega | assumption) only [go_sem, ↓reduceIte, Nat.reduceEqDiff, Nat.reduceAdd, Nat.reduceMul, Nat.reduceLT, Nat.reduceLeDiff, reduceCtorEq, Nat.reduceBEq, Int.reduceToNat, Int.reduceNeg, Bits.av]))
  · (repeat (first | (with_reducible (first | refine K_seq ?_ | refine K_next ?_ | refine K_skip ?_ | refine K_bend ?_ | refine K_block ?_ | refine K_exit ?_ | refine X_code ?_ | refine X_lend ?_ | refine X_here ?_ | refine X_on (by decide) ?_ | refine K_lendL ?_)) | (refine K_ifT rfl rfl ?_) | (refine K_ifF rfl rfl ?_) | (refine K_ev nmd [] hng (by kernel_rfl) fun hf C S K hC1 hC hS hK => ?_; simp (disch := first | omega | assumption) only [go_sem, ↓reduceIte, Nat.reduceEqDiff, Nat.reduceAdd, Nat.reduceMul, Nat.reduceLT, Nat.reduceLeDiff, reduceCtorEq, Nat.reduceBEq, Int.reduceToNat, Int.reduceNeg]; refine hK ?_; clear hK hS hC hC1 K S C hf)))
    refine K_loop [0, 1, 4, 5] (fun k s' => ∃ i c : Nat, k = L.length - i ∧ i ≤ L.length ∧ 0 < c ∧ lookG n L = lookG n (L.drop i) ∧ s' = ⟨[(0, .list 4 (L.map pairAV)), (1, .str n), (4, .ptr (.sub 0 0 x.p) 0), (5, .int .i64 i)], Mem.of [(.sub 0 0 x.p, .cells [.int .i64 0, .int .i64 0, .str []])], c, []⟩) _ ⟨0, _, rfl, Nat.zero_le _, by omega, rfl, rfl⟩ ?_
    rintro k s' ⟨i, c, rfl, hi, hc, hlk, rfl⟩
    have hc0 : ¬ c = 0 := by omega
    (repeat (first | (with_reducible (first | refine K_seq ?_ | refine K_next ?_ | refine K_skip ?_ | refine K_bend ?_ | refine K_block ?_ | refine K_exit ?_ | refine X_code ?_ | refine X_lend ?_ | refine X_here ?_ | refine X_on (by decide) ?_ | refine K_lendL ?_)) | (refine K_ifT rfl rfl ?_) | (refine K_ifF rfl rfl ?_) | (refine K_ev nmd [] hng (by kernel_rfl) fun hf C S K hC1 hC hS hK => ?_; simp (disch := first | omega | assumption) only [go_sem, ↓reduceIte, Nat.reduceEqDiff, Nat.reduceAdd, Nat.reduceMul, Nat.reduceLT, Nat.reduceLeDiff, reduceCtorEq, Nat.reduceBEq, Int.reduceToNat, Int.reduceNeg]; refine hK ?_; clear hK hS hC hC1 K S C hf)))
    refine K_ifd rfl rfl (fun hb => ?_) (fun hb => ?_)
    · have hlt : i < L.length := by omega
      rw [drop_cons hlt, lookG] at hlk
      generalize hq : L.getD i default = q at hlk
      obtain ⟨qn, qk, qm, ql⟩ := q
      simp only at hlk
      (repeat (first | (with_reducible (first | refine K_seq ?_ | refine K_next ?_ | refine K_skip ?_ | refine K_bend ?_ | refine K_block ?_ | refine K_exit ?_ | refine X_code ?_ | refine X_lend ?_ | refine X_here ?_ | refine X_on (by decide) ?_ | refine K_lendL ?_)) | (refine K_ifT rfl rfl ?_) | (refine K_ifF rfl rfl ?_) | (refine K_ev nmd [] hng (by kernel_rfl) fun hf C S K hC1 hC hS hK => ?_; simp (disch := first | omega | assumption) only [go_sem, ↓reduceIte, Nat.reduceEqDiff, Nat.reduceAdd, Nat.reduceMul, Nat.reduceLT, Nat.reduceLeDiff, reduceCtorEq, Nat.reduceBEq, Int.reduceToNat, Int.reduceNeg, hq, pairAV, AV.cells]; refine hK ?_; clear hK hS hC hC1 K S C hf)))
      refine K_ifd rfl rfl (fun hb => ?_) (fun hb => ?_)
      · rw [if_pos hb.symm] at hlk
        (repeat (first | (with_reducible (first | refine K_seq ?_ | refine K_next ?_ | refine K_skip ?_ | refine K_bend ?_ | refine K_block ?_ | refine K_exit ?_ | refine X_code ?_ | refine X_lend ?_ | refine X_here ?_ | refine X_on (by decide) ?_ | refine K_lendL ?_)) | (refine K_ifT rfl rfl ?_) | (refine K_ifF rfl rfl ?_) | (refine K_ev nmd [] hng (by kernel_rfl) fun hf C S K hC1 hC hS hK => ?_; simp (disch := first | omega | assumption) only [go_sem, ↓reduceIte, Nat.reduceEqDiff, Nat.reduceAdd, Nat.reduceMul, Nat.reduceLT, Nat.reduceLeDiff, reduceCtorEq, Nat.reduceBEq, Int.reduceToNat, Int.reduceNeg, hq, pairAV, AV.cells]; refine hK ?_; clear hK hS hC hC1 K S C hf)))
        exact K_ret (done_plain (by rw [getP, if_neg (by assumption), hlk]; simp (disch := first | omega | assumption) only [go_sem, ↓reduceIte, Nat.reduceEqDiff, Nat.reduceAdd, Nat.reduceMul, Nat.reduceLT, Nat.reduceLeDiff, reduceCtorEq, Nat.reduceBEq, Int.reduceToNat, Int.reduceNeg, Bits.av, Bits.no, Option.getD_some, Option.getD_none, lookG]))
      · rw [if_neg (fun e => hb e.symm)] at hlk
        (repeat (first | (with_reducible (first | refine K_seq ?_ | refine K_next ?_ | refine K_skip ?_ | refine K_bend ?_ | refine K_block ?_ | refine K_exit ?_ | refine X_code ?_ | refine X_lend ?_ | refine X_here ?_ | refine X_on (by decide) ?_ | refine K_lendL ?_)) | (refine K_ifT rfl rfl ?_) | (refine K_ifF rfl rfl ?_) | (refine K_ev nmd [] hng (by kernel_rfl) fun hf C S K hC1 hC hS hK => ?_; simp (disch := first | omega | assumption) only [go_sem, ↓reduceIte, Nat.reduceEqDiff, Nat.reduceAdd, Nat.reduceMul, Nat.reduceLT, Nat.reduceLeDiff, reduceCtorEq, Nat.reduceBEq, Int.reduceToNat, Int.reduceNeg]; refine hK ?_; clear hK hS hC hC1 K S C hf)))
        exact ⟨_, _, by omega, fun _ _ h => h, i + 1, _, rfl, by omega, by omega, hlk, rfl⟩
    · have : i = L.length := by omega
      subst this
      rw [List.drop_length] at hlk
      (repeat (first | (with_reducible (first | refine K_seq ?_ | refine K_next ?_ | refine K_skip ?_ | refine K_bend ?_ | refine K_block ?_ | refine K_exit ?_ | refine X_code ?_ | refine X_lend ?_ | refine X_here ?_ | refine X_on (by decide) ?_ | refine K_lendL ?_)) | (refine K_ifT rfl rfl ?_) | (refine K_ifF rfl rfl ?_) | (refine K_ev nmd [] hng (by kernel_rfl) fun hf C S K hC1 hC hS hK => ?_; simp (disch := first | omega | assumption) only [go_sem, ↓reduceIte, Nat.reduceEqDiff, Nat.reduceAdd, Nat.reduceMul, Nat.reduceLT, Nat.reduceLeDiff, reduceCtorEq, Nat.reduceBEq, Int.reduceToNat, Int.reduceNeg]; refine hK ?_; clear hK hS hC hC1 K S C hf)))
      exact K_ret (done_plain (by rw [getP, if_neg (by assumption), hlk]; simp (disch := first | omega | assumption) only [go_sem, ↓reduceIte, Nat.reduceEqDiff, Nat.reduceAdd, Nat.reduceMul, Nat.reduceLT, Nat.reduceLeDiff, reduceCtorEq, Nat.reduceBEq, Int.reduceToNat, Int.reduceNeg, Bits.av, Bits.no, Option.getD_some, Option.getD_none, lookG]))
/-! the names below a place -/
theorem pre_ref {k n : Str} : preT k (n ++ [47]) = true ↔ n.length < k.length ∧ k.take n.length = n ∧ k.getD n.length 0 = 47 := by
  simp only [preT, Bool.and_eq_true, decide_eq_true_eq, List.length_append, List.length_cons, List.length_nil]
  constructor
  · rintro ⟨h1, h2⟩
    have hlt : n.length < k.length := by omega
    rw [Nat.zero_add, List.take_succ_eq_append_getElem hlt] at h2
    have h3 := List.append_inj h2 (by simp; omega)
    refine ⟨hlt, h3.1, ?_⟩
    rw [getD_in hlt]
    simpa using h3.2
  · rintro ⟨h1, h2, h3⟩
    refine ⟨by omega, ?_⟩
    rw [getD_in h1] at h3
    rw [Nat.zero_add, List.take_succ_eq_append_getElem h1, h2, h3]
def noB (r : Str) (k : Nat) : Bool := (r.take k).all fun b => decide (¬ b = 47)
theorem noB_step {r : Str} {k : Nat} (h : k < r.length) : noB r (k + 1) = (noB r k && decide (¬ r.getD k 0 = 47)) := by
  unfold noB
  rw [List.take_succ_eq_append_getElem h, List.all_append, getD_in h]
  simp
theorem noB_full (r : Str) : noB r r.length = true ↔ ¬ 0 ≤ Lib.indexByte r 47 := by
  unfold noB
  rw [List.take_length, List.all_eq_true]
  rcases idx_spec 47 r with ⟨h1, h2⟩ | ⟨i, h1, h2, h3, _⟩
  · refine ⟨fun _ => by omega, fun _ b hb => ?_⟩
    obtain ⟨j, hj, rfl⟩ := List.mem_iff_getElem.1 hb
    have := h2 j hj
    rw [getD_in hj] at this
    simpa using this
  · refine ⟨fun h => ?_, fun h => by omega⟩
    have := h (r.getD i 0) (by rw [getD_in h2]; exact List.getElem_mem h2)
    rw [h3] at this
    simp at this
theorem restOf_ref (n k : Str) : restOf n k = if n.length < k.length ∧ k.take n.length = n ∧ k.getD n.length 0 = 47 then (if noB (k.drop (n.length + 1)) (k.drop (n.length + 1)).length = true then some (k.drop (n.length + 1)) else none) else none := by
  unfold restOf
  by_cases h1 : preT k (n ++ [47]) = true
  · rw [if_pos (pre_ref.1 h1)]
    by_cases h2 : noB (k.drop (n.length + 1)) (k.drop (n.length + 1)).length = true
    · rw [if_pos h2, if_pos ⟨h1, (noB_full _).1 h2⟩]
    · rw [if_neg h2, if_neg fun h => h2 ((noB_full _).2 h.2)]
  · rw [if_neg fun h => h1 h.1, if_neg fun h => h1 (pre_ref.2 h)]
end Go.Proofs.YtbpembafoloinaaGreatDoor
