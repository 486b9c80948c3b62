/- The reference's names below a place, its places, whether a place was written. -/
import Derived.Test.YtbpembafoloinaaGreatDoorZ2
set_option linter.unusedVariables false
set_option linter.unusedSimpArgs false
namespace Go.Proofs.YtbpembafoloinaaGreatDoor
open Go Go.Ab
set_option maxRecDepth 20000
set_option maxHeartbeats 4000000
theorem namesR_ok (L : PL) (hL : POk L) (n : Str) (hn : n.length ≤ 140737488355000) (p : Oid) : CallOK Tryz.prog 32 [.list 4 (L.map pairAV), .str n] (Oid.under p) ⟨[], .list 1 ((namesP L n).map AV.str), []⟩ := by
  have hL1 := hL.len
  refine fnOK (n := 66) (rs := [.tmp 4]) Tryz.func32 rfl rfl (by decide) rfl rfl rfl ?_; rintro x rfl hrd hng
  (repeat (first | (with_reducible (first | refine K_seq ?_ | refine K_next ?_ | refine K_skip ?_ | refine K_bend ?_ | refine K_block ?_ | refine K_exit ?_ | refine X_code ?_ | refine X_lend ?_ | refine X_here ?_ | refine X_on (by decide) ?_ | refine K_lendL ?_)) | (refine K_ifT rfl rfl ?_) | (refine K_ifF rfl rfl ?_) | (refine K_ev nmd [] hng (by kernel_rfl) fun hf C S K hC1 hC hS hK => ?_; simp (disch := first | omega | assumption) only [go_sem, ↓reduceIte, Nat.reduceEqDiff, Nat.reduceAdd, Nat.reduceMul, Nat.reduceLT, Nat.reduceLeDiff, reduceCtorEq, Nat.reduceBEq, Int.reduceToNat, Int.reduceNeg]; refine hK ?_; clear hK hS hC hC1 K S C hf)))
  refine K_void 5 1 rfl ?_
  simp (disch := first | omega | assumption) only [go_sem, ↓reduceIte, Nat.reduceEqDiff, Nat.reduceAdd, Nat.reduceMul, Nat.reduceLT, Nat.reduceLeDiff, reduceCtorEq, Nat.reduceBEq, Int.reduceToNat, Int.reduceNeg]
  refine K_loop [0, 1, 5, 6] (fun k s' => ∃ (i d j c : Nat) (done : List Str), k = L.length - i ∧ i ≤ L.length ∧ d < c ∧ done.length ≤ i ∧ namesP L n = done ++ namesP (L.drop i) n ∧
      s' = ⟨[(0, .list 4 (L.map pairAV)), (1, .str n), (5, .sl (.sub d j x.p) 1 done.length), (6, .int .i64 i)], Mem.of [(.sub d j x.p, .arr 1 (done.map AV.str))], c, []⟩) _ ⟨0, 3, 0, 4, [], rfl, Nat.zero_le _, by omega, Nat.le_refl _, rfl, rfl⟩ ?_
  rintro k s' ⟨i, d, j, c, done, rfl, hi, hdc, hdl, hnm, rfl⟩
  (repeat (first | (with_reducible (first | refine K_seq ?_ | refine K_next ?_ | refine K_skip ?_ | refine K_bend ?_ | refine K_block ?_ | refine K_exit ?_ | refine X_code ?_ | refine X_lend ?_ | refine X_here ?_ | refine X_on (by decide) ?_ | refine K_lendL ?_)) | (refine K_ifT rfl rfl ?_) | (refine K_ifF rfl rfl ?_) | (refine K_ev nmd [] hng (by kernel_rfl) fun hf C S K hC1 hC hS hK => ?_; simp (disch := first | omega | assumption) only [go_sem, ↓reduceIte, Nat.reduceEqDiff, Nat.reduceAdd, Nat.reduceMul, Nat.reduceLT, Nat.reduceLeDiff, reduceCtorEq, Nat.reduceBEq, Int.reduceToNat, Int.reduceNeg]; refine hK ?_; clear hK hS hC hC1 K S C hf)))
  refine K_ifd rfl rfl (fun hb => ?_) (fun hb => ?_)
  · have hlt : i < L.length := by omega
    have hkl := hL.key (L.getD i default) (by rw [getD_in hlt]; exact List.getElem_mem hlt)
    have hstep : namesP (L.drop i) n = (restOf n (L.getD i default).1).toList ++ namesP (L.drop (i + 1)) n := by
      rw [drop_cons hlt, namesP, List.filterMap_cons]
      cases restOf n (L.getD i default).1 <;> rfl
    rw [hstep, restOf_ref] at hnm
    generalize hq : L.getD i default = q at hnm hkl
    obtain ⟨s, qk, qm, ql⟩ := q
    simp only at hnm hkl
    (repeat (first | (with_reducible (first | refine K_seq ?_ | refine K_next ?_ | refine K_skip ?_ | refine K_bend ?_ | refine K_exit ?_ | refine X_code ?_ | refine X_lend ?_ | refine X_here ?_ | refine X_on (by decide) ?_ | refine K_lendL ?_)) | (refine K_ifT rfl rfl ?_) | (refine K_ifF rfl rfl ?_) | (refine K_ev nmd [] hng (by kernel_rfl) fun hf C S K hC1 hC hS hK => ?_; simp (disch := first | omega | assumption) only [go_sem, ↓reduceIte, Nat.reduceEqDiff, Nat.reduceAdd, Nat.reduceMul, Nat.reduceLT, Nat.reduceLeDiff, reduceCtorEq, Nat.reduceBEq, Int.reduceToNat, Int.reduceNeg]; refine hK ?_; clear hK hS hC hC1 K S C hf)))
    refine K_block ?_
    (repeat (first | (with_reducible (first | refine K_seq ?_ | refine K_next ?_ | refine K_skip ?_ | refine K_bend ?_ | refine K_block ?_ | refine K_exit ?_ | refine X_code ?_ | refine X_lend ?_ | refine X_here ?_ | refine X_on (by decide) ?_ | refine K_lendL ?_)) | (refine K_ifT rfl rfl ?_) | (refine K_ifF rfl rfl ?_) | (refine K_ev nmd [] hng (by kernel_rfl) fun hf C S K hC1 hC hS hK => ?_; simp (disch := first | omega | assumption) only [go_sem, ↓reduceIte, Nat.reduceEqDiff, Nat.reduceAdd, Nat.reduceMul, Nat.reduceLT, Nat.reduceLeDiff, reduceCtorEq, Nat.reduceBEq, Int.reduceToNat, Int.reduceNeg, hq, pairAV, AV.cells]; refine hK ?_; clear hK hS hC hC1 K S C hf)))
    refine K_cut [0, 1, 5, 6, 7, 41] (fun s' => ∃ (b : Bool), s' = ⟨[(0, .list 4 (L.map pairAV)), (1, .str n), (5, .sl (.sub d j x.p) 1 done.length), (6, .int .i64 i), (7, .str s), (41, .bool b)], Mem.of [(.sub d j x.p, .arr 1 (done.map AV.str))], c + 1 + 1 + 1, []⟩ ∧ (b = false ↔ (n.length < s.length ∧ s.take n.length = n ∧ s.getD n.length 0 = 47))) ?_ ?_
    · refine K_ev nmd [(5, 27), (13, 35)] hng (by kernel_rfl) fun hf C S K hC1 hC hS hK => ?_; simp (disch := first | omega | assumption) only [go_sem, ↓reduceIte, Nat.reduceEqDiff, Nat.reduceAdd, Nat.reduceMul, Nat.reduceLT, Nat.reduceLeDiff, reduceCtorEq, Nat.reduceBEq, Int.reduceToNat, Int.reduceNeg]
      (repeat' (first | (refine evG_split (fun hv => ?_) (fun hv => ?_) <;> (try simp only [decide_eq_true_eq, decide_eq_false_iff_not, Bool.not_eq_true', Bool.not_eq_false', Bool.and_eq_true] at hv) <;> simp (disch := first | omega | assumption) only [go_sem, ↓reduceIte, Nat.reduceEqDiff, Nat.reduceAdd, Nat.reduceMul, Nat.reduceLT, Nat.reduceLeDiff, reduceCtorEq, Nat.reduceBEq, Int.reduceToNat, Int.reduceNeg, hv, Int.reduceEq, Int.reduceNe, ne_eq, not_true_eq_false, not_false_eq_true, decide_true, decide_false]) | (refine hK ?_; clear hK hS hC hC1 K S C hf)))
      · rename_i h1
        refine K_cutN ⟨_, rfl, ?_⟩
        simp only [decide_eq_false_iff_not, Classical.not_not] at hv ⊢
        exact ⟨fun h => ⟨by omega, hv, UInt8.toNat_inj.1 (by have : (47 : UInt8).toNat = 47 := rfl; omega)⟩, fun h => by rw [h.2.2]; rfl⟩
      · exact K_cutN ⟨_, rfl, ⟨fun h => (by cases h), fun h => absurd h.2.1 hv⟩⟩
      · exact K_cutN ⟨_, rfl, ⟨fun h => (by cases h), fun h => (by omega)⟩⟩
    rintro s' ⟨b, rfl, hiff⟩
    refine K_if rfl rfl (fun hb => ?_) (fun hb => ?_)
    · have hC : ¬ (n.length < s.length ∧ s.take n.length = n ∧ s.getD n.length 0 = 47) := fun h => by rw [hiff.2 h] at hb; cases hb
      rw [if_neg hC] at hnm
      (repeat (first | (with_reducible (first | refine K_seq ?_ | refine K_next ?_ | refine K_skip ?_ | refine K_bend ?_ | refine K_block ?_ | refine K_exit ?_ | refine X_code ?_ | refine X_lend ?_ | refine X_here ?_ | refine X_on (by decide) ?_ | refine K_lendL ?_)) | (refine K_ifT rfl rfl ?_) | (refine K_ifF rfl rfl ?_) | (refine K_ev nmd [] hng (by kernel_rfl) fun hf C S K hC1 hC hS hK => ?_; simp (disch := first | omega | assumption) only [go_sem, ↓reduceIte, Nat.reduceEqDiff, Nat.reduceAdd, Nat.reduceMul, Nat.reduceLT, Nat.reduceLeDiff, reduceCtorEq, Nat.reduceBEq, Int.reduceToNat, Int.reduceNeg]; refine hK ?_; clear hK hS hC hC1 K S C hf)))
      exact ⟨_, _, by omega, fun _ _ h => h, i + 1, d, j, _, done, rfl, by omega, by omega, by omega, by simpa using hnm, rfl⟩
    · have hC := hiff.1 hb
      rw [if_pos hC] at hnm
      have hn1 : ((n.length : Int) + 1).toNat = n.length + 1 := by omega
      have hrl : (s.drop (n.length + 1)).length ≤ 1000000 := by rw [List.length_drop]; omega
      generalize hr : s.drop (n.length + 1) = r at hnm hrl
      have hsl := hC.1
      (repeat (first | (with_reducible (first | refine K_seq ?_ | refine K_next ?_ | refine K_skip ?_ | refine K_bend ?_ | refine K_block ?_ | refine K_exit ?_ | refine X_code ?_ | refine X_lend ?_ | refine X_here ?_ | refine X_on (by decide) ?_ | refine K_lendL ?_)) | (refine K_ifT rfl rfl ?_) | (refine K_ifF rfl rfl ?_) | (refine K_ev nmd [] hng (by kernel_rfl) fun hf C S K hC1 hC hS hK => ?_; simp (disch := first | omega | assumption) only [go_sem, ↓reduceIte, Nat.reduceEqDiff, Nat.reduceAdd, Nat.reduceMul, Nat.reduceLT, Nat.reduceLeDiff, reduceCtorEq, Nat.reduceBEq, Int.reduceToNat, Int.reduceNeg, hn1, hr]; refine hK ?_; clear hK hS hC hC1 K S C hf)))
      refine K_loop [0, 1, 5, 6, 8, 9, 10] (fun k s' => ∃ q c' : Nat, k = r.length - q ∧ q ≤ r.length ∧ d < c' ∧ s' = ⟨[(0, .list 4 (L.map pairAV)), (1, .str n), (5, .sl (.sub d j x.p) 1 done.length), (6, .int .i64 i), (8, .str r), (9, .bool (noB r q)), (10, .int .i64 q)], Mem.of [(.sub d j x.p, .arr 1 (done.map AV.str))], c', []⟩) _ ⟨0, _, rfl, Nat.zero_le _, by omega, rfl⟩ ?_
      rintro k s' ⟨q, c', rfl, hq2, hdc', rfl⟩
      (repeat (first | (with_reducible (first | refine K_seq ?_ | refine K_next ?_ | refine K_skip ?_ | refine K_bend ?_ | refine K_block ?_ | refine K_exit ?_ | refine X_code ?_ | refine X_lend ?_ | refine X_here ?_ | refine X_on (by decide) ?_ | refine K_lendL ?_)) | (refine K_ifT rfl rfl ?_) | (refine K_ifF rfl rfl ?_) | (refine K_ev nmd [] hng (by kernel_rfl) fun hf C S K hC1 hC hS hK => ?_; simp (disch := first | omega | assumption) only [go_sem, ↓reduceIte, Nat.reduceEqDiff, Nat.reduceAdd, Nat.reduceMul, Nat.reduceLT, Nat.reduceLeDiff, reduceCtorEq, Nat.reduceBEq, Int.reduceToNat, Int.reduceNeg]; refine hK ?_; clear hK hS hC hC1 K S C hf)))
      refine K_ifd rfl rfl (fun hb => ?_) (fun hb => ?_)
      · have hst := noB_step (r := r) (k := q) (by omega)
        cases hnb : noB r q with
        | true =>
          rw [hnb, Bool.true_and] at hst
          have h47 : ((r.getD q 0).toNat : Int) = 47 ↔ r.getD q 0 = 47 := u8_lit (n := 47) (by decide)
          (repeat (first | (with_reducible (first | refine K_seq ?_ | refine K_next ?_ | refine K_skip ?_ | refine K_bend ?_ | refine K_block ?_ | refine K_exit ?_ | refine X_code ?_ | refine X_lend ?_ | refine X_here ?_ | refine X_on (by decide) ?_ | refine K_lendL ?_)) | (refine K_ifT rfl rfl ?_) | (refine K_ifF rfl rfl ?_) | (refine K_ev nmd [] hng (by kernel_rfl) fun hf C S K hC1 hC hS hK => ?_; simp (disch := first | omega | assumption) only [go_sem, ↓reduceIte, Nat.reduceEqDiff, Nat.reduceAdd, Nat.reduceMul, Nat.reduceLT, Nat.reduceLeDiff, reduceCtorEq, Nat.reduceBEq, Int.reduceToNat, Int.reduceNeg]; refine hK ?_; clear hK hS hC hC1 K S C hf)))
          refine K_ev nmd [(1, 54)] hng (by kernel_rfl) fun hf C S K hC1 hC hS hK => ?_; simp (disch := first | omega | assumption) only [go_sem, ↓reduceIte, Nat.reduceEqDiff, Nat.reduceAdd, Nat.reduceMul, Nat.reduceLT, Nat.reduceLeDiff, reduceCtorEq, Nat.reduceBEq, Int.reduceToNat, Int.reduceNeg]
          refine hK ?_; clear hK hS hC hC1 K S C hf
          (repeat (first | (with_reducible (first | refine K_seq ?_ | refine K_next ?_ | refine K_skip ?_ | refine K_bend ?_ | refine K_block ?_ | refine K_exit ?_ | refine X_code ?_ | refine X_lend ?_ | refine X_here ?_ | refine X_on (by decide) ?_ | refine K_lendL ?_)) | (refine K_ifT rfl rfl ?_) | (refine K_ifF rfl rfl ?_) | (refine K_ev nmd [] hng (by kernel_rfl) fun hf C S K hC1 hC hS hK => ?_; simp (disch := first | omega | assumption) only [go_sem, ↓reduceIte, Nat.reduceEqDiff, Nat.reduceAdd, Nat.reduceMul, Nat.reduceLT, Nat.reduceLeDiff, reduceCtorEq, Nat.reduceBEq, Int.reduceToNat, Int.reduceNeg]; refine hK ?_; clear hK hS hC hC1 K S C hf)))
          exact ⟨_, _, by omega, fun _ _ h => h, q + 1, c' + 1 + 1 + 1, rfl, by omega, by omega, by rw [hst, ← decide_eq_decide.2 (not_congr h47)]; rfl⟩
        | false =>
          rw [hnb, Bool.false_and] at hst
          (repeat (first | (with_reducible (first | refine K_seq ?_ | refine K_next ?_ | refine K_skip ?_ | refine K_bend ?_ | refine K_block ?_ | refine K_exit ?_ | refine X_code ?_ | refine X_lend ?_ | refine X_here ?_ | refine X_on (by decide) ?_ | refine K_lendL ?_)) | (refine K_ifT rfl rfl ?_) | (refine K_ifF rfl rfl ?_) | (refine K_ev nmd [] hng (by kernel_rfl) fun hf C S K hC1 hC hS hK => ?_; simp (disch := first | omega | assumption) only [go_sem, ↓reduceIte, Nat.reduceEqDiff, Nat.reduceAdd, Nat.reduceMul, Nat.reduceLT, Nat.reduceLeDiff, reduceCtorEq, Nat.reduceBEq, Int.reduceToNat, Int.reduceNeg]; refine hK ?_; clear hK hS hC hC1 K S C hf)))
          refine K_ev nmd [(1, 54)] hng (by kernel_rfl) fun hf C S K hC1 hC hS hK => ?_; simp (disch := first | omega | assumption) only [go_sem, ↓reduceIte, Nat.reduceEqDiff, Nat.reduceAdd, Nat.reduceMul, Nat.reduceLT, Nat.reduceLeDiff, reduceCtorEq, Nat.reduceBEq, Int.reduceToNat, Int.reduceNeg]
          refine hK ?_; clear hK hS hC hC1 K S C hf
          (repeat (first | (with_reducible (first | refine K_seq ?_ | refine K_next ?_ | refine K_skip ?_ | refine K_bend ?_ | refine K_block ?_ | refine K_exit ?_ | refine X_code ?_ | refine X_lend ?_ | refine X_here ?_ | refine X_on (by decide) ?_ | refine K_lendL ?_)) | (refine K_ifT rfl rfl ?_) | (refine K_ifF rfl rfl ?_) | (refine K_ev nmd [] hng (by kernel_rfl) fun hf C S K hC1 hC hS hK => ?_; simp (disch := first | omega | assumption) only [go_sem, ↓reduceIte, Nat.reduceEqDiff, Nat.reduceAdd, Nat.reduceMul, Nat.reduceLT, Nat.reduceLeDiff, reduceCtorEq, Nat.reduceBEq, Int.reduceToNat, Int.reduceNeg]; refine hK ?_; clear hK hS hC hC1 K S C hf)))
          exact ⟨_, _, by omega, fun _ _ h => h, q + 1, c' + 1 + 1 + 1, rfl, by omega, by omega, by rw [hst]; rfl⟩
      · obtain rfl : q = r.length := by omega
        cases hnb : noB r r.length with
        | true =>
          rw [hnb, if_pos rfl] at hnm
          (repeat (first | (with_reducible (first | refine K_seq ?_ | refine K_next ?_ | refine K_skip ?_ | refine K_bend ?_ | refine K_block ?_ | refine K_exit ?_ | refine X_code ?_ | refine X_lend ?_ | refine X_here ?_ | refine X_on (by decide) ?_ | refine K_lendL ?_)) | (refine K_ifT rfl rfl ?_) | (refine K_ifF rfl rfl ?_) | (refine K_ev nmd [] hng (by kernel_rfl) fun hf C S K hC1 hC hS hK => ?_; simp (disch := first | omega | assumption) only [go_sem, ↓reduceIte, Nat.reduceEqDiff, Nat.reduceAdd, Nat.reduceMul, Nat.reduceLT, Nat.reduceLeDiff, reduceCtorEq, Nat.reduceBEq, Int.reduceToNat, Int.reduceNeg]; refine hK ?_; clear hK hS hC hC1 K S C hf)))
          exact ⟨_, _, by omega, fun _ _ h => h, i + 1, c' + 1 + 1, 3, c' + 1 + 1 + 1 + 1, done ++ [r], rfl, by omega, by omega, by simp only [List.length_append, List.length_cons, List.length_nil]; omega, by simpa using hnm, by rw [List.length_append, List.map_append]; rfl⟩
        | false =>
          rw [hnb, if_neg (by decide)] at hnm
          (repeat (first | (with_reducible (first | refine K_seq ?_ | refine K_next ?_ | refine K_skip ?_ | refine K_bend ?_ | refine K_block ?_ | refine K_exit ?_ | refine X_code ?_ | refine X_lend ?_ | refine X_here ?_ | refine X_on (by decide) ?_ | refine K_lendL ?_)) | (refine K_ifT rfl rfl ?_) | (refine K_ifF rfl rfl ?_) | (refine K_ev nmd [] hng (by kernel_rfl) fun hf C S K hC1 hC hS hK => ?_; simp (disch := first | omega | assumption) only [go_sem, ↓reduceIte, Nat.reduceEqDiff, Nat.reduceAdd, Nat.reduceMul, Nat.reduceLT, Nat.reduceLeDiff, reduceCtorEq, Nat.reduceBEq, Int.reduceToNat, Int.reduceNeg]; refine hK ?_; clear hK hS hC hC1 K S C hf)))
          exact ⟨_, _, by omega, fun _ _ h => h, i + 1, d, j, _, done, rfl, by omega, by omega, by omega, by simpa using hnm, rfl⟩
  · obtain rfl : i = L.length := by omega
    rw [List.drop_length] at hnm
    have hnm' : namesP L n = done := by simpa [namesP] using hnm
    (repeat (first | (with_reducible (first | refine K_seq ?_ | refine K_next ?_ | refine K_skip ?_ | refine K_bend ?_ | refine K_block ?_ | refine K_exit ?_ | refine X_code ?_ | refine X_lend ?_ | refine X_here ?_ | refine X_on (by decide) ?_ | refine K_lendL ?_)) | (refine K_ifT rfl rfl ?_) | (refine K_ifF rfl rfl ?_) | (refine K_ev nmd [] hng (by kernel_rfl) fun hf C S K hC1 hC hS hK => ?_; simp (disch := first | omega | assumption) only [go_sem, ↓reduceIte, Nat.reduceEqDiff, Nat.reduceAdd, Nat.reduceMul, Nat.reduceLT, Nat.reduceLeDiff, reduceCtorEq, Nat.reduceBEq, Int.reduceToNat, Int.reduceNeg]; refine hK ?_; clear hK hS hC hC1 K S C hf)))
    exact K_retl (xs := done.map AV.str) rfl (by simp (disch := first | omega | assumption) only [go_sem, ↓reduceIte, Nat.reduceEqDiff, Nat.reduceAdd, Nat.reduceMul, Nat.reduceLT, Nat.reduceLeDiff, reduceCtorEq, Nat.reduceBEq, Int.reduceToNat, Int.reduceNeg]) (by simp) (by rw [hnm'])
end Go.Proofs.YtbpembafoloinaaGreatDoor
