/- The reference's Decode, walked: it says what tuple.Decode says. -/
import Derived.Test.YtbpembafoloinaaGreatDoorS8
set_option linter.unusedVariables false
set_option linter.unusedSimpArgs false
namespace Go.Proofs.YtbpembafoloinaaGreatDoor
open Go Go.Ab
set_option maxRecDepth 20000
set_option maxHeartbeats 4000000
theorem idx_spec (c : UInt8) : ∀ r : Str, (Lib.indexByte r c = -1 ∧ ∀ j, j < r.length → ¬ r.getD j 0 = c) ∨ ∃ i : Nat, Lib.indexByte r c = i ∧ i < r.length ∧ r.getD i 0 = c ∧ ∀ j, j < i → ¬ r.getD j 0 = c
  | [] => .inl ⟨rfl, fun j hj => absurd hj (Nat.not_lt_zero _)⟩
  | b :: r => by
    by_cases hb : b = c
    · refine .inr ⟨0, by simp [Lib.indexByte, hb], by simp, by simp [hb], fun j hj => absurd hj (Nat.not_lt_zero _)⟩
    have hb' : (b == c) = false := by simpa using hb
    rcases idx_spec c r with ⟨h1, h2⟩ | ⟨i, h1, h2, h3, h4⟩
    · refine .inl ⟨by simp [Lib.indexByte, hb', h1], fun j hj => ?_⟩
      cases j with
      | zero => simpa using hb
      | succ j => simpa using h2 j (by simpa using hj)
    · refine .inr ⟨i + 1, ?_, by simpa using h2, by simpa using h3, fun j hj => ?_⟩
      · have : ¬ Lib.indexByte r c = -1 := by omega
        simp only [Lib.indexByte, hb', Bool.false_eq_true, if_false, beq_iff_eq, this, h1]; omega
      · cases j with
        | zero => simpa using hb
        | succ j => simpa using h4 j (by omega)
/-- Where the reference's loop stops. -/
def firstI (r : Str) : Nat := if 0 ≤ Lib.indexByte r 58 then colon r else r.length
theorem firstI_spec (r : Str) : firstI r ≤ r.length ∧ (∀ j, j < firstI r → ¬ r.getD j 0 = 58) ∧ (firstI r < r.length → r.getD (firstI r) 0 = 58 ∧ 0 ≤ Lib.indexByte r 58 ∧ firstI r = colon r) ∧ (0 ≤ Lib.indexByte r 58 → firstI r < r.length) := by
  rcases idx_spec 58 r with ⟨h1, h2⟩ | ⟨i, h1, h2, h3, h4⟩
  · have : firstI r = r.length := by rw [firstI, if_neg (by omega)]
    rw [this]; exact ⟨Nat.le_refl _, h2, fun h => absurd h (Nat.lt_irrefl _), fun h => by omega⟩
  · have hc : colon r = i := by rw [colon, h1]; rfl
    have : firstI r = i := by rw [firstI, if_pos (by omega), hc]
    rw [this, hc]; exact ⟨by omega, h4, fun _ => ⟨h3, by omega, rfl⟩, fun _ => h2⟩
theorem ok_ref {r : Str} : okS r ↔ 0 ≤ refN (r.take (firstI r)) ∧ refN (r.take (firstI r)) + firstI r + 2 ≤ r.length ∧ r.getD ((refN (r.take (firstI r))).toNat + firstI r + 1) 0 = 44 := by
  obtain ⟨h1, h2, h3, h4⟩ := firstI_spec r
  by_cases hi : 0 ≤ Lib.indexByte r 58
  · have hlt := h4 hi
    obtain ⟨_, _, h5⟩ := h3 hlt
    obtain ⟨n1, n2⟩ := num_ref (headS r)
    have hh : r.take (firstI r) = headS r := by rw [h5]; rfl
    rw [hh]
    have hlen : (restS r).length = r.length - (firstI r + 1) := by rw [restS, List.length_drop, h5]
    constructor
    · rintro ⟨_, g1, g2, g3⟩
      have hv := n2 g1
      rw [n1, decide_eq_true_eq] at g1
      refine ⟨g1, by rw [hv] at g2; omega, ?_⟩
      rw [sizeS, hv, restS, List.getD_eq_getElem?_getD, List.getElem?_drop, ← List.getD_eq_getElem?_getD, ← h5] at g3
      rw [← g3]; congr 1; omega
    · rintro ⟨g1, g2, g3⟩
      have hg : numG (headS r) = true := by rw [n1]; simpa using g1
      have hv := n2 hg
      refine ⟨hi, hg, by rw [hv]; omega, ?_⟩
      rw [sizeS, hv, restS, List.getD_eq_getElem?_getD, List.getElem?_drop, ← List.getD_eq_getElem?_getD, ← h5]
      rw [← g3]; congr 1; omega
  · have : firstI r = r.length := by rw [firstI, if_neg hi]
    constructor
    · rintro ⟨g, _⟩; exact absurd g hi
    · rintro ⟨_, g, _⟩; omega
theorem piece_ref {r : Str} (h : okS r) : (restS r).take (sizeS r) = (r.take ((refN (r.take (firstI r))).toNat + firstI r + 1)).drop (firstI r + 1) ∧ (restS r).drop (sizeS r + 1) = r.drop ((refN (r.take (firstI r))).toNat + firstI r + 2) := by
  obtain ⟨h1, h2, h3, h4⟩ := firstI_spec r
  have hlt := h4 h.1
  obtain ⟨_, _, h5⟩ := h3 hlt
  have hh : r.take (firstI r) = headS r := by rw [h5]; rfl
  have hv := (num_ref (headS r)).2 h.2.1
  rw [hh, ← hv, restS, ← h5, sizeS]
  constructor
  · rw [List.drop_take]; congr 1; omega
  · rw [List.drop_drop]; congr 1; omega
theorem dec_bound : ∀ (t : Str) (a n : Nat), Lib.decFrom a t = some n → n < (a + 1) * 10 ^ t.length
  | [], a, n, h => by simp only [Lib.decFrom, Option.some.injEq] at h; subst h; simp
  | b :: t, a, n, h => by
    simp only [Lib.decFrom] at h
    split at h
    · rename_i d hd
      have h1 := dec_bound t _ n h
      have h2 := (digit_inv hd).1
      refine Nat.lt_of_lt_of_le h1 ?_
      rw [List.length_cons, Nat.pow_succ, Nat.mul_comm (10 ^ t.length) 10, ← Nat.mul_assoc]
      exact Nat.mul_le_mul_right _ (by omega)
    · cases h
theorem refN_bounds (s : Str) : -1 ≤ refN s ∧ refN s < 1000000000 := by
  unfold refN
  split
  · omega
  · rename_i hc
    split
    · rename_i n hd
      have h1 := dec_bound s 0 n hd
      have h2 : 10 ^ s.length ≤ 10 ^ 9 := Nat.pow_le_pow_right (by decide) (by omega)
      omega
    · omega
theorem decodeR_ok (s : Str) (hl : s.length ≤ 4000000000) (p : Oid) : CallOK Tryz.prog 83 [.str s] (Oid.under p) ⟨[], decR (decT s), []⟩ := by
  refine fnOK (n := 64) (rs := [.tmp 2, .tmp 3]) Tryz.func83 rfl rfl (by decide) rfl rfl rfl ?_; rintro x rfl hrd hng
  (repeat (first | (with_reducible (first | refine K_seq ?_ | refine K_next ?_ | refine K_skip ?_ | refine K_bend ?_ | refine K_block ?_ | refine K_exit ?_ | refine X_code ?_ | refine X_lend ?_ | refine X_here ?_ | refine X_on (by decide) ?_ | refine K_lendL ?_)) | (refine K_ifT rfl rfl ?_) | (refine K_ifF rfl rfl ?_) | (refine K_ev nmd [] hng (by kernel_rfl) fun hf C S K hC1 hC hS hK => ?_; simp (disch := first | omega | assumption) only [go_sem, ↓reduceIte, Nat.reduceEqDiff, Nat.reduceAdd, Nat.reduceMul, Nat.reduceLT, Nat.reduceLeDiff, reduceCtorEq, Nat.reduceBEq, Int.reduceToNat, Int.reduceNeg]; refine hK ?_; clear hK hS hC hC1 K S C hf)))
  refine K_void 4 1 rfl ?_
  simp (disch := first | omega | assumption) only [go_sem, ↓reduceIte, Nat.reduceEqDiff, Nat.reduceAdd, Nat.reduceMul, Nat.reduceLT, Nat.reduceLeDiff, reduceCtorEq, Nat.reduceBEq, Int.reduceToNat, Int.reduceNeg]
  refine K_loop [0, 4] (fun k s' => ∃ (done : List Str) (r : Str) (d j c : Nat), k = r.length ∧ d < c ∧ done.length + r.length ≤ s.length ∧ decT s = (decT r).map (done ++ ·) ∧
      s' = ⟨[(0, .str r), (4, .sl (.sub d j x.p) 1 done.length)], Mem.of [(.sub d j x.p, .arr 1 (done.map AV.str))], c, []⟩) _ ⟨[], s, 2, 0, 3, rfl, by omega, by simp, by cases decT s <;> rfl, rfl⟩ ?_
  rintro k s' ⟨done, r, d, j, c, rfl, hdc, hlen, hdec, rfl⟩
  (repeat (first | (with_reducible (first | refine K_seq ?_ | refine K_next ?_ | refine K_skip ?_ | refine K_bend ?_ | refine K_block ?_ | refine K_exit ?_ | refine X_code ?_ | refine X_lend ?_ | refine X_here ?_ | refine X_on (by decide) ?_ | refine K_lendL ?_)) | (refine K_ifT rfl rfl ?_) | (refine K_ifF rfl rfl ?_) | (refine K_ev nmd [] hng (by kernel_rfl) fun hf C S K hC1 hC hS hK => ?_; simp (disch := first | omega | assumption) only [go_sem, ↓reduceIte, Nat.reduceEqDiff, Nat.reduceAdd, Nat.reduceMul, Nat.reduceLT, Nat.reduceLeDiff, reduceCtorEq, Nat.reduceBEq, Int.reduceToNat, Int.reduceNeg]; refine hK ?_; clear hK hS hC hC1 K S C hf)))
  refine K_ifd rfl rfl (fun hb => ?_) (fun hb => ?_)
  · have hb' : ¬ r = [] := fun e => by subst e; simp at hb
    obtain ⟨f1, f2, f3, f4⟩ := firstI_spec r
    (repeat (first | (with_reducible (first | refine K_seq ?_ | refine K_next ?_ | refine K_skip ?_ | refine K_bend ?_ | refine K_exit ?_ | refine X_code ?_ | refine X_lend ?_ | refine X_here ?_ | refine X_on (by decide) ?_ | refine K_lendL ?_)) | (refine K_ifT rfl rfl ?_) | (refine K_ifF rfl rfl ?_) | (refine K_ev nmd [] hng (by kernel_rfl) fun hf C S K hC1 hC hS hK => ?_; simp (disch := first | omega | assumption) only [go_sem, ↓reduceIte, Nat.reduceEqDiff, Nat.reduceAdd, Nat.reduceMul, Nat.reduceLT, Nat.reduceLeDiff, reduceCtorEq, Nat.reduceBEq, Int.reduceToNat, Int.reduceNeg]; refine hK ?_; clear hK hS hC hC1 K S C hf)))
    refine K_block ?_
    (repeat (first | (with_reducible (first | refine K_seq ?_ | refine K_next ?_ | refine K_skip ?_ | refine K_bend ?_ | refine K_exit ?_ | refine X_code ?_ | refine X_lend ?_ | refine X_here ?_ | refine X_on (by decide) ?_ | refine K_lendL ?_)) | (refine K_ifT rfl rfl ?_) | (refine K_ifF rfl rfl ?_) | (refine K_ev nmd [] hng (by kernel_rfl) fun hf C S K hC1 hC hS hK => ?_; simp (disch := first | omega | assumption) only [go_sem, ↓reduceIte, Nat.reduceEqDiff, Nat.reduceAdd, Nat.reduceMul, Nat.reduceLT, Nat.reduceLeDiff, reduceCtorEq, Nat.reduceBEq, Int.reduceToNat, Int.reduceNeg]; refine hK ?_; clear hK hS hC hC1 K S C hf)))
    refine K_cut [0, 4, 5] (fun s' => ∃ c' : Nat, d < c' ∧ s' = ⟨[(0, .str r), (4, .sl (.sub d j x.p) 1 done.length), (5, .int .i64 (firstI r))], Mem.of [(.sub d j x.p, .arr 1 (done.map AV.str))], c', []⟩) ?_ ?_
    · (repeat (first | (with_reducible (first | refine K_seq ?_ | refine K_next ?_ | refine K_skip ?_ | refine K_bend ?_ | refine K_block ?_ | refine K_exit ?_ | refine X_code ?_ | refine X_lend ?_ | refine X_here ?_ | refine X_on (by decide) ?_ | refine K_lendL ?_)) | (refine K_ifT rfl rfl ?_) | (refine K_ifF rfl rfl ?_) | (refine K_ev nmd [] hng (by kernel_rfl) fun hf C S K hC1 hC hS hK => ?_; simp (disch := first | omega | assumption) only [go_sem, ↓reduceIte, Nat.reduceEqDiff, Nat.reduceAdd, Nat.reduceMul, Nat.reduceLT, Nat.reduceLeDiff, reduceCtorEq, Nat.reduceBEq, Int.reduceToNat, Int.reduceNeg]; refine hK ?_; clear hK hS hC hC1 K S C hf)))
      refine K_loop [0, 4, 5] (fun k s' => ∃ i c' : Nat, k = r.length - i ∧ i ≤ firstI r ∧ d < c' ∧ s' = ⟨[(0, .str r), (4, .sl (.sub d j x.p) 1 done.length), (5, .int .i64 i)], Mem.of [(.sub d j x.p, .arr 1 (done.map AV.str))], c', []⟩) _ ⟨0, _, rfl, Nat.zero_le _, by omega, rfl⟩ ?_
      rintro k s' ⟨i, c', rfl, hi, hdc', rfl⟩
      (repeat (with_reducible (first | refine K_seq ?_ | refine K_next ?_ | refine K_skip ?_ | refine K_bend ?_ | refine K_block ?_ | refine K_exit ?_ | refine X_code ?_ | refine X_lend ?_ | refine X_here ?_ | refine X_on (by decide) ?_ | refine K_lendL ?_)))
      refine K_ev nmd [(4, 14)] hng (by kernel_rfl) fun hf C S K hC1 hC hS hK => ?_; simp (disch := first | omega | assumption) only [go_sem, ↓reduceIte, Nat.reduceEqDiff, Nat.reduceAdd, Nat.reduceMul, Nat.reduceLT, Nat.reduceLeDiff, reduceCtorEq, Nat.reduceBEq, Int.reduceToNat, Int.reduceNeg]
      (repeat' (first | (refine evG_split (fun hv => ?_) (fun hv => ?_) <;> (try simp only [decide_eq_true_eq, decide_eq_false_iff_not, Bool.not_eq_true', Bool.not_eq_false', Bool.and_eq_true] at hv) <;> simp (disch := first | omega | assumption) only [go_sem, ↓reduceIte, Nat.reduceEqDiff, Nat.reduceAdd, Nat.reduceMul, Nat.reduceLT, Nat.reduceLeDiff, reduceCtorEq, Nat.reduceBEq, Int.reduceToNat, Int.reduceNeg, hv, Int.reduceEq, Int.reduceNe, ne_eq, not_true_eq_false, not_false_eq_true, decide_true, decide_false]) | (refine hK ?_; clear hK hS hC hC1 K S C hf)))
      · (repeat (with_reducible (first | refine K_seq ?_ | refine K_next ?_ | refine K_skip ?_ | refine K_bend ?_ | refine K_block ?_ | refine K_exit ?_ | refine X_code ?_ | refine X_lend ?_ | refine X_here ?_ | refine X_on (by decide) ?_ | refine K_lendL ?_)))
        refine K_ifd rfl rfl (fun hb => ?_) (fun hb => ?_)
        · (repeat (first | (with_reducible (first | refine K_seq ?_ | refine K_next ?_ | refine K_skip ?_ | refine K_bend ?_ | refine K_block ?_ | refine K_exit ?_ | refine X_code ?_ | refine X_lend ?_ | refine X_here ?_ | refine X_on (by decide) ?_ | refine K_lendL ?_)) | (refine K_ifT rfl rfl ?_) | (refine K_ifF rfl rfl ?_) | (refine K_ev nmd [] hng (by kernel_rfl) fun hf C S K hC1 hC hS hK => ?_; simp (disch := first | omega | assumption) only [go_sem, ↓reduceIte, Nat.reduceEqDiff, Nat.reduceAdd, Nat.reduceMul, Nat.reduceLT, Nat.reduceLeDiff, reduceCtorEq, Nat.reduceBEq, Int.reduceToNat, Int.reduceNeg]; refine hK ?_; clear hK hS hC hC1 K S C hf)))
          have hne : ¬ i = firstI r := fun e => by
            have := (f3 (by omega)).1
            rw [← e] at this
            exact hb (by rw [this]; rfl)
          exact ⟨_, _, by omega, fun _ _ h => h, i + 1, _, rfl, by omega, by omega, rfl⟩
        · (repeat (first | (with_reducible (first | refine K_seq ?_ | refine K_next ?_ | refine K_skip ?_ | refine K_bend ?_ | refine K_block ?_ | refine K_exit ?_ | refine X_code ?_ | refine X_lend ?_ | refine X_here ?_ | refine X_on (by decide) ?_ | refine K_lendL ?_)) | (refine K_ifT rfl rfl ?_) | (refine K_ifF rfl rfl ?_) | (refine K_ev nmd [] hng (by kernel_rfl) fun hf C S K hC1 hC hS hK => ?_; simp (disch := first | omega | assumption) only [go_sem, ↓reduceIte, Nat.reduceEqDiff, Nat.reduceAdd, Nat.reduceMul, Nat.reduceLT, Nat.reduceLeDiff, reduceCtorEq, Nat.reduceBEq, Int.reduceToNat, Int.reduceNeg]; refine hK ?_; clear hK hS hC hC1 K S C hf)))
          have h58 : r.getD i 0 = 58 := UInt8.toNat_inj.1 (by have : (58 : UInt8).toNat = 58 := rfl; omega)
          have he : i = firstI r := by
            rcases Nat.lt_or_ge i (firstI r) with h | h
            · exact absurd h58 (f2 i h)
            · omega
          subst he
          exact K_cutN ⟨_, by omega, rfl⟩
      · (repeat (first | (with_reducible (first | refine K_seq ?_ | refine K_next ?_ | refine K_skip ?_ | refine K_bend ?_ | refine K_block ?_ | refine K_exit ?_ | refine X_code ?_ | refine X_lend ?_ | refine X_here ?_ | refine X_on (by decide) ?_ | refine K_lendL ?_)) | (refine K_ifT rfl rfl ?_) | (refine K_ifF rfl rfl ?_) | (refine K_ev nmd [] hng (by kernel_rfl) fun hf C S K hC1 hC hS hK => ?_; simp (disch := first | omega | assumption) only [go_sem, ↓reduceIte, Nat.reduceEqDiff, Nat.reduceAdd, Nat.reduceMul, Nat.reduceLT, Nat.reduceLeDiff, reduceCtorEq, Nat.reduceBEq, Int.reduceToNat, Int.reduceNeg]; refine hK ?_; clear hK hS hC hC1 K S C hf)))
        have he : i = firstI r := by omega
        subst he
        exact K_cutN ⟨_, by omega, rfl⟩
    rintro s' ⟨c', hdc', rfl⟩
    obtain ⟨b1, b2⟩ := refN_bounds (r.take (firstI r))
    (repeat (first | (with_reducible (first | refine K_seq ?_ | refine K_next ?_ | refine K_skip ?_ | refine K_bend ?_ | refine K_block ?_ | refine K_exit ?_ | refine X_code ?_ | refine X_lend ?_ | refine X_here ?_ | refine X_on (by decide) ?_ | refine K_lendL ?_)) | (refine K_ifT rfl rfl ?_) | (refine K_ifF rfl rfl ?_) | (refine K_ev nmd [] hng (by kernel_rfl) fun hf C S K hC1 hC hS hK => ?_; simp (disch := first | omega | assumption) only [go_sem, ↓reduceIte, Nat.reduceEqDiff, Nat.reduceAdd, Nat.reduceMul, Nat.reduceLT, Nat.reduceLeDiff, reduceCtorEq, Nat.reduceBEq, Int.reduceToNat, Int.reduceNeg]; (repeat ((first | refine hC1 _ (numberR_ok (r.take (firstI r)) (by simp only [List.length_take]; omega) _) (by simp (disch := first | omega | assumption) only [go_sem, ↓reduceIte, Nat.reduceEqDiff, Nat.reduceAdd, Nat.reduceMul, Nat.reduceLT, Nat.reduceLeDiff, reduceCtorEq, Nat.reduceBEq, Int.reduceToNat, Int.reduceNeg]) ?_); simp (disch := first | omega | assumption) only [go_sem, ↓reduceIte, Nat.reduceEqDiff, Nat.reduceAdd, Nat.reduceMul, Nat.reduceLT, Nat.reduceLeDiff, reduceCtorEq, Nat.reduceBEq, Int.reduceToNat, Int.reduceNeg])); refine hK ?_; clear hK hS hC hC1 K S C hf)))
    refine K_ev nmd [(2, 28), (11, 37)] hng (by kernel_rfl) fun hf C S K hC1 hC hS hK => ?_; simp (disch := first | omega | assumption) only [go_sem, ↓reduceIte, Nat.reduceEqDiff, Nat.reduceAdd, Nat.reduceMul, Nat.reduceLT, Nat.reduceLeDiff, reduceCtorEq, Nat.reduceBEq, Int.reduceToNat, Int.reduceNeg]
    (repeat' (first | (refine evG_split (fun hv => ?_) (fun hv => ?_) <;> (try simp only [decide_eq_true_eq, decide_eq_false_iff_not, Bool.not_eq_true', Bool.not_eq_false', Bool.and_eq_true] at hv) <;> simp (disch := first | omega | assumption) only [go_sem, ↓reduceIte, Nat.reduceEqDiff, Nat.reduceAdd, Nat.reduceMul, Nat.reduceLT, Nat.reduceLeDiff, reduceCtorEq, Nat.reduceBEq, Int.reduceToNat, Int.reduceNeg, hv, Int.reduceEq, Int.reduceNe, ne_eq, not_true_eq_false, not_false_eq_true, decide_true, decide_false]) | (refine hK ?_; clear hK hS hC hC1 K S C hf)))
    · have hn1 : (refN (r.take (firstI r)) + (firstI r : Int) + 1).toNat = (refN (r.take (firstI r))).toNat + firstI r + 1 := by omega
      have hn2 : (refN (r.take (firstI r)) + (firstI r : Int) + 2).toNat = (refN (r.take (firstI r))).toNat + firstI r + 2 := by omega
      have hn3 : ((firstI r : Int) + 1).toNat = firstI r + 1 := by omega
      (repeat (first | (with_reducible (first | refine K_seq ?_ | refine K_next ?_ | refine K_skip ?_ | refine K_bend ?_ | refine K_block ?_ | refine K_exit ?_ | refine X_code ?_ | refine X_lend ?_ | refine X_here ?_ | refine X_on (by decide) ?_ | refine K_lendL ?_)) | (refine K_ifT rfl rfl ?_) | (refine K_ifF rfl rfl ?_) | (refine K_ev nmd [] hng (by kernel_rfl) fun hf C S K hC1 hC hS hK => ?_; simp (disch := first | omega | assumption) only [go_sem, ↓reduceIte, Nat.reduceEqDiff, Nat.reduceAdd, Nat.reduceMul, Nat.reduceLT, Nat.reduceLeDiff, reduceCtorEq, Nat.reduceBEq, Int.reduceToNat, Int.reduceNeg]; refine hK ?_; clear hK hS hC hC1 K S C hf)))
      refine K_ifd rfl rfl (fun hb => ?_) (fun hb => ?_)
      · rw [decT_none hb' (fun h => hb (by have := (ok_ref.1 h).2.2; rw [hn1, this]; rfl))] at hdec
        (repeat (first | (with_reducible (first | refine K_seq ?_ | refine K_next ?_ | refine K_skip ?_ | refine K_bend ?_ | refine K_block ?_ | refine K_exit ?_ | refine X_code ?_ | refine X_lend ?_ | refine X_here ?_ | refine X_on (by decide) ?_ | refine K_lendL ?_)) | (refine K_ifT rfl rfl ?_) | (refine K_ifF rfl rfl ?_) | (refine K_ev nmd [] hng (by kernel_rfl) fun hf C S K hC1 hC hS hK => ?_; simp (disch := first | omega | assumption) only [go_sem, ↓reduceIte, Nat.reduceEqDiff, Nat.reduceAdd, Nat.reduceMul, Nat.reduceLT, Nat.reduceLeDiff, reduceCtorEq, Nat.reduceBEq, Int.reduceToNat, Int.reduceNeg]; refine hK ?_; clear hK hS hC hC1 K S C hf)))
        exact K_ret (done_plain (by rw [hdec]; rfl))
      · have h44 : r.getD ((refN (r.take (firstI r))).toNat + firstI r + 1) 0 = 44 := UInt8.toNat_inj.1 (by
          rw [hn1] at hb; have : (44 : UInt8).toNat = 44 := rfl; omega)
        have hok : okS r := ok_ref.2 ⟨by omega, by omega, h44⟩
        obtain ⟨q1, q2⟩ := piece_ref hok
        rw [decT_some hb' hok, q1, q2] at hdec
        (repeat (first | (with_reducible (first | refine K_seq ?_ | refine K_next ?_ | refine K_skip ?_ | refine K_bend ?_ | refine K_block ?_ | refine K_exit ?_ | refine X_code ?_ | refine X_lend ?_ | refine X_here ?_ | refine X_on (by decide) ?_ | refine K_lendL ?_)) | (refine K_ifT rfl rfl ?_) | (refine K_ifF rfl rfl ?_) | (refine K_ev nmd [] hng (by kernel_rfl) fun hf C S K hC1 hC hS hK => ?_; simp (disch := first | omega | assumption) only [go_sem, ↓reduceIte, Nat.reduceEqDiff, Nat.reduceAdd, Nat.reduceMul, Nat.reduceLT, Nat.reduceLeDiff, reduceCtorEq, Nat.reduceBEq, Int.reduceToNat, Int.reduceNeg]; refine hK ?_; clear hK hS hC hC1 K S C hf)))
        have hdl : (r.drop ((refN (r.take (firstI r))).toNat + firstI r + 2)).length < r.length := by
          have := List.length_pos_iff.2 hb'; simp only [List.length_drop]; omega
        rw [hn1, hn2, hn3]
        refine ⟨_, _, hdl, fun _ _ h => h, done ++ [(r.take ((refN (r.take (firstI r))).toNat + firstI r + 1)).drop (firstI r + 1)], r.drop ((refN (r.take (firstI r))).toNat + firstI r + 2), c' + 1 + 1, 10, c' + 1 + 1 + 1 + 1, rfl, by omega, ?_, ?_, ?_⟩
        · simp only [List.length_append, List.length_cons, List.length_nil]; omega
        · rw [hdec, Option.map_map]; congr 1; funext l; simp
        · rw [List.length_append, List.map_append]; rfl
    · (repeat (first | (with_reducible (first | refine K_seq ?_ | refine K_next ?_ | refine K_skip ?_ | refine K_bend ?_ | refine K_block ?_ | refine K_exit ?_ | refine X_code ?_ | refine X_lend ?_ | refine X_here ?_ | refine X_on (by decide) ?_ | refine K_lendL ?_)) | (refine K_ifT rfl rfl ?_) | (refine K_ifF rfl rfl ?_) | (refine K_ev nmd [] hng (by kernel_rfl) fun hf C S K hC1 hC hS hK => ?_; simp (disch := first | omega | assumption) only [go_sem, ↓reduceIte, Nat.reduceEqDiff, Nat.reduceAdd, Nat.reduceMul, Nat.reduceLT, Nat.reduceLeDiff, reduceCtorEq, Nat.reduceBEq, Int.reduceToNat, Int.reduceNeg]; refine hK ?_; clear hK hS hC hC1 K S C hf)))
      rw [decT_none hb' (fun h => by have := (ok_ref.1 h).2.1; omega)] at hdec
      exact K_ret (done_plain (by rw [hdec]; rfl))
    · (repeat (first | (with_reducible (first | refine K_seq ?_ | refine K_next ?_ | refine K_skip ?_ | refine K_bend ?_ | refine K_block ?_ | refine K_exit ?_ | refine X_code ?_ | refine X_lend ?_ | refine X_here ?_ | refine X_on (by decide) ?_ | refine K_lendL ?_)) | (refine K_ifT rfl rfl ?_) | (refine K_ifF rfl rfl ?_) | (refine K_ev nmd [] hng (by kernel_rfl) fun hf C S K hC1 hC hS hK => ?_; simp (disch := first | omega | assumption) only [go_sem, ↓reduceIte, Nat.reduceEqDiff, Nat.reduceAdd, Nat.reduceMul, Nat.reduceLT, Nat.reduceLeDiff, reduceCtorEq, Nat.reduceBEq, Int.reduceToNat, Int.reduceNeg]; refine hK ?_; clear hK hS hC hC1 K S C hf)))
      rw [decT_none hb' (fun h => by have := (ok_ref.1 h).1; omega)] at hdec
      exact K_ret (done_plain (by rw [hdec]; rfl))
  · have hb' : r = [] := List.eq_nil_of_length_eq_zero (by omega)
    subst hb'
    (repeat (first | (with_reducible (first | refine K_seq ?_ | refine K_next ?_ | refine K_skip ?_ | refine K_bend ?_ | refine K_block ?_ | refine K_exit ?_ | refine X_code ?_ | refine X_lend ?_ | refine X_here ?_ | refine X_on (by decide) ?_ | refine K_lendL ?_)) | (refine K_ifT rfl rfl ?_) | (refine K_ifF rfl rfl ?_) | (refine K_ev nmd [] hng (by kernel_rfl) fun hf C S K hC1 hC hS hK => ?_; simp (disch := first | omega | assumption) only [go_sem, ↓reduceIte, Nat.reduceEqDiff, Nat.reduceAdd, Nat.reduceMul, Nat.reduceLT, Nat.reduceLeDiff, reduceCtorEq, Nat.reduceBEq, Int.reduceToNat, Int.reduceNeg]; refine hK ?_; clear hK hS hC hC1 K S C hf)))
    rw [decT_nil, Option.map_some, List.append_nil] at hdec
    rw [hdec]
    (refine K_freeze (.sub d j x.p) _ _ (by simp (disch := first | omega | assumption) only [go_sem, ↓reduceIte, Nat.reduceEqDiff, Nat.reduceAdd, Nat.reduceMul, Nat.reduceLT, Nat.reduceLeDiff, reduceCtorEq, Nat.reduceBEq, Int.reduceToNat, Int.reduceNeg]; rfl) ?_; simp (disch := first | omega | assumption) only [go_sem, ↓reduceIte, Nat.reduceEqDiff, Nat.reduceAdd, Nat.reduceMul, Nat.reduceLT, Nat.reduceLeDiff, reduceCtorEq, Nat.reduceBEq, Int.reduceToNat, Int.reduceNeg])
    exact K_ret (done_plain rfl)
end Go.Proofs.YtbpembafoloinaaGreatDoor
