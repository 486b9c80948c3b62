/- Filter: the reference's last piece of a path, and what is above it. -/
import Derived.Test.YtiaiggbimlbkfaaGreatDoorQ10
set_option linter.unusedVariables false
set_option linter.unusedSimpArgs false
namespace Go.Proofs.YtiaiggbimlbkfaaGreatDoor
open Go Go.Ab
set_option maxRecDepth 20000
set_option maxHeartbeats 4000000
theorem take_getD {s : Str} {n k : Nat} (h : k < n) : (s.take n).getD k 0 = s.getD k 0 := by simp [List.getD_eq_getElem?_getD, List.getElem?_take, h]
theorem bareN_stop {s : Str} {k : Nat} (h : ¬ (1 < k ∧ s.getD (k - 1) 0 = 47)) : bareN s k = k := by
  match k, h with
  | 0, _ => rfl
  | 1, _ => rfl
  | k + 2, h => rw [bareN, if_neg (fun e => h ⟨by omega, show s.getD (k + 1) 0 = 47 from e⟩)]
theorem bareN_go {s : Str} {k : Nat} (h : 1 < k) (he : s.getD (k - 1) 0 = 47) : bareN s k = bareN s (k - 1) := by
  match k, h, he with
  | k + 2, _, he => rw [bareN, if_pos (by simpa using he)]; rfl
theorem lastK_go {l : Str} {b : UInt8} {i : Nat} (h0 : 0 < i) (h : ¬ l.getD (i - 1) 0 = b) : lastK l b i = lastK l b (i - 1) := by
  match i, h0, h with
  | i + 1, _, h => rw [lastK, if_neg (by simpa using h)]; rfl
theorem lastK_at {l : Str} {b : UInt8} {i : Nat} (h0 : 0 < i) (h : l.getD (i - 1) 0 = b) : lastK l b i = ((i - 1 : Nat) : Int) := by
  match i, h0, h with
  | i + 1, _, h => rw [lastK, if_pos (by simpa using h)]; rfl
theorem stripN_stop {s : Str} {k : Nat} (h : ¬ (0 < k ∧ s.getD (k - 1) 0 = 47)) : stripN s k = k := by
  match k, h with
  | 0, _ => rfl
  | k + 1, h => rw [stripN, if_neg (fun e => h ⟨by omega, show s.getD k 0 = 47 from e⟩)]
theorem stripN_go {s : Str} {k : Nat} (h : 0 < k) (he : s.getD (k - 1) 0 = 47) : stripN s k = stripN s (k - 1) := by
  match k, h, he with
  | k + 1, _, he => rw [stripN, if_pos (by simpa using he)]; rfl
theorem b47 (b : UInt8) : (b.toNat : Int) = 47 ↔ b = 47 := by
  constructor
  · intro h; exact UInt8.toNat_inj.1 (by have : (47 : UInt8).toNat = 47 := rfl; omega)
  · rintro rfl; rfl
theorem baseX_big {s : Str} (h : 1 < (bareX s).length) : baseX s = (bareX s).drop (lastK (bareX s) 47 (bareX s).length + 1).toNat := by
  rw [baseX, if_neg (fun e => by rw [e] at h; simp at h)]
theorem baseX_small {s : Str} (h : ¬ 1 < (bareX s).length) : baseX s = bareX s := by
  unfold baseX
  split
  · rename_i he; rw [he]
  · rename_i he
    generalize bareX s = b at h he
    match b, h, he with
    | [], _, _ => rfl
    | [c], _, he =>
      have hc : ¬ ([c] : Str).getD 0 0 = 47 := fun e => he (by rw [show c = 47 from e])
      have : lastK [c] 47 ([c] : Str).length = -1 := by show lastK [c] 47 (0 + 1) = _; rw [lastK, if_neg hc]; rfl
      rw [this]; rfl
    | _ :: _ :: _, h, _ => exact absurd (by simp) h
theorem baseR_ok (s : Str) (hl : s.length ≤ 4000000000) (p : Oid) : CallOK Tryz.prog 50 [.str s] (Oid.under p) ⟨[], .str (baseX s), []⟩ := by
  refine fnOK (n := 41) (rs := [.tmp 2]) Tryz.func50 rfl rfl (by decide) rfl rfl rfl ?_; rintro x rfl hrd hng
  (repeat (first | (with_reducible (first | refine K_seq ?_ | refine K_next ?_ | refine K_skip ?_ | refine K_bend ?_ | refine K_block ?_ | refine K_exit ?_ | refine X_code ?_ | refine X_lend ?_ | refine X_here ?_ | refine X_on (by decide) ?_ | refine K_lendL ?_)) | (refine K_ifT rfl rfl ?_) | (refine K_ifF rfl rfl ?_) | (refine K_ev nmd [] hng (by kernel_rfl) fun hf C S K hC1 hC hS hK => ?_; simp (disch := first | omega | assumption) only [go_sem, ↓reduceIte, Nat.reduceEqDiff, Nat.reduceAdd, Nat.reduceMul, Nat.reduceLT, Nat.reduceLeDiff, reduceCtorEq, Nat.reduceBEq, Int.reduceToNat, Int.reduceNeg]; refine hK ?_; clear hK hS hC hC1 K S C hf)))
  refine K_loop [0] (fun k s' => ∃ (n c : Nat), n = k ∧ n ≤ s.length ∧ bareN s s.length = bareN s n ∧ s' = ⟨[(0, .str (s.take n))], Mem.of [], c, []⟩) _ ⟨s.length, _, rfl, Nat.le_refl _, rfl, by rw [List.take_length]; rfl⟩ ?_
  rintro k s' ⟨n, c, rfl, hn, hbn, rfl⟩
  have htl : (s.take n).length = n := by rw [List.length_take]; omega
  have hz : ((n : Int) - 1).toNat = n - 1 := by omega
  (repeat (with_reducible (first | refine K_seq ?_ | refine K_next ?_ | refine K_skip ?_ | refine K_bend ?_ | refine K_block ?_ | refine K_exit ?_ | refine X_code ?_ | refine X_lend ?_ | refine X_here ?_ | refine X_on (by decide) ?_ | refine K_lendL ?_)))
  refine K_cut [0, 14] (fun s' => ∃ (b : Bool) (c' : Nat), s' = ⟨[(0, .str (s.take n)), (14, .bool b)], Mem.of [], c', []⟩ ∧ (b = true ↔ (1 < n ∧ s.getD (n - 1) 0 = 47))) ?_ ?_
  · refine K_ev nmd [(3, 7)] hng (by kernel_rfl) fun hf C S K hC1 hC hS hK => ?_; simp (disch := first | omega | assumption) only [go_sem, ↓reduceIte, Nat.reduceEqDiff, Nat.reduceAdd, Nat.reduceMul, Nat.reduceLT, Nat.reduceLeDiff, reduceCtorEq, Nat.reduceBEq, Int.reduceToNat, Int.reduceNeg, htl, hz, decide_true, decide_false, ne_eq, not_true_eq_false, not_false_eq_true]
    (repeat' (first | (refine evG_split (fun hv => ?_) (fun hv => ?_) <;> (try simp only [decide_eq_true_eq, decide_eq_false_iff_not, Bool.not_eq_true', Bool.not_eq_false', Bool.and_eq_true] at hv) <;> simp (disch := first | omega | assumption) only [go_sem, ↓reduceIte, Nat.reduceEqDiff, Nat.reduceAdd, Nat.reduceMul, Nat.reduceLT, Nat.reduceLeDiff, reduceCtorEq, Nat.reduceBEq, Int.reduceToNat, Int.reduceNeg, hv, htl, hz, decide_true, decide_false, ne_eq, not_true_eq_false, not_false_eq_true]) | (refine hK ?_; clear hK hS hC hC1 K S C hf)))
    all_goals first
      | contradiction
      | exact K_cutN ⟨_, _, rfl, by simp only [decide_eq_true_eq, b47]; rw [take_getD (by omega)]; exact ⟨fun h => ⟨by omega, h⟩, fun h => h.2⟩⟩
      | exact K_cutN ⟨_, _, rfl, by simp only [Bool.false_eq_true, false_iff]; omega⟩
  rintro s' ⟨b, c', rfl, hiff⟩
  refine K_if rfl rfl (fun hb => ?_) (fun hb => ?_)
  · obtain ⟨h1, h47⟩ := hiff.1 hb
    (repeat (first | (with_reducible (first | refine K_seq ?_ | refine K_next ?_ | refine K_skip ?_ | refine K_bend ?_ | refine K_block ?_ | refine K_exit ?_ | refine X_code ?_ | refine X_lend ?_ | refine X_here ?_ | refine X_on (by decide) ?_ | refine K_lendL ?_)) | (refine K_ifT rfl rfl ?_) | (refine K_ifF rfl rfl ?_) | (refine K_ev nmd [] hng (by kernel_rfl) fun hf C S K hC1 hC hS hK => ?_; simp (disch := first | omega | assumption) only [go_sem, ↓reduceIte, Nat.reduceEqDiff, Nat.reduceAdd, Nat.reduceMul, Nat.reduceLT, Nat.reduceLeDiff, reduceCtorEq, Nat.reduceBEq, Int.reduceToNat, Int.reduceNeg, htl, hz]; (repeat ((first | refine hC1 _ () (by simp (disch := first | omega | assumption) only [go_sem, ↓reduceIte, Nat.reduceEqDiff, Nat.reduceAdd, Nat.reduceMul, Nat.reduceLT, Nat.reduceLeDiff, reduceCtorEq, Nat.reduceBEq, Int.reduceToNat, Int.reduceNeg]) ?_); simp (disch := first | omega | assumption) only [go_sem, ↓reduceIte, Nat.reduceEqDiff, Nat.reduceAdd, Nat.reduceMul, Nat.reduceLT, Nat.reduceLeDiff, reduceCtorEq, Nat.reduceBEq, Int.reduceToNat, Int.reduceNeg])); refine hK ?_; clear hK hS hC hC1 K S C hf)))
    exact ⟨_, _, by omega, fun _ _ h => h, n - 1, _, rfl, by omega, by rw [hbn, bareN_go h1 h47], by rw [List.take_take, Nat.min_eq_left (by omega)]; rfl⟩
  · have hst : ¬ (1 < n ∧ s.getD (n - 1) 0 = 47) := fun h => by rw [hiff.2 h] at hb; cases hb
    have hB : s.take n = bareX s := by unfold bareX; rw [hbn, bareN_stop hst]
    have hbl : (bareX s).length = n := by rw [← hB, htl]
    rw [hB]
    (repeat (first | (with_reducible (first | refine K_seq ?_ | refine K_next ?_ | refine K_skip ?_ | refine K_bend ?_ | refine K_block ?_ | refine K_exit ?_ | refine X_code ?_ | refine X_lend ?_ | refine X_here ?_ | refine X_on (by decide) ?_ | refine K_lendL ?_)) | (refine K_ifT rfl rfl ?_) | (refine K_ifF rfl rfl ?_) | (refine K_ev nmd [] hng (by kernel_rfl) fun hf C S K hC1 hC hS hK => ?_; simp (disch := first | omega | assumption) only [go_sem, ↓reduceIte, Nat.reduceEqDiff, Nat.reduceAdd, Nat.reduceMul, Nat.reduceLT, Nat.reduceLeDiff, reduceCtorEq, Nat.reduceBEq, Int.reduceToNat, Int.reduceNeg, hbl]; (repeat ((first | refine hC1 _ () (by simp (disch := first | omega | assumption) only [go_sem, ↓reduceIte, Nat.reduceEqDiff, Nat.reduceAdd, Nat.reduceMul, Nat.reduceLT, Nat.reduceLeDiff, reduceCtorEq, Nat.reduceBEq, Int.reduceToNat, Int.reduceNeg]) ?_); simp (disch := first | omega | assumption) only [go_sem, ↓reduceIte, Nat.reduceEqDiff, Nat.reduceAdd, Nat.reduceMul, Nat.reduceLT, Nat.reduceLeDiff, reduceCtorEq, Nat.reduceBEq, Int.reduceToNat, Int.reduceNeg])); refine hK ?_; clear hK hS hC hC1 K S C hf)))
    refine K_loop [0, 3] (fun k s' => ∃ (m c : Nat), m = k ∧ m ≤ n ∧ (1 < n → lastK (bareX s) 47 n = lastK (bareX s) 47 m) ∧ s' = ⟨[(0, .str (bareX s)), (3, .int .i64 ((m : Int) - 1))], Mem.of [], c, []⟩) _ ⟨n, _, rfl, Nat.le_refl _, fun _ => rfl, rfl⟩ ?_
    rintro k s' ⟨m, c, rfl, hm, hlk, rfl⟩
    (repeat (first | (with_reducible (first | refine K_seq ?_ | refine K_next ?_ | refine K_skip ?_ | refine K_bend ?_ | refine K_block ?_ | refine K_exit ?_ | refine X_code ?_ | refine X_lend ?_ | refine X_here ?_ | refine X_on (by decide) ?_ | refine K_lendL ?_)) | (refine K_ifT rfl rfl ?_) | (refine K_ifF rfl rfl ?_) | (refine K_ev nmd [] hng (by kernel_rfl) fun hf C S K hC1 hC hS hK => ?_; simp (disch := first | omega | assumption) only [go_sem, ↓reduceIte, Nat.reduceEqDiff, Nat.reduceAdd, Nat.reduceMul, Nat.reduceLT, Nat.reduceLeDiff, reduceCtorEq, Nat.reduceBEq, Int.reduceToNat, Int.reduceNeg]; refine hK ?_; clear hK hS hC hC1 K S C hf)))
    refine K_ifd rfl rfl (fun hb => ?_) (fun hb => ?_)
    · have hm0 : 0 < m := by omega
      have hz1 : ((m : Int) - 1).toNat = m - 1 := by omega
      have hz2 : ((m : Int) - 1 + 1).toNat = m := by omega
      (repeat (with_reducible (first | refine K_seq ?_ | refine K_next ?_ | refine K_skip ?_ | refine K_bend ?_ | refine K_block ?_ | refine K_exit ?_ | refine X_code ?_ | refine X_lend ?_ | refine X_here ?_ | refine X_on (by decide) ?_ | refine K_lendL ?_)))
      refine K_cut [0, 3, 35] (fun s' => ∃ (b : Bool) (c' : Nat), s' = ⟨[(0, .str (bareX s)), (3, .int .i64 ((m : Int) - 1)), (35, .bool b)], Mem.of [], c', []⟩ ∧ (b = true ↔ (1 < n ∧ (bareX s).getD (m - 1) 0 = 47))) ?_ ?_
      · refine K_ev nmd [(4, 31)] hng (by kernel_rfl) fun hf C S K hC1 hC hS hK => ?_; simp (disch := first | omega | assumption) only [go_sem, ↓reduceIte, Nat.reduceEqDiff, Nat.reduceAdd, Nat.reduceMul, Nat.reduceLT, Nat.reduceLeDiff, reduceCtorEq, Nat.reduceBEq, Int.reduceToNat, Int.reduceNeg, hbl, hz1, decide_true, decide_false, ne_eq, not_true_eq_false, not_false_eq_true]
        (repeat' (first | (refine evG_split (fun hv => ?_) (fun hv => ?_) <;> (try simp only [decide_eq_true_eq, decide_eq_false_iff_not, Bool.not_eq_true', Bool.not_eq_false', Bool.and_eq_true] at hv) <;> simp (disch := first | omega | assumption) only [go_sem, ↓reduceIte, Nat.reduceEqDiff, Nat.reduceAdd, Nat.reduceMul, Nat.reduceLT, Nat.reduceLeDiff, reduceCtorEq, Nat.reduceBEq, Int.reduceToNat, Int.reduceNeg, hv, hbl, hz1, decide_true, decide_false, ne_eq, not_true_eq_false, not_false_eq_true]) | (refine hK ?_; clear hK hS hC hC1 K S C hf)))
        all_goals first
          | contradiction
          | exact K_cutN ⟨_, _, rfl, by simp only [decide_eq_true_eq]; rw [b47] at hv; exact ⟨fun h => ⟨by omega, hv⟩, fun h => by omega⟩⟩
          | exact K_cutN ⟨_, _, rfl, by rw [b47] at hv; simp only [Bool.false_eq_true, false_iff]; exact fun h => hv h.2⟩
      rintro s' ⟨b, c', rfl, hif⟩
      refine K_if rfl rfl (fun hb => ?_) (fun hb => ?_)
      · obtain ⟨h1, h47⟩ := hif.1 hb
        (repeat (first | (with_reducible (first | refine K_seq ?_ | refine K_next ?_ | refine K_skip ?_ | refine K_bend ?_ | refine K_block ?_ | refine K_exit ?_ | refine X_code ?_ | refine X_lend ?_ | refine X_here ?_ | refine X_on (by decide) ?_ | refine K_lendL ?_)) | (refine K_ifT rfl rfl ?_) | (refine K_ifF rfl rfl ?_) | (refine K_ev nmd [] hng (by kernel_rfl) fun hf C S K hC1 hC hS hK => ?_; simp (disch := first | omega | assumption) only [go_sem, ↓reduceIte, Nat.reduceEqDiff, Nat.reduceAdd, Nat.reduceMul, Nat.reduceLT, Nat.reduceLeDiff, reduceCtorEq, Nat.reduceBEq, Int.reduceToNat, Int.reduceNeg, hbl, hz2]; (repeat ((first | refine hC1 _ () (by simp (disch := first | omega | assumption) only [go_sem, ↓reduceIte, Nat.reduceEqDiff, Nat.reduceAdd, Nat.reduceMul, Nat.reduceLT, Nat.reduceLeDiff, reduceCtorEq, Nat.reduceBEq, Int.reduceToNat, Int.reduceNeg]) ?_); simp (disch := first | omega | assumption) only [go_sem, ↓reduceIte, Nat.reduceEqDiff, Nat.reduceAdd, Nat.reduceMul, Nat.reduceLT, Nat.reduceLeDiff, reduceCtorEq, Nat.reduceBEq, Int.reduceToNat, Int.reduceNeg])); refine hK ?_; clear hK hS hC hC1 K S C hf)))
        have hm1 : (((m - 1 : Nat) : Int) + 1).toNat = m := by omega
        exact K_ret (done1 (congrArg AV.str (by rw [baseX_big (by omega), hbl, hlk h1, lastK_at hm0 h47, hm1])))
      · (repeat (first | (with_reducible (first | refine K_seq ?_ | refine K_next ?_ | refine K_skip ?_ | refine K_bend ?_ | refine K_block ?_ | refine K_exit ?_ | refine X_code ?_ | refine X_lend ?_ | refine X_here ?_ | refine X_on (by decide) ?_ | refine K_lendL ?_)) | (refine K_ifT rfl rfl ?_) | (refine K_ifF rfl rfl ?_) | (refine K_ev nmd [] hng (by kernel_rfl) fun hf C S K hC1 hC hS hK => ?_; simp (disch := first | omega | assumption) only [go_sem, ↓reduceIte, Nat.reduceEqDiff, Nat.reduceAdd, Nat.reduceMul, Nat.reduceLT, Nat.reduceLeDiff, reduceCtorEq, Nat.reduceBEq, Int.reduceToNat, Int.reduceNeg]; refine hK ?_; clear hK hS hC hC1 K S C hf)))
        refine ⟨_, _, ?_, fun _ _ h => h, m - 1, c' + 1, rfl, by omega, fun h1 => ?_, ?_⟩
        · omega
        · rw [hlk h1, lastK_go hm0 (fun e => by rw [hif.2 ⟨h1, e⟩] at hb; cases hb)]
        · rw [show (((m - 1 : Nat) : Int) - 1) = (m : Int) - 1 - 1 by omega]; rfl
    · obtain rfl : m = 0 := by omega
      (repeat (first | (with_reducible (first | refine K_seq ?_ | refine K_next ?_ | refine K_skip ?_ | refine K_bend ?_ | refine K_block ?_ | refine K_exit ?_ | refine X_code ?_ | refine X_lend ?_ | refine X_here ?_ | refine X_on (by decide) ?_ | refine K_lendL ?_)) | (refine K_ifT rfl rfl ?_) | (refine K_ifF rfl rfl ?_) | (refine K_ev nmd [] hng (by kernel_rfl) fun hf C S K hC1 hC hS hK => ?_; simp (disch := first | omega | assumption) only [go_sem, ↓reduceIte, Nat.reduceEqDiff, Nat.reduceAdd, Nat.reduceMul, Nat.reduceLT, Nat.reduceLeDiff, reduceCtorEq, Nat.reduceBEq, Int.reduceToNat, Int.reduceNeg]; refine hK ?_; clear hK hS hC hC1 K S C hf)))
      refine K_ret (done1 (congrArg AV.str ?_))
      by_cases h1 : 1 < n
      · rw [baseX_big (by omega), hbl, hlk h1]; rfl
      · rw [baseX_small (by omega)]
theorem aboveR_ok (s : Str) (hl : s.length ≤ 4000000000) (p : Oid) : CallOK Tryz.prog 51 [.str s] (Oid.under p) ⟨[], .str (aboveX s), []⟩ := by
  refine fnOK (n := 51) (rs := [.tmp 2]) Tryz.func51 rfl rfl (by decide) rfl rfl rfl ?_; rintro x rfl hrd hng
  (repeat (first | (with_reducible (first | refine K_seq ?_ | refine K_next ?_ | refine K_skip ?_ | refine K_bend ?_ | refine K_block ?_ | refine K_exit ?_ | refine X_code ?_ | refine X_lend ?_ | refine X_here ?_ | refine X_on (by decide) ?_ | refine K_lendL ?_)) | (refine K_ifT rfl rfl ?_) | (refine K_ifF rfl rfl ?_) | (refine K_ev nmd [] hng (by kernel_rfl) fun hf C S K hC1 hC hS hK => ?_; simp (disch := first | omega | assumption) only [go_sem, ↓reduceIte, Nat.reduceEqDiff, Nat.reduceAdd, Nat.reduceMul, Nat.reduceLT, Nat.reduceLeDiff, reduceCtorEq, Nat.reduceBEq, Int.reduceToNat, Int.reduceNeg]; refine hK ?_; clear hK hS hC hC1 K S C hf)))
  refine K_loop [0] (fun k s' => ∃ (n c : Nat), n = k ∧ n ≤ s.length ∧ bareN s s.length = bareN s n ∧ s' = ⟨[(0, .str (s.take n))], Mem.of [], c, []⟩) _ ⟨s.length, _, rfl, Nat.le_refl _, rfl, by rw [List.take_length]; rfl⟩ ?_
  rintro k s' ⟨n, c, rfl, hn, hbn, rfl⟩
  have htl : (s.take n).length = n := by rw [List.length_take]; omega
  have hz : ((n : Int) - 1).toNat = n - 1 := by omega
  (repeat (with_reducible (first | refine K_seq ?_ | refine K_next ?_ | refine K_skip ?_ | refine K_bend ?_ | refine K_block ?_ | refine K_exit ?_ | refine X_code ?_ | refine X_lend ?_ | refine X_here ?_ | refine X_on (by decide) ?_ | refine K_lendL ?_)))
  refine K_cut [0, 14] (fun s' => ∃ (b : Bool) (c' : Nat), s' = ⟨[(0, .str (s.take n)), (14, .bool b)], Mem.of [], c', []⟩ ∧ (b = true ↔ (1 < n ∧ s.getD (n - 1) 0 = 47))) ?_ ?_
  · refine K_ev nmd [(3, 7)] hng (by kernel_rfl) fun hf C S K hC1 hC hS hK => ?_; simp (disch := first | omega | assumption) only [go_sem, ↓reduceIte, Nat.reduceEqDiff, Nat.reduceAdd, Nat.reduceMul, Nat.reduceLT, Nat.reduceLeDiff, reduceCtorEq, Nat.reduceBEq, Int.reduceToNat, Int.reduceNeg, htl, hz, decide_true, decide_false, ne_eq, not_true_eq_false, not_false_eq_true]
    (repeat' (first | (refine evG_split (fun hv => ?_) (fun hv => ?_) <;> (try simp only [decide_eq_true_eq, decide_eq_false_iff_not, Bool.not_eq_true', Bool.not_eq_false', Bool.and_eq_true] at hv) <;> simp (disch := first | omega | assumption) only [go_sem, ↓reduceIte, Nat.reduceEqDiff, Nat.reduceAdd, Nat.reduceMul, Nat.reduceLT, Nat.reduceLeDiff, reduceCtorEq, Nat.reduceBEq, Int.reduceToNat, Int.reduceNeg, hv, htl, hz, decide_true, decide_false, ne_eq, not_true_eq_false, not_false_eq_true]) | (refine hK ?_; clear hK hS hC hC1 K S C hf)))
    all_goals first
      | contradiction
      | exact K_cutN ⟨_, _, rfl, by simp only [decide_eq_true_eq, b47]; rw [take_getD (by omega)]; exact ⟨fun h => ⟨by omega, h⟩, fun h => h.2⟩⟩
      | exact K_cutN ⟨_, _, rfl, by simp only [Bool.false_eq_true, false_iff]; omega⟩
  rintro s' ⟨b, c', rfl, hiff⟩
  refine K_if rfl rfl (fun hb => ?_) (fun hb => ?_)
  · obtain ⟨h1, h47⟩ := hiff.1 hb
    (repeat (first | (with_reducible (first | refine K_seq ?_ | refine K_next ?_ | refine K_skip ?_ | refine K_bend ?_ | refine K_block ?_ | refine K_exit ?_ | refine X_code ?_ | refine X_lend ?_ | refine X_here ?_ | refine X_on (by decide) ?_ | refine K_lendL ?_)) | (refine K_ifT rfl rfl ?_) | (refine K_ifF rfl rfl ?_) | (refine K_ev nmd [] hng (by kernel_rfl) fun hf C S K hC1 hC hS hK => ?_; simp (disch := first | omega | assumption) only [go_sem, ↓reduceIte, Nat.reduceEqDiff, Nat.reduceAdd, Nat.reduceMul, Nat.reduceLT, Nat.reduceLeDiff, reduceCtorEq, Nat.reduceBEq, Int.reduceToNat, Int.reduceNeg, htl, hz]; (repeat ((first | refine hC1 _ () (by simp (disch := first | omega | assumption) only [go_sem, ↓reduceIte, Nat.reduceEqDiff, Nat.reduceAdd, Nat.reduceMul, Nat.reduceLT, Nat.reduceLeDiff, reduceCtorEq, Nat.reduceBEq, Int.reduceToNat, Int.reduceNeg]) ?_); simp (disch := first | omega | assumption) only [go_sem, ↓reduceIte, Nat.reduceEqDiff, Nat.reduceAdd, Nat.reduceMul, Nat.reduceLT, Nat.reduceLeDiff, reduceCtorEq, Nat.reduceBEq, Int.reduceToNat, Int.reduceNeg])); refine hK ?_; clear hK hS hC hC1 K S C hf)))
    exact ⟨_, _, by omega, fun _ _ h => h, n - 1, _, rfl, by omega, by rw [hbn, bareN_go h1 h47], by rw [List.take_take, Nat.min_eq_left (by omega)]; rfl⟩
  · have hst : ¬ (1 < n ∧ s.getD (n - 1) 0 = 47) := fun h => by rw [hiff.2 h] at hb; cases hb
    have hB : s.take n = bareX s := by unfold bareX; rw [hbn, bareN_stop hst]
    have hbl : (bareX s).length = n := by rw [← hB, htl]
    have hax : aboveX s = if lastK (bareX s) 47 n < 0 then [46] else if stripN (bareX s) (lastK (bareX s) 47 n).toNat = 0 then [47] else (bareX s).take (stripN (bareX s) (lastK (bareX s) 47 n).toNat) := by rw [aboveX, hbl]
    rw [hB, hax]
    (repeat (first | (with_reducible (first | refine K_seq ?_ | refine K_next ?_ | refine K_skip ?_ | refine K_bend ?_ | refine K_block ?_ | refine K_exit ?_ | refine X_code ?_ | refine X_lend ?_ | refine X_here ?_ | refine X_on (by decide) ?_ | refine K_lendL ?_)) | (refine K_ifT rfl rfl ?_) | (refine K_ifF rfl rfl ?_) | (refine K_ev nmd [] hng (by kernel_rfl) fun hf C S K hC1 hC hS hK => ?_; simp (disch := first | omega | assumption) only [go_sem, ↓reduceIte, Nat.reduceEqDiff, Nat.reduceAdd, Nat.reduceMul, Nat.reduceLT, Nat.reduceLeDiff, reduceCtorEq, Nat.reduceBEq, Int.reduceToNat, Int.reduceNeg, hbl]; (repeat ((first | refine hC1 _ () (by simp (disch := first | omega | assumption) only [go_sem, ↓reduceIte, Nat.reduceEqDiff, Nat.reduceAdd, Nat.reduceMul, Nat.reduceLT, Nat.reduceLeDiff, reduceCtorEq, Nat.reduceBEq, Int.reduceToNat, Int.reduceNeg]) ?_); simp (disch := first | omega | assumption) only [go_sem, ↓reduceIte, Nat.reduceEqDiff, Nat.reduceAdd, Nat.reduceMul, Nat.reduceLT, Nat.reduceLeDiff, reduceCtorEq, Nat.reduceBEq, Int.reduceToNat, Int.reduceNeg])); refine hK ?_; clear hK hS hC hC1 K S C hf)))
    refine K_loop [0, 3] (fun k s' => ∃ (m c : Nat), m = k ∧ m ≤ n ∧ lastK (bareX s) 47 n = lastK (bareX s) 47 m ∧ s' = ⟨[(0, .str (bareX s)), (3, .int .i64 ((m : Int) - 1))], Mem.of [], c, []⟩) _ ⟨n, _, rfl, Nat.le_refl _, rfl, rfl⟩ ?_
    rintro k s' ⟨m, c, rfl, hm, hlk, rfl⟩
    have hz1 : ((m : Int) - 1).toNat = m - 1 := by omega
    (repeat (with_reducible (first | refine K_seq ?_ | refine K_next ?_ | refine K_skip ?_ | refine K_bend ?_ | refine K_block ?_ | refine K_exit ?_ | refine X_code ?_ | refine X_lend ?_ | refine X_here ?_ | refine X_on (by decide) ?_ | refine K_lendL ?_)))
    refine K_cut [0, 3, 30] (fun s' => ∃ (b : Bool) (c' : Nat), s' = ⟨[(0, .str (bareX s)), (3, .int .i64 ((m : Int) - 1)), (30, .bool b)], Mem.of [], c', []⟩ ∧ (b = true ↔ (0 < m ∧ ¬ (bareX s).getD (m - 1) 0 = 47))) ?_ ?_
    · refine K_ev nmd [(2, 25)] hng (by kernel_rfl) fun hf C S K hC1 hC hS hK => ?_; simp (disch := first | omega | assumption) only [go_sem, ↓reduceIte, Nat.reduceEqDiff, Nat.reduceAdd, Nat.reduceMul, Nat.reduceLT, Nat.reduceLeDiff, reduceCtorEq, Nat.reduceBEq, Int.reduceToNat, Int.reduceNeg, hbl, hz1, decide_true, decide_false, ne_eq, not_true_eq_false, not_false_eq_true]
      (repeat' (first | (refine evG_split (fun hv => ?_) (fun hv => ?_) <;> (try simp only [decide_eq_true_eq, decide_eq_false_iff_not, Bool.not_eq_true', Bool.not_eq_false', Bool.and_eq_true] at hv) <;> simp (disch := first | omega | assumption) only [go_sem, ↓reduceIte, Nat.reduceEqDiff, Nat.reduceAdd, Nat.reduceMul, Nat.reduceLT, Nat.reduceLeDiff, reduceCtorEq, Nat.reduceBEq, Int.reduceToNat, Int.reduceNeg, hv, hbl, hz1, decide_true, decide_false, ne_eq, not_true_eq_false, not_false_eq_true]) | (refine hK ?_; clear hK hS hC hC1 K S C hf)))
      all_goals first
        | contradiction
        | exact K_cutN ⟨_, _, rfl, by simp only [decide_eq_true_eq, b47, ne_eq, decide_not, Bool.not_eq_true', decide_eq_false_iff_not]; exact ⟨fun h => ⟨by omega, h⟩, fun h => h.2⟩⟩
        | exact K_cutN ⟨_, _, rfl, by simp only [Bool.false_eq_true, false_iff]; omega⟩
    rintro s' ⟨b, c', rfl, hif⟩
    refine K_if rfl rfl (fun hb => ?_) (fun hb => ?_)
    · obtain ⟨h0, h47⟩ := hif.1 hb
      (repeat (first | (with_reducible (first | refine K_seq ?_ | refine K_next ?_ | refine K_skip ?_ | refine K_bend ?_ | refine K_block ?_ | refine K_exit ?_ | refine X_code ?_ | refine X_lend ?_ | refine X_here ?_ | refine X_on (by decide) ?_ | refine K_lendL ?_)) | (refine K_ifT rfl rfl ?_) | (refine K_ifF rfl rfl ?_) | (refine K_ev nmd [] hng (by kernel_rfl) fun hf C S K hC1 hC hS hK => ?_; simp (disch := first | omega | assumption) only [go_sem, ↓reduceIte, Nat.reduceEqDiff, Nat.reduceAdd, Nat.reduceMul, Nat.reduceLT, Nat.reduceLeDiff, reduceCtorEq, Nat.reduceBEq, Int.reduceToNat, Int.reduceNeg]; refine hK ?_; clear hK hS hC hC1 K S C hf)))
      refine ⟨_, _, ?_, fun _ _ h => h, m - 1, c' + 1, rfl, by omega, by rw [hlk, lastK_go h0 h47], ?_⟩
      · omega
      · rw [show (((m - 1 : Nat) : Int) - 1) = (m : Int) - 1 - 1 by omega]; rfl
    · have hst2 : ¬ (0 < m ∧ ¬ (bareX s).getD (m - 1) 0 = 47) := fun h => by rw [hif.2 h] at hb; cases hb
      by_cases h0 : m = 0
      · subst h0
        have e1 : lastK (bareX s) 47 n = -1 := hlk
        rw [e1, if_pos (by decide)]
        (repeat (first | (with_reducible (first | refine K_seq ?_ | refine K_next ?_ | refine K_skip ?_ | refine K_bend ?_ | refine K_block ?_ | refine K_exit ?_ | refine X_code ?_ | refine X_lend ?_ | refine X_here ?_ | refine X_on (by decide) ?_ | refine K_lendL ?_)) | (refine K_ifT rfl rfl ?_) | (refine K_ifF rfl rfl ?_) | (refine K_ev nmd [] hng (by kernel_rfl) fun hf C S K hC1 hC hS hK => ?_; simp (disch := first | omega | assumption) only [go_sem, ↓reduceIte, Nat.reduceEqDiff, Nat.reduceAdd, Nat.reduceMul, Nat.reduceLT, Nat.reduceLeDiff, reduceCtorEq, Nat.reduceBEq, Int.reduceToNat, Int.reduceNeg, Int.reduceSub, Int.reduceLT, decide_true]; (repeat ((first | refine hC1 _ () (by simp (disch := first | omega | assumption) only [go_sem, ↓reduceIte, Nat.reduceEqDiff, Nat.reduceAdd, Nat.reduceMul, Nat.reduceLT, Nat.reduceLeDiff, reduceCtorEq, Nat.reduceBEq, Int.reduceToNat, Int.reduceNeg]) ?_); simp (disch := first | omega | assumption) only [go_sem, ↓reduceIte, Nat.reduceEqDiff, Nat.reduceAdd, Nat.reduceMul, Nat.reduceLT, Nat.reduceLeDiff, reduceCtorEq, Nat.reduceBEq, Int.reduceToNat, Int.reduceNeg])); refine hK ?_; clear hK hS hC hC1 K S C hf)))
        exact K_ret (done1 rfl)
      · have h47 : (bareX s).getD (m - 1) 0 = 47 := Classical.byContradiction fun h => hst2 ⟨by omega, h⟩
        have e1 : lastK (bareX s) 47 n = ((m - 1 : Nat) : Int) := by rw [hlk, lastK_at (by omega) h47]
        have hlt : ((m : Int) - 1 < 0) = False := eq_false (by omega)
        have hcast : (m : Int) - 1 = ((m - 1 : Nat) : Int) := by omega
        rw [e1, if_neg (by omega), Int.toNat_natCast]
        rw [hcast] at *
        generalize hq : m - 1 = q0 at *
        (repeat (first | (with_reducible (first | refine K_seq ?_ | refine K_next ?_ | refine K_skip ?_ | refine K_bend ?_ | refine K_block ?_ | refine K_exit ?_ | refine X_code ?_ | refine X_lend ?_ | refine X_here ?_ | refine X_on (by decide) ?_ | refine K_lendL ?_)) | (refine K_ifT rfl rfl ?_) | (refine K_ifF rfl rfl ?_) | (refine K_ev nmd [] hng (by kernel_rfl) fun hf C S K hC1 hC hS hK => ?_; simp (disch := first | omega | assumption) only [go_sem, ↓reduceIte, Nat.reduceEqDiff, Nat.reduceAdd, Nat.reduceMul, Nat.reduceLT, Nat.reduceLeDiff, reduceCtorEq, Nat.reduceBEq, Int.reduceToNat, Int.reduceNeg, hlt, decide_false]; (repeat ((first | refine hC1 _ () (by simp (disch := first | omega | assumption) only [go_sem, ↓reduceIte, Nat.reduceEqDiff, Nat.reduceAdd, Nat.reduceMul, Nat.reduceLT, Nat.reduceLeDiff, reduceCtorEq, Nat.reduceBEq, Int.reduceToNat, Int.reduceNeg]) ?_); simp (disch := first | omega | assumption) only [go_sem, ↓reduceIte, Nat.reduceEqDiff, Nat.reduceAdd, Nat.reduceMul, Nat.reduceLT, Nat.reduceLeDiff, reduceCtorEq, Nat.reduceBEq, Int.reduceToNat, Int.reduceNeg])); refine hK ?_; clear hK hS hC hC1 K S C hf)))
        refine K_loop [0, 3] (fun k s' => ∃ (q c : Nat), q = k ∧ q ≤ q0 ∧ stripN (bareX s) q0 = stripN (bareX s) q ∧ s' = ⟨[(0, .str (bareX s)), (3, .int .i64 (q : Int))], Mem.of [], c, []⟩) _ ⟨q0, _, rfl, Nat.le_refl _, rfl, rfl⟩ ?_
        rintro k s' ⟨q, c, rfl, hq2, hsk, rfl⟩
        have hz3 : ((q : Int) - 1).toNat = q - 1 := by omega
        (repeat (with_reducible (first | refine K_seq ?_ | refine K_next ?_ | refine K_skip ?_ | refine K_bend ?_ | refine K_block ?_ | refine K_exit ?_ | refine X_code ?_ | refine X_lend ?_ | refine X_here ?_ | refine X_on (by decide) ?_ | refine K_lendL ?_)))
        refine K_cut [0, 3, 43] (fun s' => ∃ (b : Bool) (c' : Nat), s' = ⟨[(0, .str (bareX s)), (3, .int .i64 (q : Int)), (43, .bool b)], Mem.of [], c', []⟩ ∧ (b = true ↔ (0 < q ∧ (bareX s).getD (q - 1) 0 = 47))) ?_ ?_
        · refine K_ev nmd [(2, 37)] hng (by kernel_rfl) fun hf C S K hC1 hC hS hK => ?_; simp (disch := first | omega | assumption) only [go_sem, ↓reduceIte, Nat.reduceEqDiff, Nat.reduceAdd, Nat.reduceMul, Nat.reduceLT, Nat.reduceLeDiff, reduceCtorEq, Nat.reduceBEq, Int.reduceToNat, Int.reduceNeg, hbl, hz3, decide_true, decide_false, ne_eq, not_true_eq_false, not_false_eq_true]
          (repeat' (first | (refine evG_split (fun hv => ?_) (fun hv => ?_) <;> (try simp only [decide_eq_true_eq, decide_eq_false_iff_not, Bool.not_eq_true', Bool.not_eq_false', Bool.and_eq_true] at hv) <;> simp (disch := first | omega | assumption) only [go_sem, ↓reduceIte, Nat.reduceEqDiff, Nat.reduceAdd, Nat.reduceMul, Nat.reduceLT, Nat.reduceLeDiff, reduceCtorEq, Nat.reduceBEq, Int.reduceToNat, Int.reduceNeg, hv, hbl, hz3, decide_true, decide_false, ne_eq, not_true_eq_false, not_false_eq_true]) | (refine hK ?_; clear hK hS hC hC1 K S C hf)))
          all_goals first
            | contradiction
            | exact K_cutN ⟨_, _, rfl, by simp only [decide_eq_true_eq, b47]; exact ⟨fun h => ⟨by omega, h⟩, fun h => h.2⟩⟩
            | exact K_cutN ⟨_, _, rfl, by simp only [Bool.false_eq_true, false_iff]; omega⟩
        rintro s' ⟨b, c', rfl, hi2⟩
        refine K_if rfl rfl (fun hb => ?_) (fun hb => ?_)
        · obtain ⟨h5, h6⟩ := hi2.1 hb
          (repeat (first | (with_reducible (first | refine K_seq ?_ | refine K_next ?_ | refine K_skip ?_ | refine K_bend ?_ | refine K_block ?_ | refine K_exit ?_ | refine X_code ?_ | refine X_lend ?_ | refine X_here ?_ | refine X_on (by decide) ?_ | refine K_lendL ?_)) | (refine K_ifT rfl rfl ?_) | (refine K_ifF rfl rfl ?_) | (refine K_ev nmd [] hng (by kernel_rfl) fun hf C S K hC1 hC hS hK => ?_; simp (disch := first | omega | assumption) only [go_sem, ↓reduceIte, Nat.reduceEqDiff, Nat.reduceAdd, Nat.reduceMul, Nat.reduceLT, Nat.reduceLeDiff, reduceCtorEq, Nat.reduceBEq, Int.reduceToNat, Int.reduceNeg]; refine hK ?_; clear hK hS hC hC1 K S C hf)))
          refine ⟨_, _, ?_, fun _ _ h => h, q - 1, c' + 1, rfl, by omega, by rw [hsk, stripN_go h5 h6], ?_⟩
          · omega
          · rw [show ((q - 1 : Nat) : Int) = (q : Int) - 1 by omega]; rfl
        · have hs0 : stripN (bareX s) q0 = q := by rw [hsk, stripN_stop (fun h => by rw [hi2.2 h] at hb; cases hb)]
          rw [hs0]
          (repeat (first | (with_reducible (first | refine K_seq ?_ | refine K_next ?_ | refine K_skip ?_ | refine K_bend ?_ | refine K_block ?_ | refine K_exit ?_ | refine X_code ?_ | refine X_lend ?_ | refine X_here ?_ | refine X_on (by decide) ?_ | refine K_lendL ?_)) | (refine K_ifT rfl rfl ?_) | (refine K_ifF rfl rfl ?_) | (refine K_ev nmd [] hng (by kernel_rfl) fun hf C S K hC1 hC hS hK => ?_; simp (disch := first | omega | assumption) only [go_sem, ↓reduceIte, Nat.reduceEqDiff, Nat.reduceAdd, Nat.reduceMul, Nat.reduceLT, Nat.reduceLeDiff, reduceCtorEq, Nat.reduceBEq, Int.reduceToNat, Int.reduceNeg]; refine hK ?_; clear hK hS hC hC1 K S C hf)))
          refine K_ifd rfl rfl (fun hb => ?_) (fun hb => ?_)
          · rw [if_pos (by omega)]
            (repeat (first | (with_reducible (first | refine K_seq ?_ | refine K_next ?_ | refine K_skip ?_ | refine K_bend ?_ | refine K_block ?_ | refine K_exit ?_ | refine X_code ?_ | refine X_lend ?_ | refine X_here ?_ | refine X_on (by decide) ?_ | refine K_lendL ?_)) | (refine K_ifT rfl rfl ?_) | (refine K_ifF rfl rfl ?_) | (refine K_ev nmd [] hng (by kernel_rfl) fun hf C S K hC1 hC hS hK => ?_; simp (disch := first | omega | assumption) only [go_sem, ↓reduceIte, Nat.reduceEqDiff, Nat.reduceAdd, Nat.reduceMul, Nat.reduceLT, Nat.reduceLeDiff, reduceCtorEq, Nat.reduceBEq, Int.reduceToNat, Int.reduceNeg]; refine hK ?_; clear hK hS hC hC1 K S C hf)))
            exact K_ret (done1 rfl)
          · rw [if_neg (by omega)]
            (repeat (first | (with_reducible (first | refine K_seq ?_ | refine K_next ?_ | refine K_skip ?_ | refine K_bend ?_ | refine K_block ?_ | refine K_exit ?_ | refine X_code ?_ | refine X_lend ?_ | refine X_here ?_ | refine X_on (by decide) ?_ | refine K_lendL ?_)) | (refine K_ifT rfl rfl ?_) | (refine K_ifF rfl rfl ?_) | (refine K_ev nmd [] hng (by kernel_rfl) fun hf C S K hC1 hC hS hK => ?_; simp (disch := first | omega | assumption) only [go_sem, ↓reduceIte, Nat.reduceEqDiff, Nat.reduceAdd, Nat.reduceMul, Nat.reduceLT, Nat.reduceLeDiff, reduceCtorEq, Nat.reduceBEq, Int.reduceToNat, Int.reduceNeg, hbl]; (repeat ((first | refine hC1 _ () (by simp (disch := first | omega | assumption) only [go_sem, ↓reduceIte, Nat.reduceEqDiff, Nat.reduceAdd, Nat.reduceMul, Nat.reduceLT, Nat.reduceLeDiff, reduceCtorEq, Nat.reduceBEq, Int.reduceToNat, Int.reduceNeg]) ?_); simp (disch := first | omega | assumption) only [go_sem, ↓reduceIte, Nat.reduceEqDiff, Nat.reduceAdd, Nat.reduceMul, Nat.reduceLT, Nat.reduceLeDiff, reduceCtorEq, Nat.reduceBEq, Int.reduceToNat, Int.reduceNeg])); refine hK ?_; clear hK hS hC hC1 K S C hf)))
            exact K_ret (done1 rfl)
theorem basenameR_len (s : Str) : (baseX s ++ [10]).length ≤ s.length + 2 := by have := baseX_len s; rw [List.length_append, List.length_singleton]; omega
end Go.Proofs.YtiaiggbimlbkfaaGreatDoor
