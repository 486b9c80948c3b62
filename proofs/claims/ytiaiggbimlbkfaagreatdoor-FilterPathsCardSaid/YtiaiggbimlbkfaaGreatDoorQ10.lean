/- Filter: the last piece of a path, and what is above it. -/
import Derived.Test.YtiaiggbimlbkfaaGreatDoorQ8
set_option linter.unusedVariables false
set_option linter.unusedSimpArgs false
namespace Go.Proofs.YtiaiggbimlbkfaaGreatDoor
open Go Go.Ab
set_option maxRecDepth 20000
set_option maxHeartbeats 4000000
/-- How many of the first k bytes stay if slashes at their end go. -/
def stripN (s : Str) : Nat → Nat
  | 0 => 0
  | k + 1 => if s.getD k 0 = 47 then stripN s k else k + 1
theorem stripN_le (s : Str) : ∀ k, stripN s k ≤ k
  | 0 => Nat.le_refl _
  | k + 1 => by have := stripN_le s k; rw [stripN]; split <;> omega
theorem stripN_behind (s : Str) : ∀ k j, stripN s k ≤ j → j < k → s.getD j 0 = 47
  | 0, _, _, h => absurd h (Nat.not_lt_zero _)
  | k + 1, j, h1, h2 => by
    rw [stripN] at h1
    split at h1
    · rename_i he
      by_cases hj : j = k
      · subst hj; exact he
      · exact stripN_behind s k j h1 (by omega)
    · omega
theorem stripN_at (s : Str) : ∀ k, 0 < stripN s k → ¬ s.getD (stripN s k - 1) 0 = 47
  | 0, h => absurd h (Nat.lt_irrefl _)
  | k + 1, h => by
    rw [stripN] at h ⊢
    split
    · rename_i he; rw [if_pos he] at h; exact stripN_at s k h
    · rename_i he; exact he
theorem strip_trim (s : Str) : Lib.trimRightB s 47 = s.take (stripN s s.length) := by
  refine Lib.trimRightB_take s 47 _ (stripN_le _ _) (fun j b hj hb => ?_) (fun b h0 hb => ?_)
  · obtain ⟨hj2, rfl⟩ := List.getElem?_eq_some_iff.1 hb
    have := stripN_behind s _ j hj hj2
    rwa [List.getD_eq_getElem?_getD, hb, Option.getD_some] at this
  · have := stripN_at s _ h0
    rwa [List.getD_eq_getElem?_getD, hb, Option.getD_some] at this
/-- The same, but one byte stays. -/
def bareN (s : Str) : Nat → Nat
  | 0 => 0
  | 1 => 1
  | k + 2 => if s.getD (k + 1) 0 = 47 then bareN s (k + 1) else k + 2
theorem bareN_le (s : Str) : ∀ k, bareN s k ≤ k
  | 0 => Nat.le_refl _
  | 1 => Nat.le_refl _
  | k + 2 => by have := bareN_le s (k + 1); rw [bareN]; split <;> omega
theorem bareN_strip (s : Str) : ∀ k, (0 < stripN s k ∧ bareN s k = stripN s k) ∨ (stripN s k = 0 ∧ k = 0) ∨ (stripN s k = 0 ∧ 0 < k ∧ bareN s k = 1 ∧ s.getD 0 0 = 47)
  | 0 => .inr (.inl ⟨rfl, rfl⟩)
  | 1 => by
    rw [stripN, bareN]
    by_cases h : s.getD 0 0 = 47
    · rw [if_pos h]; exact .inr (.inr ⟨rfl, by omega, rfl, h⟩)
    · rw [if_neg h]; exact .inl ⟨by omega, rfl⟩
  | k + 2 => by
    have ih := bareN_strip s (k + 1)
    rw [stripN, bareN]
    by_cases h : s.getD (k + 1) 0 = 47
    · rw [if_pos h, if_pos h]
      rcases ih with h1 | h1 | h1
      · exact .inl h1
      · omega
      · exact .inr (.inr ⟨h1.1, by omega, h1.2.2⟩)
    · rw [if_neg h, if_neg h]; exact .inl ⟨by omega, rfl⟩
/-- A path without slashes at its end. -/
def bareX (s : Str) : Str := s.take (bareN s s.length)
theorem take_one {s : Str} (h0 : 0 < s.length) : s.take 1 = [s.getD 0 0] := by
  cases s with
  | nil => simp at h0
  | cons b s => simp
theorem bareX_eq (s : Str) : bareX s = if ¬ Lib.trimRightB s 47 = [] ∨ s = [] then Lib.trimRightB s 47 else [47] := by
  rw [strip_trim]; unfold bareX
  have hl := stripN_le s s.length
  rcases bareN_strip s s.length with ⟨h1, h2⟩ | ⟨h1, h2⟩ | ⟨h1, h2, h3, h4⟩
  · rw [if_pos (.inl fun e => by have := congrArg List.length e; rw [List.length_take, List.length_nil] at this; omega), h2]
  · have : s = [] := List.eq_nil_of_length_eq_zero h2
    subst this; rfl
  · rw [if_neg (fun hh => hh.elim (fun h => h (by rw [h1, List.take_zero])) (fun e => by rw [e] at h2; simp at h2)), h3, take_one h2, h4]
theorem bareX_len (s : Str) : (bareX s).length ≤ s.length := by unfold bareX; rw [List.length_take]; omega
theorem bare_ok (s : Str) (hl : s.length ≤ 4000000000) (p : Oid) : CallOK Tryz.prog 78 [.str s] (Oid.under p) ⟨[], .str (bareX s), []⟩ := by
  rw [bareX_eq]
  refine fnOK (n := 13) (rs := [.tmp 2]) Tryz.func78 rfl rfl (by decide) rfl rfl rfl ?_; rintro x rfl hrd hng
  (repeat (first | (with_reducible (first | refine K_seq ?_ | refine K_next ?_ | refine K_skip ?_ | refine K_bend ?_ | refine K_block ?_ | refine K_exit ?_ | refine X_code ?_ | refine X_lend ?_ | refine X_here ?_ | refine X_on (by decide) ?_ | refine K_lendL ?_)) | (refine K_ifT rfl rfl ?_) | (refine K_ifF rfl rfl ?_) | (refine K_ev nmd [] hng (by kernel_rfl) fun hf C S K hC1 hC hS hK => ?_; simp (disch := first | omega | assumption) only [go_sem, ↓reduceIte, Nat.reduceEqDiff, Nat.reduceAdd, Nat.reduceMul, Nat.reduceLT, Nat.reduceLeDiff, reduceCtorEq, Nat.reduceBEq, Int.reduceToNat, Int.reduceNeg]; (repeat ((first | refine hC1 _ (trimRight_ok s (by omega) _) (by simp (disch := first | omega | assumption) only [go_sem, ↓reduceIte, Nat.reduceEqDiff, Nat.reduceAdd, Nat.reduceMul, Nat.reduceLT, Nat.reduceLeDiff, reduceCtorEq, Nat.reduceBEq, Int.reduceToNat, Int.reduceNeg]) ?_); simp (disch := first | omega | assumption) only [go_sem, ↓reduceIte, Nat.reduceEqDiff, Nat.reduceAdd, Nat.reduceMul, Nat.reduceLT, Nat.reduceLeDiff, reduceCtorEq, Nat.reduceBEq, Int.reduceToNat, Int.reduceNeg])); refine hK ?_; clear hK hS hC hC1 K S C hf)))
  by_cases h0 : Lib.trimRightB s 47 = []
  · by_cases h1 : s = []
    · rw [if_pos (.inr h1)]
      refine K_ev nmd [(2, 8)] hng (by kernel_rfl) fun hf C S K hC1 hC hS hK => ?_; simp (disch := first | omega | assumption) only [go_sem, ↓reduceIte, Nat.reduceEqDiff, Nat.reduceAdd, Nat.reduceMul, Nat.reduceLT, Nat.reduceLeDiff, reduceCtorEq, Nat.reduceBEq, Int.reduceToNat, Int.reduceNeg, h0, h1, decide_true, decide_false, ne_eq, not_true_eq_false, not_false_eq_true]
      (repeat' (first | (refine evG_split (fun hv => ?_) (fun hv => ?_) <;> (try simp only [decide_eq_true_eq, decide_eq_false_iff_not, Bool.not_eq_true', Bool.not_eq_false', Bool.and_eq_true] at hv) <;> simp (disch := first | omega | assumption) only [go_sem, ↓reduceIte, Nat.reduceEqDiff, Nat.reduceAdd, Nat.reduceMul, Nat.reduceLT, Nat.reduceLeDiff, reduceCtorEq, Nat.reduceBEq, Int.reduceToNat, Int.reduceNeg, hv, h0, h1, decide_true, decide_false, ne_eq, not_true_eq_false, not_false_eq_true]) | (refine hK ?_; clear hK hS hC hC1 K S C hf)))
      all_goals first | exact absurd rfl hv | ((repeat (first | (with_reducible (first | refine K_seq ?_ | refine K_next ?_ | refine K_skip ?_ | refine K_bend ?_ | refine K_block ?_ | refine K_exit ?_ | refine X_code ?_ | refine X_lend ?_ | refine X_here ?_ | refine X_on (by decide) ?_ | refine K_lendL ?_)) | (refine K_ifT rfl rfl ?_) | (refine K_ifF rfl rfl ?_) | (refine K_ev nmd [] hng (by kernel_rfl) fun hf C S K hC1 hC hS hK => ?_; simp (disch := first | omega | assumption) only [go_sem, ↓reduceIte, Nat.reduceEqDiff, Nat.reduceAdd, Nat.reduceMul, Nat.reduceLT, Nat.reduceLeDiff, reduceCtorEq, Nat.reduceBEq, Int.reduceToNat, Int.reduceNeg]; refine hK ?_; clear hK hS hC hC1 K S C hf))); exact K_ret (done1 (congrArg AV.str (by subst h1; exact h0))))
    · rw [if_neg (fun hh => hh.elim (fun h => h h0) h1)]
      refine K_ev nmd [(2, 8)] hng (by kernel_rfl) fun hf C S K hC1 hC hS hK => ?_; simp (disch := first | omega | assumption) only [go_sem, ↓reduceIte, Nat.reduceEqDiff, Nat.reduceAdd, Nat.reduceMul, Nat.reduceLT, Nat.reduceLeDiff, reduceCtorEq, Nat.reduceBEq, Int.reduceToNat, Int.reduceNeg, h0, h1, decide_true, decide_false, ne_eq, not_true_eq_false, not_false_eq_true]
      (repeat' (first | (refine evG_split (fun hv => ?_) (fun hv => ?_) <;> (try simp only [decide_eq_true_eq, decide_eq_false_iff_not, Bool.not_eq_true', Bool.not_eq_false', Bool.and_eq_true] at hv) <;> simp (disch := first | omega | assumption) only [go_sem, ↓reduceIte, Nat.reduceEqDiff, Nat.reduceAdd, Nat.reduceMul, Nat.reduceLT, Nat.reduceLeDiff, reduceCtorEq, Nat.reduceBEq, Int.reduceToNat, Int.reduceNeg, hv, h0, h1, decide_true, decide_false, ne_eq, not_true_eq_false, not_false_eq_true]) | (refine hK ?_; clear hK hS hC hC1 K S C hf)))
      all_goals first | exact absurd rfl hv | ((repeat (first | (with_reducible (first | refine K_seq ?_ | refine K_next ?_ | refine K_skip ?_ | refine K_bend ?_ | refine K_block ?_ | refine K_exit ?_ | refine X_code ?_ | refine X_lend ?_ | refine X_here ?_ | refine X_on (by decide) ?_ | refine K_lendL ?_)) | (refine K_ifT rfl rfl ?_) | (refine K_ifF rfl rfl ?_) | (refine K_ev nmd [] hng (by kernel_rfl) fun hf C S K hC1 hC hS hK => ?_; simp (disch := first | omega | assumption) only [go_sem, ↓reduceIte, Nat.reduceEqDiff, Nat.reduceAdd, Nat.reduceMul, Nat.reduceLT, Nat.reduceLeDiff, reduceCtorEq, Nat.reduceBEq, Int.reduceToNat, Int.reduceNeg]; refine hK ?_; clear hK hS hC hC1 K S C hf))); exact K_ret (done1 rfl))
  · rw [if_pos (.inl h0)]
    refine K_ev nmd [(2, 8)] hng (by kernel_rfl) fun hf C S K hC1 hC hS hK => ?_; simp (disch := first | omega | assumption) only [go_sem, ↓reduceIte, Nat.reduceEqDiff, Nat.reduceAdd, Nat.reduceMul, Nat.reduceLT, Nat.reduceLeDiff, reduceCtorEq, Nat.reduceBEq, Int.reduceToNat, Int.reduceNeg, h0, decide_true, decide_false, ne_eq, not_true_eq_false, not_false_eq_true]
    (repeat' (first | (refine evG_split (fun hv => ?_) (fun hv => ?_) <;> (try simp only [decide_eq_true_eq, decide_eq_false_iff_not, Bool.not_eq_true', Bool.not_eq_false', Bool.and_eq_true] at hv) <;> simp (disch := first | omega | assumption) only [go_sem, ↓reduceIte, Nat.reduceEqDiff, Nat.reduceAdd, Nat.reduceMul, Nat.reduceLT, Nat.reduceLeDiff, reduceCtorEq, Nat.reduceBEq, Int.reduceToNat, Int.reduceNeg, hv, h0, decide_true, decide_false, ne_eq, not_true_eq_false, not_false_eq_true]) | (refine hK ?_; clear hK hS hC hC1 K S C hf)))
    all_goals first | exact absurd rfl hv | ((repeat (first | (with_reducible (first | refine K_seq ?_ | refine K_next ?_ | refine K_skip ?_ | refine K_bend ?_ | refine K_block ?_ | refine K_exit ?_ | refine X_code ?_ | refine X_lend ?_ | refine X_here ?_ | refine X_on (by decide) ?_ | refine K_lendL ?_)) | (refine K_ifT rfl rfl ?_) | (refine K_ifF rfl rfl ?_) | (refine K_ev nmd [] hng (by kernel_rfl) fun hf C S K hC1 hC hS hK => ?_; simp (disch := first | omega | assumption) only [go_sem, ↓reduceIte, Nat.reduceEqDiff, Nat.reduceAdd, Nat.reduceMul, Nat.reduceLT, Nat.reduceLeDiff, reduceCtorEq, Nat.reduceBEq, Int.reduceToNat, Int.reduceNeg]; refine hK ?_; clear hK hS hC hC1 K S C hf))); exact K_ret (done1 rfl))
theorem lastIdx_K (s : Str) (b : UInt8) : ∀ k, k ≤ s.length → Lib.lastIdx ⟨s.toArray⟩ (b.toNat : Int) k = lastK s b k
  | 0, _ => rfl
  | k + 1, h => by
    have ih := lastIdx_K s b k (by omega)
    have hg : (⟨s.toArray⟩ : ByteArray).data[k]! = s.getD k 0 := by
      show s.toArray[k]! = _
      rw [List.getD_eq_getElem?_getD, List.getElem?_eq_getElem h]
      simp [show k < s.length from h]
    have h' : k < s.length := h
    rw [Lib.lastIdx, lastK, hg, ih]
    by_cases he : s.getD k 0 = b
    · rw [if_pos (by rw [he]), if_pos he]
    · rw [if_neg (fun e => he (UInt8.toNat_inj.1 (by omega))), if_neg he]
theorem lastIdx_ok (s : Str) (b : UInt8) (hl : s.length ≤ 4000000000) (sp : Oid → Prop) : CallOK Tryz.prog 79 [.str s, .int .u8 (b.toNat : Int)] sp ⟨[], .int .i64 (lastK s b s.length), []⟩ :=
  callOK_same (by kernel_rfl) fun g args w ha _ => by
    obtain ⟨v, u, rfl, hv, hu⟩ := ha.two
    obtain ⟨c, rfl, hb⟩ := hv.str_inv
    rw [hu.int_inv, str_ba hb]
    refine (Tryz.strings_LastIndexByte ⟨s.toArray⟩ b.toNat (by show s.toArray.size < _; simp; omega) w).mono ?_
    rintro e w' ⟨rfl, rfl⟩
    exact ⟨_, rfl, by unfold Lib.lastIndexByte; rw [lastIdx_K s b _ (by show s.toArray.size ≤ _; simp)]; exact .int _ _, rfl⟩
/-- The last piece of a path. -/
def baseX (s : Str) : Str := if bareX s = [47] then [47] else (bareX s).drop (lastK (bareX s) 47 (bareX s).length + 1).toNat
theorem baseX_len (s : Str) : (baseX s).length ≤ s.length + 1 := by
  have := bareX_len s
  unfold baseX; split
  · simp
  · rw [List.length_drop]; omega
theorem base_ok (s : Str) (hl : s.length ≤ 4000000000) (p : Oid) : CallOK Tryz.prog 77 [.str s] (Oid.under p) ⟨[], .str (baseX s), []⟩ := by
  have hbl := bareX_len s
  have hk := lastK_le (bareX s) 47 (bareX s).length
  refine fnOK (n := 13) (rs := [.tmp 2]) Tryz.func77 rfl rfl (by decide) rfl rfl rfl ?_; rintro x rfl hrd hng
  (repeat (first | (with_reducible (first | refine K_seq ?_ | refine K_next ?_ | refine K_skip ?_ | refine K_bend ?_ | refine K_block ?_ | refine K_exit ?_ | refine X_code ?_ | refine X_lend ?_ | refine X_here ?_ | refine X_on (by decide) ?_ | refine K_lendL ?_)) | (refine K_ifT rfl rfl ?_) | (refine K_ifF rfl rfl ?_) | (refine K_ev nmd [] hng (by kernel_rfl) fun hf C S K hC1 hC hS hK => ?_; simp (disch := first | omega | assumption) only [go_sem, ↓reduceIte, Nat.reduceEqDiff, Nat.reduceAdd, Nat.reduceMul, Nat.reduceLT, Nat.reduceLeDiff, reduceCtorEq, Nat.reduceBEq, Int.reduceToNat, Int.reduceNeg]; (repeat ((first | refine hC1 _ (bare_ok s hl _) (by simp (disch := first | omega | assumption) only [go_sem, ↓reduceIte, Nat.reduceEqDiff, Nat.reduceAdd, Nat.reduceMul, Nat.reduceLT, Nat.reduceLeDiff, reduceCtorEq, Nat.reduceBEq, Int.reduceToNat, Int.reduceNeg]) ?_); simp (disch := first | omega | assumption) only [go_sem, ↓reduceIte, Nat.reduceEqDiff, Nat.reduceAdd, Nat.reduceMul, Nat.reduceLT, Nat.reduceLeDiff, reduceCtorEq, Nat.reduceBEq, Int.reduceToNat, Int.reduceNeg])); refine hK ?_; clear hK hS hC hC1 K S C hf)))
  refine K_ifd rfl rfl (fun hb => ?_) (fun hb => ?_)
  · (repeat (first | (with_reducible (first | refine K_seq ?_ | refine K_next ?_ | refine K_skip ?_ | refine K_bend ?_ | refine K_block ?_ | refine K_exit ?_ | refine X_code ?_ | refine X_lend ?_ | refine X_here ?_ | refine X_on (by decide) ?_ | refine K_lendL ?_)) | (refine K_ifT rfl rfl ?_) | (refine K_ifF rfl rfl ?_) | (refine K_ev nmd [] hng (by kernel_rfl) fun hf C S K hC1 hC hS hK => ?_; simp (disch := first | omega | assumption) only [go_sem, ↓reduceIte, Nat.reduceEqDiff, Nat.reduceAdd, Nat.reduceMul, Nat.reduceLT, Nat.reduceLeDiff, reduceCtorEq, Nat.reduceBEq, Int.reduceToNat, Int.reduceNeg]; refine hK ?_; clear hK hS hC hC1 K S C hf)))
    exact K_ret (done1 (congrArg AV.str (hb.trans (by rw [baseX, if_pos hb]))))
  · (repeat (first | (with_reducible (first | refine K_seq ?_ | refine K_next ?_ | refine K_skip ?_ | refine K_bend ?_ | refine K_block ?_ | refine K_exit ?_ | refine X_code ?_ | refine X_lend ?_ | refine X_here ?_ | refine X_on (by decide) ?_ | refine K_lendL ?_)) | (refine K_ifT rfl rfl ?_) | (refine K_ifF rfl rfl ?_) | (refine K_ev nmd [] hng (by kernel_rfl) fun hf C S K hC1 hC hS hK => ?_; simp (disch := first | omega | assumption) only [go_sem, ↓reduceIte, Nat.reduceEqDiff, Nat.reduceAdd, Nat.reduceMul, Nat.reduceLT, Nat.reduceLeDiff, reduceCtorEq, Nat.reduceBEq, Int.reduceToNat, Int.reduceNeg]; (repeat ((first | refine hC1 _ (lastIdx_ok (bareX s) 47 (by omega) _) (by simp (disch := first | omega | assumption) only [go_sem, ↓reduceIte, Nat.reduceEqDiff, Nat.reduceAdd, Nat.reduceMul, Nat.reduceLT, Nat.reduceLeDiff, reduceCtorEq, Nat.reduceBEq, Int.reduceToNat, Int.reduceNeg]) ?_); simp (disch := first | omega | assumption) only [go_sem, ↓reduceIte, Nat.reduceEqDiff, Nat.reduceAdd, Nat.reduceMul, Nat.reduceLT, Nat.reduceLeDiff, reduceCtorEq, Nat.reduceBEq, Int.reduceToNat, Int.reduceNeg])); refine hK ?_; clear hK hS hC hC1 K S C hf)))
    exact K_ret (done1 (congrArg AV.str (by rw [baseX, if_neg hb])))
/-- What is above a path. -/
def aboveX (s : Str) : Str := if lastK (bareX s) 47 (bareX s).length < 0 then [46] else if stripN (bareX s) (lastK (bareX s) 47 (bareX s).length).toNat = 0 then [47] else (bareX s).take (stripN (bareX s) (lastK (bareX s) 47 (bareX s).length).toNat)
theorem aboveX_len (s : Str) : (aboveX s).length ≤ s.length + 1 := by
  have := bareX_len s
  unfold aboveX; split
  · simp
  · split
    · simp
    · rw [List.length_take]; omega
theorem lastK_hit (l : Str) (b : UInt8) : ∀ k, 0 ≤ lastK l b k → l.getD (lastK l b k).toNat 0 = b
  | 0, h => by simp [lastK] at h
  | k + 1, h => by
    rw [lastK] at h ⊢
    split
    · rename_i he; simpa using he
    · rename_i he; rw [if_neg he] at h; exact lastK_hit l b k h
theorem stripN_take (s : Str) (n : Nat) : ∀ k, k ≤ n → stripN (s.take n) k = stripN s k
  | 0, _ => rfl
  | k + 1, h => by
    have hg : (s.take n).getD k 0 = s.getD k 0 := by simp [List.getD_eq_getElem?_getD, List.getElem?_take, show k < n by omega]
    rw [stripN, stripN, hg, stripN_take s n k (by omega)]
theorem above_bare (b : Str) (k : Nat) (hk : k < b.length) (h : b.getD k 0 = 47) : bareX (b.take (k + 1)) = if stripN b k = 0 then [47] else b.take (stripN b k) := by
  have hl : (b.take (k + 1)).length = k + 1 := by rw [List.length_take]; omega
  have hs : stripN (b.take (k + 1)) (k + 1) = stripN b k := by rw [stripN_take b (k + 1) (k + 1) (Nat.le_refl _), stripN, if_pos h]
  have hle := stripN_le b k
  rw [bareX_eq, strip_trim, hl, hs, List.take_take, Nat.min_eq_left (by omega)]
  by_cases h0 : stripN b k = 0
  · rw [if_pos h0, h0, List.take_zero, if_neg (fun hh => hh.elim (fun h => h rfl) (fun e => by rw [e] at hl; simp at hl))]
  · rw [if_neg h0, if_pos (.inl fun e => by have := congrArg List.length e; rw [List.length_take, List.length_nil] at this; omega)]
theorem basename_ok (s t : Str) (hl : s.length ≤ 4000000000) (p : Oid) : CallOK Tryz.prog 38 [.list 1 [.str s], .str t] (Oid.under p) ⟨[], .tuple [(toldR (baseX s ++ [10])).av, .bool true], []⟩ := by
  have hbl := baseX_len s
  refine fnOK (n := 20) (rs := [.cell 4 32, .tmp 5]) Tryz.func38 rfl rfl (by decide) rfl rfl rfl ?_; rintro x rfl hrd hng
  (repeat (first | (with_reducible (first | refine K_seq ?_ | refine K_next ?_ | refine K_skip ?_ | refine K_bend ?_ | refine K_block ?_ | refine K_exit ?_ | refine X_code ?_ | refine X_lend ?_ | refine X_here ?_ | refine X_on (by decide) ?_ | refine K_lendL ?_)) | (refine K_ifT rfl rfl ?_) | (refine K_ifF rfl rfl ?_) | (refine K_ev nmd [] hng (by kernel_rfl) fun hf C S K hC1 hC hS hK => ?_; simp (disch := first | omega | assumption) only [go_sem, ↓reduceIte, Nat.reduceEqDiff, Nat.reduceAdd, Nat.reduceMul, Nat.reduceLT, Nat.reduceLeDiff, reduceCtorEq, Nat.reduceBEq, Int.reduceToNat, Int.reduceNeg]; (repeat ((first | refine hC1 _ (base_ok s hl _) (by simp (disch := first | omega | assumption) only [go_sem, ↓reduceIte, Nat.reduceEqDiff, Nat.reduceAdd, Nat.reduceMul, Nat.reduceLT, Nat.reduceLeDiff, reduceCtorEq, Nat.reduceBEq, Int.reduceToNat, Int.reduceNeg]) ?_ | refine hC1 _ (told_x (baseX s ++ [10]) _) (by simp (disch := first | omega | assumption) only [go_sem, ↓reduceIte, Nat.reduceEqDiff, Nat.reduceAdd, Nat.reduceMul, Nat.reduceLT, Nat.reduceLeDiff, reduceCtorEq, Nat.reduceBEq, Int.reduceToNat, Int.reduceNeg]) ?_); simp (disch := first | omega | assumption) only [go_sem, ↓reduceIte, Nat.reduceEqDiff, Nat.reduceAdd, Nat.reduceMul, Nat.reduceLT, Nat.reduceLeDiff, reduceCtorEq, Nat.reduceBEq, Int.reduceToNat, Int.reduceNeg])); refine hK ?_; clear hK hS hC hC1 K S C hf)))
  exact K_ret (done_plain (by simp (disch := first | omega | assumption) only [go_sem, ↓reduceIte, Nat.reduceEqDiff, Nat.reduceAdd, Nat.reduceMul, Nat.reduceLT, Nat.reduceLeDiff, reduceCtorEq, Nat.reduceBEq, Int.reduceToNat, Int.reduceNeg, Res.av, toldR, badR, usageR]))
theorem dirname_ok (s t : Str) (hl : s.length ≤ 4000000000) (p : Oid) : CallOK Tryz.prog 39 [.list 1 [.str s], .str t] (Oid.under p) ⟨[], .tuple [(toldR (aboveX s ++ [10])).av, .bool true], []⟩ := by
  have hbl := bareX_len s
  have hal := aboveX_len s
  have hk := lastK_le (bareX s) 47 (bareX s).length
  refine fnOK (n := 33) (rs := [.cell 4 32, .tmp 5]) Tryz.func39 rfl rfl (by decide) rfl rfl rfl ?_; rintro x rfl hrd hng
  (repeat (first | (with_reducible (first | refine K_seq ?_ | refine K_next ?_ | refine K_skip ?_ | refine K_bend ?_ | refine K_block ?_ | refine K_exit ?_ | refine X_code ?_ | refine X_lend ?_ | refine X_here ?_ | refine X_on (by decide) ?_ | refine K_lendL ?_)) | (refine K_ifT rfl rfl ?_) | (refine K_ifF rfl rfl ?_) | (refine K_ev nmd [] hng (by kernel_rfl) fun hf C S K hC1 hC hS hK => ?_; simp (disch := first | omega | assumption) only [go_sem, ↓reduceIte, Nat.reduceEqDiff, Nat.reduceAdd, Nat.reduceMul, Nat.reduceLT, Nat.reduceLeDiff, reduceCtorEq, Nat.reduceBEq, Int.reduceToNat, Int.reduceNeg]; (repeat ((first | refine hC1 _ (bare_ok s hl _) (by simp (disch := first | omega | assumption) only [go_sem, ↓reduceIte, Nat.reduceEqDiff, Nat.reduceAdd, Nat.reduceMul, Nat.reduceLT, Nat.reduceLeDiff, reduceCtorEq, Nat.reduceBEq, Int.reduceToNat, Int.reduceNeg]) ?_ | refine hC1 _ (lastIdx_ok (bareX s) 47 (by omega) _) (by simp (disch := first | omega | assumption) only [go_sem, ↓reduceIte, Nat.reduceEqDiff, Nat.reduceAdd, Nat.reduceMul, Nat.reduceLT, Nat.reduceLeDiff, reduceCtorEq, Nat.reduceBEq, Int.reduceToNat, Int.reduceNeg]) ?_); simp (disch := first | omega | assumption) only [go_sem, ↓reduceIte, Nat.reduceEqDiff, Nat.reduceAdd, Nat.reduceMul, Nat.reduceLT, Nat.reduceLeDiff, reduceCtorEq, Nat.reduceBEq, Int.reduceToNat, Int.reduceNeg])); refine hK ?_; clear hK hS hC hC1 K S C hf)))
  refine K_ifd rfl rfl (fun hb => ?_) (fun hb => ?_)
  · have hx : aboveX s = [46] := by rw [aboveX, if_pos hb]
    rw [hx]
    (repeat (first | (with_reducible (first | refine K_seq ?_ | refine K_next ?_ | refine K_skip ?_ | refine K_bend ?_ | refine K_block ?_ | refine K_exit ?_ | refine X_code ?_ | refine X_lend ?_ | refine X_here ?_ | refine X_on (by decide) ?_ | refine K_lendL ?_)) | (refine K_ifT rfl rfl ?_) | (refine K_ifF rfl rfl ?_) | (refine K_ev nmd [] hng (by kernel_rfl) fun hf C S K hC1 hC hS hK => ?_; simp (disch := first | omega | assumption) only [go_sem, ↓reduceIte, Nat.reduceEqDiff, Nat.reduceAdd, Nat.reduceMul, Nat.reduceLT, Nat.reduceLeDiff, reduceCtorEq, Nat.reduceBEq, Int.reduceToNat, Int.reduceNeg, gd_T]; (repeat ((first | refine hC1 _ (told_x [46, 10] _) (by simp (disch := first | omega | assumption) only [go_sem, ↓reduceIte, Nat.reduceEqDiff, Nat.reduceAdd, Nat.reduceMul, Nat.reduceLT, Nat.reduceLeDiff, reduceCtorEq, Nat.reduceBEq, Int.reduceToNat, Int.reduceNeg]) ?_); simp (disch := first | omega | assumption) only [go_sem, ↓reduceIte, Nat.reduceEqDiff, Nat.reduceAdd, Nat.reduceMul, Nat.reduceLT, Nat.reduceLeDiff, reduceCtorEq, Nat.reduceBEq, Int.reduceToNat, Int.reduceNeg])); refine hK ?_; clear hK hS hC hC1 K S C hf)))
    exact K_ret (done_plain (by simp (disch := first | omega | assumption) only [go_sem, ↓reduceIte, Nat.reduceEqDiff, Nat.reduceAdd, Nat.reduceMul, Nat.reduceLT, Nat.reduceLeDiff, reduceCtorEq, Nat.reduceBEq, Int.reduceToNat, Int.reduceNeg, Res.av, toldR, badR, usageR]))
  · have h0 : ¬ lastK (bareX s) 47 (bareX s).length < 0 := hb
    have hx : aboveX s = bareX ((bareX s).take (lastK (bareX s) 47 (bareX s).length + 1).toNat) := by
      rw [aboveX, if_neg h0, show (lastK (bareX s) 47 (bareX s).length + 1).toNat = (lastK (bareX s) 47 (bareX s).length).toNat + 1 by omega, above_bare _ _ (by omega) (lastK_hit _ _ _ (by omega))]
    have htl : ((bareX s).take (lastK (bareX s) 47 (bareX s).length + 1).toNat).length ≤ 4000000000 := by rw [List.length_take]; omega
    rw [hx] at hal ⊢
    (repeat (first | (with_reducible (first | refine K_seq ?_ | refine K_next ?_ | refine K_skip ?_ | refine K_bend ?_ | refine K_block ?_ | refine K_exit ?_ | refine X_code ?_ | refine X_lend ?_ | refine X_here ?_ | refine X_on (by decide) ?_ | refine K_lendL ?_)) | (refine K_ifT rfl rfl ?_) | (refine K_ifF rfl rfl ?_) | (refine K_ev nmd [] hng (by kernel_rfl) fun hf C S K hC1 hC hS hK => ?_; simp (disch := first | omega | assumption) only [go_sem, ↓reduceIte, Nat.reduceEqDiff, Nat.reduceAdd, Nat.reduceMul, Nat.reduceLT, Nat.reduceLeDiff, reduceCtorEq, Nat.reduceBEq, Int.reduceToNat, Int.reduceNeg]; (repeat ((first | refine hC1 _ (bare_ok ((bareX s).take (lastK (bareX s) 47 (bareX s).length + 1).toNat) htl _) (by simp (disch := first | omega | assumption) only [go_sem, ↓reduceIte, Nat.reduceEqDiff, Nat.reduceAdd, Nat.reduceMul, Nat.reduceLT, Nat.reduceLeDiff, reduceCtorEq, Nat.reduceBEq, Int.reduceToNat, Int.reduceNeg]) ?_ | refine hC1 _ (told_x (bareX ((bareX s).take (lastK (bareX s) 47 (bareX s).length + 1).toNat) ++ [10]) _) (by simp (disch := first | omega | assumption) only [go_sem, ↓reduceIte, Nat.reduceEqDiff, Nat.reduceAdd, Nat.reduceMul, Nat.reduceLT, Nat.reduceLeDiff, reduceCtorEq, Nat.reduceBEq, Int.reduceToNat, Int.reduceNeg]) ?_); simp (disch := first | omega | assumption) only [go_sem, ↓reduceIte, Nat.reduceEqDiff, Nat.reduceAdd, Nat.reduceMul, Nat.reduceLT, Nat.reduceLeDiff, reduceCtorEq, Nat.reduceBEq, Int.reduceToNat, Int.reduceNeg])); refine hK ?_; clear hK hS hC hC1 K S C hf)))
    exact K_ret (done_plain (by simp (disch := first | omega | assumption) only [go_sem, ↓reduceIte, Nat.reduceEqDiff, Nat.reduceAdd, Nat.reduceMul, Nat.reduceLT, Nat.reduceLeDiff, reduceCtorEq, Nat.reduceBEq, Int.reduceToNat, Int.reduceNeg, Res.av, toldR, badR, usageR]))
end Go.Proofs.YtiaiggbimlbkfaaGreatDoor
