/- The stage's theorem: steps behind others add hazards alone. -/
import Derived.Test.YtpdmiojenhodlaaH19
set_option linter.unusedVariables false
set_option linter.unusedSimpArgs false
namespace Go.Proofs.Ytpdmiojenhodlaa
open Go Go.Ab
set_option maxRecDepth 20000
set_option maxHeartbeats 4000000
def quietF (l : List Stp) : List Stp := l.map fun s => ⟨s.reads, []⟩
theorem quiet_tiny {l : List Stp} (h : Tiny l) : Tiny (quietF l) := ⟨by rw [quietF, List.length_map]; exact h.1, fun s hs => by
  obtain ⟨z, hz, rfl⟩ := List.mem_map.1 hs
  obtain ⟨h1, _, h3, _⟩ := h.2 z hz
  exact ⟨h1, Nat.zero_le _, h3, fun t ht => by cases ht⟩⟩
theorem app_tiny {l m : List Stp} (h : Tiny l) (hm : Tiny m) (hl : l.length + m.length ≤ 9) : Tiny (l ++ m) := ⟨by rw [List.length_append]; exact hl, fun s hs => (List.mem_append.1 hs).elim (h.2 s) (hm.2 s)⟩
theorem made_one (b : Bt) : (madeF [b]).length ≤ 1 := by unfold madeF; rw [List.length_map, List.length_take]; simp
def quA (s : Stp) : AV := .agg [.list 3 (s.reads.map Tch.av), .nilSl]
theorem qu_weak : ∀ l : List Stp, ACles (l.map quA) ((quietF l).map Stp.av)
  | [] => .nil
  | s :: l => .cons (.agg (.cons (.refl _) (.cons (.nil 3) .nil))) (qu_weak l)
def hzKeep (n : Nat) (l : List Hz) : List Hz := l.filter fun h => decide (h.second < n)
theorem hzKeep_snoc (n : Nat) {l : List Hz} {i : Nat} (h : i < l.length) : hzKeep n (l.take (i + 1)) = if (l.getD i default).second < n then hzKeep n (l.take i) ++ [l.getD i default] else hzKeep n (l.take i) := by
  rw [List.take_succ_eq_append_getElem h, hzKeep, List.filter_append, getD_in h]
  split <;> rename_i e
  · simp [hzKeep, e]
  · simp [hzKeep, e]
theorem hzKeep_le (n : Nat) (l : List Hz) (i : Nat) : (hzKeep n (l.take i)).length ≤ i := Nat.le_trans (List.length_filter_le _ _) (by rw [List.length_take]; omega)
theorem more_law (l : List Bt) (b : Bt) (hl : BtsV l) (hb : BtV b) (p : Oid) : CallOK Try.prog 5 [.list 2 (l.map Bt.av), b.av] (Oid.under p) ⟨[], .bool true, []⟩ := by
  obtain ⟨htx, h8⟩ := made_tiny l
  obtain ⟨htm, _⟩ := made_tiny [b]
  have h1 := made_one b
  have hmd := fun p => made_at l hl p
  have hme := fun p => made_at [b] ⟨by simp, fun c hc => by rw [List.mem_singleton] at hc; subst hc; exact hb⟩ p
  generalize madeF l = x0 at htx h8 hmd
  generalize madeF [b] = m0 at htm h1 hme
  have hty := app_tiny htx htm (by omega)
  have htq := quiet_tiny htx
  have hmore := refF_more x0 m0
  have hquiet : refF (quietF x0) = [] := refF_quiet x0
  have hord := fun h (hh : h ∈ refF (x0 ++ m0)) => hit_order hh
  refine fnOK (n := 113) (rs := [.tmp 4]) Try.func5 rfl rfl (by decide) rfl rfl rfl ?_; rintro x rfl hrd hng
  (repeat (first | (with_reducible (first | refine K_seq ?_ | refine K_next ?_ | refine K_skip ?_ | refine K_bend ?_ | refine K_block ?_ | refine K_exit ?_ | refine X_code ?_ | refine X_lend ?_ | refine X_here ?_ | refine X_on (by decide) ?_ | refine K_lendL ?_)) | (refine K_ifT rfl rfl ?_) | (refine K_ifF rfl rfl ?_) | (refine K_ev nmd [] hng (by kernel_rfl) fun hf C S K hC1 hC hS hK => ?_; simp (disch := first | omega | assumption) only [go_sem, ↓reduceIte, Nat.reduceEqDiff, Nat.reduceAdd, Nat.reduceMul, Nat.reduceLT, Nat.reduceLeDiff, reduceCtorEq, Nat.reduceBEq, Int.reduceToNat, Int.reduceNeg]; (repeat ((first | refine hC1 _ (awake_ok _) (by simp (disch := first | omega | assumption) only [go_sem, ↓reduceIte, Nat.reduceEqDiff, Nat.reduceAdd, Nat.reduceMul, Nat.reduceLT, Nat.reduceLeDiff, reduceCtorEq, Nat.reduceBEq, Int.reduceToNat, Int.reduceNeg]) ?_ | refine hC1 _ (hmd _) (by simp (disch := first | omega | assumption) only [go_sem, ↓reduceIte, Nat.reduceEqDiff, Nat.reduceAdd, Nat.reduceMul, Nat.reduceLT, Nat.reduceLeDiff, reduceCtorEq, Nat.reduceBEq, Int.reduceToNat, Int.reduceNeg]) ?_ | refine hC1 _ (hme _) (by simp (disch := first | omega | assumption) only [go_sem, ↓reduceIte, Nat.reduceEqDiff, Nat.reduceAdd, Nat.reduceMul, Nat.reduceLT, Nat.reduceLeDiff, reduceCtorEq, Nat.reduceBEq, Int.reduceToNat, Int.reduceNeg]) ?_); simp (disch := first | omega | assumption) only [go_sem, ↓reduceIte, Nat.reduceEqDiff, Nat.reduceAdd, Nat.reduceMul, Nat.reduceLT, Nat.reduceLeDiff, reduceCtorEq, Nat.reduceBEq, Int.reduceToNat, Int.reduceNeg])); refine hK ?_; clear hK hS hC hC1 K S C hf)))
  refine K_void 8 2 rfl ?_
  simp (disch := first | omega | assumption) only [go_sem, ↓reduceIte, Nat.reduceEqDiff, Nat.reduceAdd, Nat.reduceMul, Nat.reduceLT, Nat.reduceLeDiff, reduceCtorEq, Nat.reduceBEq, Int.reduceToNat, Int.reduceNeg]
  refine K_freeze (.sub 7 2 x.p) 2 ((x0 ++ m0).map Stp.av) (by rw [List.map_append]; simp (disch := first | omega | assumption) only [go_sem, ↓reduceIte, Nat.reduceEqDiff, Nat.reduceAdd, Nat.reduceMul, Nat.reduceLT, Nat.reduceLeDiff, reduceCtorEq, Nat.reduceBEq, Int.reduceToNat, Int.reduceNeg]) ?_
  simp (disch := first | omega | assumption) only [go_sem, ↓reduceIte, Nat.reduceEqDiff, Nat.reduceAdd, Nat.reduceMul, Nat.reduceLT, Nat.reduceLeDiff, reduceCtorEq, Nat.reduceBEq, Int.reduceToNat, Int.reduceNeg]
  refine K_drop (Mem.of [(.sub 9 0 x.p, .arr 2 [])]) (mem_end (by simp (disch := first | omega | assumption) only [go_sem, ↓reduceIte, Nat.reduceEqDiff, Nat.reduceAdd, Nat.reduceMul, Nat.reduceLT, Nat.reduceLeDiff, reduceCtorEq, Nat.reduceBEq, Int.reduceToNat, Int.reduceNeg])) ?_
  refine K_loop [5, 6, 7, 8, 10] (fun q s' => ∃ (i c c0 j n : Nat) (xs : List AV), s' = ⟨[(5, .bool true), (6, .list 2 (x0.map Stp.av)), (7, .list 2 ((x0 ++ m0).map Stp.av)), (8, .sl (.sub c0 j x.p) 2 n), (10, .int .i64 i)], Mem.of [(.sub c0 j x.p, .arr 2 xs)], c, []⟩ ∧ q = x0.length - i ∧ n = i ∧ i ≤ x0.length ∧ c0 < c ∧ xs = (x0.take i).map quA) _
    ⟨0, _, _, _, _, [], rfl, rfl, rfl, Nat.zero_le _, Nat.lt_succ_self _, rfl⟩ ?_
  rintro q s' ⟨i, c, c0, j, n, xs, rfl, rfl, rfl, hi, hc, hx⟩
  have hlen : xs.length = n := by rw [hx]; simp; omega
  (repeat (first | (with_reducible (first | refine K_seq ?_ | refine K_next ?_ | refine K_skip ?_ | refine K_bend ?_ | refine K_block ?_ | refine K_exit ?_ | refine X_code ?_ | refine X_lend ?_ | refine X_here ?_ | refine X_on (by decide) ?_ | refine K_lendL ?_)) | (refine K_ifT rfl rfl ?_) | (refine K_ifF rfl rfl ?_) | (refine K_ev nmd [] hng (by kernel_rfl) fun hf C S K hC1 hC hS hK => ?_; simp (disch := first | omega | assumption) only [go_sem, ↓reduceIte, Nat.reduceEqDiff, Nat.reduceAdd, Nat.reduceMul, Nat.reduceLT, Nat.reduceLeDiff, reduceCtorEq, Nat.reduceBEq, Int.reduceToNat, Int.reduceNeg]; refine hK ?_; clear hK hS hC hC1 K S C hf)))
  refine K_ifd rfl rfl (fun hb => ?_) (fun hb => ?_)
  · have hn' : n < x0.length := by omega
    have hzi := getD_map_in Stp.av hn' .undef
    (repeat (first | (with_reducible (first | refine K_seq ?_ | refine K_next ?_ | refine K_skip ?_ | refine K_bend ?_ | refine K_block ?_ | refine K_exit ?_ | refine X_code ?_ | refine X_lend ?_ | refine X_here ?_ | refine X_on (by decide) ?_ | refine K_lendL ?_)) | (refine K_ifT rfl rfl ?_) | (refine K_ifF rfl rfl ?_) | (refine K_ev nmd [] hng (by kernel_rfl) fun hf C S K hC1 hC hS hK => ?_; simp (disch := first | omega | assumption) only [go_sem, ↓reduceIte, Nat.reduceEqDiff, Nat.reduceAdd, Nat.reduceMul, Nat.reduceLT, Nat.reduceLeDiff, reduceCtorEq, Nat.reduceBEq, Int.reduceToNat, Int.reduceNeg, hzi]; refine hK ?_; clear hK hS hC hC1 K S C hf)))
    refine ⟨_, _, ?_, fun _ _ h => h, n + 1, _, _, _, _, _, rfl, rfl, rfl, by omega, by omega, ?_⟩
    · omega
    · rw [hx, take_map_snoc _ hn']; rfl
  · obtain rfl : n = x0.length := by omega
    rw [List.take_length] at hx
    subst hx
    (repeat (first | (with_reducible (first | refine K_seq ?_ | refine K_next ?_ | refine K_skip ?_ | refine K_bend ?_ | refine K_exit ?_ | refine X_code ?_ | refine X_lend ?_ | refine X_here ?_ | refine X_on (by decide) ?_ | refine K_lendL ?_)) | (refine K_ifT rfl rfl ?_) | (refine K_ifF rfl rfl ?_) | (refine K_ev nmd [] hng (by kernel_rfl) fun hf C S K hC1 hC hS hK => ?_; simp (disch := first | omega | assumption) only [go_sem, ↓reduceIte, Nat.reduceEqDiff, Nat.reduceAdd, Nat.reduceMul, Nat.reduceLT, Nat.reduceLeDiff, reduceCtorEq, Nat.reduceBEq, Int.reduceToNat, Int.reduceNeg]; refine hK ?_; clear hK hS hC hC1 K S C hf)))
    (refine K_freeze (.sub c0 j x.p) _ _ (by simp (disch := first | omega | assumption) only [go_sem, ↓reduceIte, Nat.reduceEqDiff, Nat.reduceAdd, Nat.reduceMul, Nat.reduceLT, Nat.reduceLeDiff, reduceCtorEq, Nat.reduceBEq, Int.reduceToNat, Int.reduceNeg]; rfl) ?_; simp (disch := first | omega | assumption) only [go_sem, ↓reduceIte, Nat.reduceEqDiff, Nat.reduceAdd, Nat.reduceMul, Nat.reduceLT, Nat.reduceLeDiff, reduceCtorEq, Nat.reduceBEq, Int.reduceToNat, Int.reduceNeg])
    have hleny := refF_len _ hty.small
    have hlenx := refF_len _ htx.small
    (repeat (first | (with_reducible (first | refine K_seq ?_ | refine K_next ?_ | refine K_skip ?_ | refine K_bend ?_ | refine K_block ?_ | refine K_exit ?_ | refine X_code ?_ | refine X_lend ?_ | refine X_here ?_ | refine X_on (by decide) ?_ | refine K_lendL ?_)) | (refine K_ifT rfl rfl ?_) | (refine K_ifF rfl rfl ?_) | (refine K_ev nmd [] hng (by kernel_rfl) fun hf C S K hC1 hC hS hK => ?_; simp (disch := first | omega | assumption) only [go_sem, ↓reduceIte, Nat.reduceEqDiff, Nat.reduceAdd, Nat.reduceMul, Nat.reduceLT, Nat.reduceLeDiff, reduceCtorEq, Nat.reduceBEq, Int.reduceToNat, Int.reduceNeg]; (repeat ((first | refine hC1 _ (haz_ok _ htx.small _) (by simp (disch := first | omega | assumption) only [go_sem, ↓reduceIte, Nat.reduceEqDiff, Nat.reduceAdd, Nat.reduceMul, Nat.reduceLT, Nat.reduceLeDiff, reduceCtorEq, Nat.reduceBEq, Int.reduceToNat, Int.reduceNeg]) ?_ | refine hC1 _ (haz_ok _ hty.small _) (by simp (disch := first | omega | assumption) only [go_sem, ↓reduceIte, Nat.reduceEqDiff, Nat.reduceAdd, Nat.reduceMul, Nat.reduceLT, Nat.reduceLeDiff, reduceCtorEq, Nat.reduceBEq, Int.reduceToNat, Int.reduceNeg]) ?_); simp (disch := first | omega | assumption) only [go_sem, ↓reduceIte, Nat.reduceEqDiff, Nat.reduceAdd, Nat.reduceMul, Nat.reduceLT, Nat.reduceLeDiff, reduceCtorEq, Nat.reduceBEq, Int.reduceToNat, Int.reduceNeg])); refine hK ?_; clear hK hS hC hC1 K S C hf)))
    generalize hL : refF (x0 ++ m0) = L at hmore hord hleny
    refine K_void 13 5 rfl ?_
    simp (disch := first | omega | assumption) only [go_sem, ↓reduceIte, Nat.reduceEqDiff, Nat.reduceAdd, Nat.reduceMul, Nat.reduceLT, Nat.reduceLeDiff, reduceCtorEq, Nat.reduceBEq, Int.reduceToNat, Int.reduceNeg]
    refine K_loop [5, 6, 8, 11, 12, 13, 14] (fun q s' => ∃ (i c c0 j n : Nat) (xs : List AV), s' = ⟨[(5, .bool true), (6, .list 2 (x0.map Stp.av)), (8, .list 2 (x0.map quA)), (11, .list 5 ((refF x0).map Hz.av)), (12, .list 5 (L.map Hz.av)), (13, .sl (.sub c0 j x.p) 5 n), (14, .int .i64 i)], Mem.of [(.sub c0 j x.p, .arr 5 xs)], c, []⟩ ∧ q = L.length - i ∧ i ≤ L.length ∧ c0 < c ∧ xs = (hzKeep x0.length (L.take i)).map Hz.av ∧ n = xs.length) _
      ⟨0, _, _, _, _, [], rfl, rfl, Nat.zero_le _, Nat.lt_succ_self _, rfl, rfl⟩ ?_
    rintro q s' ⟨i, c, c0, j, n, xs, rfl, rfl, hi, hc, hx, hn⟩
    (repeat (first | (with_reducible (first | refine K_seq ?_ | refine K_next ?_ | refine K_skip ?_ | refine K_bend ?_ | refine K_block ?_ | refine K_exit ?_ | refine X_code ?_ | refine X_lend ?_ | refine X_here ?_ | refine X_on (by decide) ?_ | refine K_lendL ?_)) | (refine K_ifT rfl rfl ?_) | (refine K_ifF rfl rfl ?_) | (refine K_ev nmd [] hng (by kernel_rfl) fun hf C S K hC1 hC hS hK => ?_; simp (disch := first | omega | assumption) only [go_sem, ↓reduceIte, Nat.reduceEqDiff, Nat.reduceAdd, Nat.reduceMul, Nat.reduceLT, Nat.reduceLeDiff, reduceCtorEq, Nat.reduceBEq, Int.reduceToNat, Int.reduceNeg]; refine hK ?_; clear hK hS hC hC1 K S C hf)))
    refine K_ifd rfl rfl (fun hb => ?_) (fun hb => ?_)
    · have hi' : i < L.length := by omega
      have hLi := getD_map_in Hz.av hi' .undef
      have hle := hzKeep_le x0.length L i
      have hle2 : n ≤ i := by rw [hn, hx, List.length_map]; exact hle
      have hsn := hzKeep_snoc x0.length hi'
      have hor := hord (L.getD i default) (by rw [getD_in hi']; exact List.getElem_mem _)
      generalize L.getD i default = y at hLi hsn hor
      obtain ⟨yp, yn, yf, ys, yl⟩ := y
      (repeat (first | (with_reducible (first | refine K_seq ?_ | refine K_next ?_ | refine K_skip ?_ | refine K_bend ?_ | refine K_block ?_ | refine K_exit ?_ | refine X_code ?_ | refine X_lend ?_ | refine X_here ?_ | refine X_on (by decide) ?_ | refine K_lendL ?_)) | (refine K_ifT rfl rfl ?_) | (refine K_ifF rfl rfl ?_) | (refine K_ev nmd [] hng (by kernel_rfl) fun hf C S K hC1 hC hS hK => ?_; simp (disch := first | omega | assumption) only [go_sem, ↓reduceIte, Nat.reduceEqDiff, Nat.reduceAdd, Nat.reduceMul, Nat.reduceLT, Nat.reduceLeDiff, reduceCtorEq, Nat.reduceBEq, Int.reduceToNat, Int.reduceNeg, hLi]; refine hK ?_; clear hK hS hC hC1 K S C hf)))
      refine K_cut [5, 6, 8, 11, 12, 13, 14] (fun s' => ∃ (c c0 j n : Nat) (xs : List AV), s' = ⟨[(5, .bool true), (6, .list 2 (x0.map Stp.av)), (8, .list 2 (x0.map quA)), (11, .list 5 ((refF x0).map Hz.av)), (12, .list 5 (L.map Hz.av)), (13, .sl (.sub c0 j x.p) 5 n), (14, .int .i64 i)], Mem.of [(.sub c0 j x.p, .arr 5 xs)], c, []⟩ ∧ c0 < c ∧ xs = (hzKeep x0.length (L.take (i + 1))).map Hz.av ∧ n = xs.length) ?_ ?_
      · refine K_ifd rfl rfl (fun hb => ?_) (fun hb => ?_)
        · (repeat (first | (with_reducible (first | refine K_seq ?_ | refine K_next ?_ | refine K_skip ?_ | refine K_bend ?_ | refine K_block ?_ | refine K_exit ?_ | refine X_code ?_ | refine X_lend ?_ | refine X_here ?_ | refine X_on (by decide) ?_ | refine K_lendL ?_)) | (refine K_ifT rfl rfl ?_) | (refine K_ifF rfl rfl ?_) | (refine K_ev nmd [] hng (by kernel_rfl) fun hf C S K hC1 hC hS hK => ?_; simp (disch := first | omega | assumption) only [go_sem, ↓reduceIte, Nat.reduceEqDiff, Nat.reduceAdd, Nat.reduceMul, Nat.reduceLT, Nat.reduceLeDiff, reduceCtorEq, Nat.reduceBEq, Int.reduceToNat, Int.reduceNeg, hLi]; refine hK ?_; clear hK hS hC hC1 K S C hf)))
          refine K_cutN ⟨_, _, _, _, _, rfl, by omega, ?_, ?_⟩
          · rw [hsn, if_pos (show ys < x0.length by omega), List.map_append, ← hx]; rfl
          · rw [List.length_append, ← hn]; rfl
        · (repeat (first | (with_reducible (first | refine K_seq ?_ | refine K_next ?_ | refine K_skip ?_ | refine K_bend ?_ | refine K_block ?_ | refine K_exit ?_ | refine X_code ?_ | refine X_lend ?_ | refine X_here ?_ | refine X_on (by decide) ?_ | refine K_lendL ?_)) | (refine K_ifT rfl rfl ?_) | (refine K_ifF rfl rfl ?_) | (refine K_ev nmd [] hng (by kernel_rfl) fun hf C S K hC1 hC hS hK => ?_; simp (disch := first | omega | assumption) only [go_sem, ↓reduceIte, Nat.reduceEqDiff, Nat.reduceAdd, Nat.reduceMul, Nat.reduceLT, Nat.reduceLeDiff, reduceCtorEq, Nat.reduceBEq, Int.reduceToNat, Int.reduceNeg, hLi]; refine hK ?_; clear hK hS hC hC1 K S C hf)))
          refine K_cutN ⟨_, _, _, _, _, rfl, by omega, ?_, hn⟩
          rw [hsn, if_neg (show ¬ ys < x0.length by omega)]; exact hx
      · rintro s' ⟨c, c0, j, n, xs, rfl, hc, hx, hn⟩
        (repeat (first | (with_reducible (first | refine K_seq ?_ | refine K_next ?_ | refine K_skip ?_ | refine K_bend ?_ | refine K_exit ?_ | refine X_code ?_ | refine X_lend ?_ | refine X_here ?_ | refine X_on (by decide) ?_ | refine K_lendL ?_)) | (refine K_ifT rfl rfl ?_) | (refine K_ifF rfl rfl ?_) | (refine K_ev nmd [] hng (by kernel_rfl) fun hf C S K hC1 hC hS hK => ?_; simp (disch := first | omega | assumption) only [go_sem, ↓reduceIte, Nat.reduceEqDiff, Nat.reduceAdd, Nat.reduceMul, Nat.reduceLT, Nat.reduceLeDiff, reduceCtorEq, Nat.reduceBEq, Int.reduceToNat, Int.reduceNeg]; refine hK ?_; clear hK hS hC hC1 K S C hf)))
        have f1 : ¬ (ys : Int) < yf := by
          rcases hor with h | ⟨h, _⟩
          · have h : yf < ys := h
            omega
          · have h : yf = ys := h
            omega
        by_cases f3 : (yf : Int) = ys
        · have f4 : yl = true := by
            rcases hor with h | ⟨_, h⟩
            · have h : yf < ys := h
              omega
            · exact h
          subst f4
          refine K_evd nmd [(11, 80), (23, 92)] [] mixed hng (by kernel_rfl) [5, 6, 8, 11, 12, 13, 14, 100] fun hf C S K hC hS hK => ?_; simp (disch := first | omega | assumption) only [go_sem, ↓reduceIte, Nat.reduceEqDiff, Nat.reduceAdd, Nat.reduceMul, Nat.reduceLT, Nat.reduceLeDiff, reduceCtorEq, Nat.reduceBEq, Int.reduceToNat, Int.reduceNeg, hLi, f1, f3, Int.lt_irrefl]
          (first | refine hK (dynN_quiet rfl) ?_ | refine hK (by simp (disch := first | omega | assumption) only [go_sem, ↓reduceIte, Nat.reduceEqDiff, Nat.reduceAdd, Nat.reduceMul, Nat.reduceLT, Nat.reduceLeDiff, reduceCtorEq, Nat.reduceBEq, Int.reduceToNat, Int.reduceNeg, List.reverse_cons, List.reverse_nil, ne_eq, not_false_eq_true, implies_true]) ?_); clear hK hS hC K S C hf
          (repeat (first | (with_reducible (first | refine K_seq ?_ | refine K_next ?_ | refine K_skip ?_ | refine K_bend ?_ | refine K_block ?_ | refine K_exit ?_ | refine X_code ?_ | refine X_lend ?_ | refine X_here ?_ | refine X_on (by decide) ?_ | refine K_lendL ?_)) | (refine K_ifT rfl rfl ?_) | (refine K_ifF rfl rfl ?_) | (refine K_ev nmd [] hng (by kernel_rfl) fun hf C S K hC1 hC hS hK => ?_; simp (disch := first | omega | assumption) only [go_sem, ↓reduceIte, Nat.reduceEqDiff, Nat.reduceAdd, Nat.reduceMul, Nat.reduceLT, Nat.reduceLeDiff, reduceCtorEq, Nat.reduceBEq, Int.reduceToNat, Int.reduceNeg]; refine hK ?_; clear hK hS hC hC1 K S C hf)))
          refine ⟨_, _, ?_, fun _ _ h => h, i + 1, _, _, _, _, _, rfl, rfl, by omega, by omega, hx, hn⟩
          omega
        · refine K_evd nmd [(11, 80), (23, 92)] [] mixed hng (by kernel_rfl) [5, 6, 8, 11, 12, 13, 14, 100] fun hf C S K hC hS hK => ?_; simp (disch := first | omega | assumption) only [go_sem, ↓reduceIte, Nat.reduceEqDiff, Nat.reduceAdd, Nat.reduceMul, Nat.reduceLT, Nat.reduceLeDiff, reduceCtorEq, Nat.reduceBEq, Int.reduceToNat, Int.reduceNeg, hLi, f1, f3]
          (first | refine hK (dynN_quiet rfl) ?_ | refine hK (by simp (disch := first | omega | assumption) only [go_sem, ↓reduceIte, Nat.reduceEqDiff, Nat.reduceAdd, Nat.reduceMul, Nat.reduceLT, Nat.reduceLeDiff, reduceCtorEq, Nat.reduceBEq, Int.reduceToNat, Int.reduceNeg, List.reverse_cons, List.reverse_nil, ne_eq, not_false_eq_true, implies_true]) ?_); clear hK hS hC K S C hf
          (repeat (first | (with_reducible (first | refine K_seq ?_ | refine K_next ?_ | refine K_skip ?_ | refine K_bend ?_ | refine K_block ?_ | refine K_exit ?_ | refine X_code ?_ | refine X_lend ?_ | refine X_here ?_ | refine X_on (by decide) ?_ | refine K_lendL ?_)) | (refine K_ifT rfl rfl ?_) | (refine K_ifF rfl rfl ?_) | (refine K_ev nmd [] hng (by kernel_rfl) fun hf C S K hC1 hC hS hK => ?_; simp (disch := first | omega | assumption) only [go_sem, ↓reduceIte, Nat.reduceEqDiff, Nat.reduceAdd, Nat.reduceMul, Nat.reduceLT, Nat.reduceLeDiff, reduceCtorEq, Nat.reduceBEq, Int.reduceToNat, Int.reduceNeg]; refine hK ?_; clear hK hS hC hC1 K S C hf)))
          refine ⟨_, _, ?_, fun _ _ h => h, i + 1, _, _, _, _, _, rfl, rfl, by omega, by omega, hx, hn⟩
          omega
    · obtain rfl : i = L.length := by omega
      rw [List.take_length] at hx
      have hmore' : hzKeep x0.length L = refF x0 := hmore
      rw [hmore'] at hx
      subst hx
      rw [List.length_map] at hn
      subst hn
      (repeat (first | (with_reducible (first | refine K_seq ?_ | refine K_next ?_ | refine K_skip ?_ | refine K_bend ?_ | refine K_exit ?_ | refine X_code ?_ | refine X_lend ?_ | refine X_here ?_ | refine X_on (by decide) ?_ | refine K_lendL ?_)) | (refine K_ifT rfl rfl ?_) | (refine K_ifF rfl rfl ?_) | (refine K_ev nmd [] hng (by kernel_rfl) fun hf C S K hC1 hC hS hK => ?_; simp (disch := first | omega | assumption) only [go_sem, ↓reduceIte, Nat.reduceEqDiff, Nat.reduceAdd, Nat.reduceMul, Nat.reduceLT, Nat.reduceLeDiff, reduceCtorEq, Nat.reduceBEq, Int.reduceToNat, Int.reduceNeg]; refine hK ?_; clear hK hS hC hC1 K S C hf)))
      (refine K_freeze (.sub c0 j x.p) _ _ (by simp (disch := first | omega | assumption) only [go_sem, ↓reduceIte, Nat.reduceEqDiff, Nat.reduceAdd, Nat.reduceMul, Nat.reduceLT, Nat.reduceLeDiff, reduceCtorEq, Nat.reduceBEq, Int.reduceToNat, Int.reduceNeg]; rfl) ?_; simp (disch := first | omega | assumption) only [go_sem, ↓reduceIte, Nat.reduceEqDiff, Nat.reduceAdd, Nat.reduceMul, Nat.reduceLT, Nat.reduceLeDiff, reduceCtorEq, Nat.reduceBEq, Int.reduceToNat, Int.reduceNeg])
      refine K_ev nmd [(1, 102), (6, 107)] hng (by kernel_rfl) fun hf C S K hC1 hC hS hK => ?_; simp (disch := first | omega | assumption) only [go_sem, ↓reduceIte, Nat.reduceEqDiff, Nat.reduceAdd, Nat.reduceMul, Nat.reduceLT, Nat.reduceLeDiff, reduceCtorEq, Nat.reduceBEq, Int.reduceToNat, Int.reduceNeg]
      refine hC1 _ (same_ok (refF x0) (refF x0) (by omega) (by omega) _) (by simp (disch := first | omega | assumption) only [go_sem, ↓reduceIte, Nat.reduceEqDiff, Nat.reduceAdd, Nat.reduceMul, Nat.reduceLT, Nat.reduceLeDiff, reduceCtorEq, Nat.reduceBEq, Int.reduceToNat, Int.reduceNeg]) ?_
      simp (disch := first | omega | assumption) only [go_sem, ↓reduceIte, Nat.reduceEqDiff, Nat.reduceAdd, Nat.reduceMul, Nat.reduceLT, Nat.reduceLeDiff, reduceCtorEq, Nat.reduceBEq, Int.reduceToNat, Int.reduceNeg]
      refine hC1 _ ((haz_ok _ htq.small _).weak (.cons (.list (qu_weak x0)) .nil)) (by simp (disch := first | omega | assumption) only [go_sem, ↓reduceIte, Nat.reduceEqDiff, Nat.reduceAdd, Nat.reduceMul, Nat.reduceLT, Nat.reduceLeDiff, reduceCtorEq, Nat.reduceBEq, Int.reduceToNat, Int.reduceNeg]) ?_
      simp (disch := first | omega | assumption) only [go_sem, ↓reduceIte, Nat.reduceEqDiff, Nat.reduceAdd, Nat.reduceMul, Nat.reduceLT, Nat.reduceLeDiff, reduceCtorEq, Nat.reduceBEq, Int.reduceToNat, Int.reduceNeg, hquiet]
      refine hK ?_; clear hK hS hC hC1 K S C hf
      (repeat (first | (with_reducible (first | refine K_seq ?_ | refine K_next ?_ | refine K_skip ?_ | refine K_bend ?_ | refine K_block ?_ | refine K_exit ?_ | refine X_code ?_ | refine X_lend ?_ | refine X_here ?_ | refine X_on (by decide) ?_ | refine K_lendL ?_)) | (refine K_ifT rfl rfl ?_) | (refine K_ifF rfl rfl ?_) | (refine K_ev nmd [] hng (by kernel_rfl) fun hf C S K hC1 hC hS hK => ?_; simp (disch := first | omega | assumption) only [go_sem, ↓reduceIte, Nat.reduceEqDiff, Nat.reduceAdd, Nat.reduceMul, Nat.reduceLT, Nat.reduceLeDiff, reduceCtorEq, Nat.reduceBEq, Int.reduceToNat, Int.reduceNeg]; refine hK ?_; clear hK hS hC hC1 K S C hf)))
      exact K_ret (done1 rfl)
end Go.Proofs.Ytpdmiojenhodlaa
