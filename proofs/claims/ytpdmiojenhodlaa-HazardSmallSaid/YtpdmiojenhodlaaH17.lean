/- The program answers as any right one does; bounds. -/
import Derived.Test.YtpdmiojenhodlaaH16
import Derived.Test.YtpdmiojenhodlaaFwD
set_option linter.unusedVariables false
set_option linter.unusedSimpArgs false
namespace Go.Proofs.Ytpdmiojenhodlaa
open Go Go.Ab
set_option maxRecDepth 20000
set_option maxHeartbeats 4000000
theorem refF_len (l : List Stp) (hl : Small300 l) : (refF l).length ≤ 16200000000 := by
  obtain ⟨hl1, hl2⟩ := hl
  have hg : ∀ i, (l.getD i default).reads.length ≤ 300 ∧ (l.getD i default).writes.length ≤ 300 := by
    intro i
    by_cases h : i < l.length
    · have := hl2 (l.getD i default) (by rw [getD_in h]; exact List.getElem_mem _)
      exact ⟨this.1, this.2.1⟩
    · have e : l.getD i default = default := by simp [List.getD_eq_getElem?_getD, List.getElem?_eq_none (show l.length ≤ i by omega)]
      rw [e]; exact ⟨Nat.zero_le _, Nat.zero_le _⟩
  have h1 : ∀ i k O w, (refOne i k (l.getD i default) O w).length ≤ O.length + 600 := by
    intro i k O w
    have a1 := fold_le (refRead i k w) 1 (fun O r => refRead_length i k w O r) (l.getD i default).reads O
    have a2 := fun O => fold_le (refWrite i k w) 1 (fun O r => refWrite_length i k w O r) (l.getD i default).writes O
    have := hg i
    simp only [refOne]
    split
    · have := a2 ((l.getD i default).reads.foldl (refRead i k w) O); omega
    · omega
  have h2 : ∀ i O k, (refTwo l i O k).length ≤ O.length + 180000 := fun i O k => by
    have a := fold_le (refOne i k (l.getD i default)) 600 (fun O w => h1 i k O w) (l.getD k default).writes O
    have := (hg k).2
    show ((l.getD k default).writes.foldl (refOne i k (l.getD i default)) O).length ≤ _
    omega
  have h3 : ∀ O i, (refRow l O i).length ≤ O.length + 54000000 := fun O i => by
    have a := fold_le (refTwo l i) 180000 (fun O k => h2 i O k) (List.range' i (l.length - i)) O
    rw [List.length_range'] at a
    show ((List.range' i (l.length - i)).foldl (refTwo l i) O).length ≤ _
    omega
  have a := fold_le (refRow l) 54000000 (fun O i => h3 O i) (List.range' 0 l.length) []
  rw [List.length_range'] at a
  show ((List.range' 0 l.length).foldl (refRow l) []).length ≤ _
  simp only [List.length_nil] at a
  omega
def sa : Str := [47, 97]
def stW : Stp := ⟨[], [⟨sa, false, []⟩]⟩
def stR : Stp := ⟨[⟨sa, false, []⟩], [⟨sa, false, []⟩]⟩
theorem refW : refF [stW, stW] = [⟨sa, false, 0, 1, false⟩] := by kernel_rfl
theorem refR : refF [stR] = [⟨sa, false, 0, 0, true⟩] := by kernel_rfl
theorem awake_ok (p : Oid) : CallOK Try.prog 7 [] (Oid.under p) ⟨[], .bool true, []⟩ := by
  have h1 := fun p => haz_ok [stW, stW] (by refine ⟨by decide, ?_⟩; simp [stW, sa]) p
  have h2 := fun p => haz_ok [stR] (by refine ⟨by decide, ?_⟩; simp [stR, sa]) p
  have h3 := fun p => same_ok [⟨sa, false, 0, 1, false⟩] [⟨sa, false, 0, 1, false⟩] (by decide) (by decide) p
  have h4 := fun p => same_ok [⟨sa, false, 0, 0, true⟩] [⟨sa, false, 0, 0, true⟩] (by decide) (by decide) p
  rw [refW] at h1
  rw [refR] at h2
  refine fnOK (n := 26) (rs := [.tmp 0]) Try.func7 rfl rfl (by decide) rfl rfl rfl ?_; rintro x rfl hrd hng
  (repeat (first | (with_reducible (first | refine K_seq ?_ | refine K_next ?_ | refine K_skip ?_ | refine K_bend ?_ | refine K_exit ?_ | refine X_code ?_ | refine X_lend ?_ | refine X_here ?_ | refine X_on (by decide) ?_ | refine K_lendL ?_)) | (refine K_ifT rfl rfl ?_) | (refine K_ifF rfl rfl ?_) | (refine K_ev nmd [] hng (by kernel_rfl) fun hf C S K hC1 hC hS hK => ?_; simp (disch := first | omega | assumption) only [go_sem, ↓reduceIte, Nat.reduceEqDiff, Nat.reduceAdd, Nat.reduceMul, Nat.reduceLT, Nat.reduceLeDiff, reduceCtorEq, Nat.reduceBEq, Int.reduceToNat, Int.reduceNeg]; refine hK ?_; clear hK hS hC hC1 K S C hf)))
  refine K_ev nmd [(7, 18)] hng (by kernel_rfl) fun hf C S K hC1 hC hS hK => ?_; simp (disch := first | omega | assumption) only [go_sem, ↓reduceIte, Nat.reduceEqDiff, Nat.reduceAdd, Nat.reduceMul, Nat.reduceLT, Nat.reduceLeDiff, reduceCtorEq, Nat.reduceBEq, Int.reduceToNat, Int.reduceNeg]
  refine hC1 _ ((h1 _).weak (.cons (.list (.cons (.agg (.cons (.nil 3) (.cons (.refl _) .nil))) (.cons (.agg (.cons (.nil 3) (.cons (.refl _) .nil))) .nil))) .nil)) (by simp (disch := first | omega | assumption) only [go_sem, ↓reduceIte, Nat.reduceEqDiff, Nat.reduceAdd, Nat.reduceMul, Nat.reduceLT, Nat.reduceLeDiff, reduceCtorEq, Nat.reduceBEq, Int.reduceToNat, Int.reduceNeg]) ?_
  simp (disch := first | omega | assumption) only [go_sem, ↓reduceIte, Nat.reduceEqDiff, Nat.reduceAdd, Nat.reduceMul, Nat.reduceLT, Nat.reduceLeDiff, reduceCtorEq, Nat.reduceBEq, Int.reduceToNat, Int.reduceNeg]
  refine hC1 _ (h3 _) (by simp (disch := first | omega | assumption) only [go_sem, ↓reduceIte, Nat.reduceEqDiff, Nat.reduceAdd, Nat.reduceMul, Nat.reduceLT, Nat.reduceLeDiff, reduceCtorEq, Nat.reduceBEq, Int.reduceToNat, Int.reduceNeg]) ?_
  simp (disch := first | omega | assumption) only [go_sem, ↓reduceIte, Nat.reduceEqDiff, Nat.reduceAdd, Nat.reduceMul, Nat.reduceLT, Nat.reduceLeDiff, reduceCtorEq, Nat.reduceBEq, Int.reduceToNat, Int.reduceNeg]
  refine hC1 _ (h2 _) (by simp (disch := first | omega | assumption) only [go_sem, ↓reduceIte, Nat.reduceEqDiff, Nat.reduceAdd, Nat.reduceMul, Nat.reduceLT, Nat.reduceLeDiff, reduceCtorEq, Nat.reduceBEq, Int.reduceToNat, Int.reduceNeg]) ?_
  simp (disch := first | omega | assumption) only [go_sem, ↓reduceIte, Nat.reduceEqDiff, Nat.reduceAdd, Nat.reduceMul, Nat.reduceLT, Nat.reduceLeDiff, reduceCtorEq, Nat.reduceBEq, Int.reduceToNat, Int.reduceNeg]
  refine hC1 _ (h4 _) (by simp (disch := first | omega | assumption) only [go_sem, ↓reduceIte, Nat.reduceEqDiff, Nat.reduceAdd, Nat.reduceMul, Nat.reduceLT, Nat.reduceLeDiff, reduceCtorEq, Nat.reduceBEq, Int.reduceToNat, Int.reduceNeg]) ?_
  simp (disch := first | omega | assumption) only [go_sem, ↓reduceIte, Nat.reduceEqDiff, Nat.reduceAdd, Nat.reduceMul, Nat.reduceLT, Nat.reduceLeDiff, reduceCtorEq, Nat.reduceBEq, Int.reduceToNat, Int.reduceNeg]
  refine hK ?_; clear hK hS hC hC1 K S C hf
  (repeat (first | (with_reducible (first | refine K_seq ?_ | refine K_next ?_ | refine K_skip ?_ | refine K_bend ?_ | refine K_block ?_ | refine K_exit ?_ | refine X_code ?_ | refine X_lend ?_ | refine X_here ?_ | refine X_on (by decide) ?_ | refine K_lendL ?_)) | (refine K_ifT rfl rfl ?_) | (refine K_ifF rfl rfl ?_) | (refine K_ev nmd [] hng (by kernel_rfl) fun hf C S K hC1 hC hS hK => ?_; simp (disch := first | omega | assumption) only [go_sem, ↓reduceIte, Nat.reduceEqDiff, Nat.reduceAdd, Nat.reduceMul, Nat.reduceLT, Nat.reduceLeDiff, reduceCtorEq, Nat.reduceBEq, Int.reduceToNat, Int.reduceNeg]; refine hK ?_; clear hK hS hC hC1 K S C hf)))
  exact K_ret (done1 rfl)
theorem smallN_ok : ∀ (l : List Stp) (n : Nat), n ≤ 300 → smallN n l = true → n + l.length ≤ 300 ∧ ∀ s ∈ l, s.reads.length ≤ 300 ∧ s.writes.length ≤ 300
  | [], n, hn, h => ⟨hn, fun s hs => by cases hs⟩
  | s :: l, n, hn, h => by
    rw [smallN] at h
    split at h
    · cases h
    · rename_i hx
      have h1 := addR_ge s.reads (n + 1 + s.reads.length + s.writes.length)
      have h2 := addR_ge s.writes (addR (n + 1 + s.reads.length + s.writes.length) s.reads)
      obtain ⟨k1, k2⟩ := smallN_ok l _ (by omega) h
      refine ⟨by simp only [List.length_cons]; omega, fun s' hs' => ?_⟩
      rcases List.mem_cons.1 hs' with rfl | hs'
      · omega
      · exact k2 s' hs'
/-- What an argument of steps bears. -/
def StpsV (l : List Stp) : Prop := l.length ≤ 140737488355328 ∧ ∀ s ∈ l, s.reads.length ≤ 140737488355328 ∧ s.writes.length ≤ 140737488355328 ∧ (∀ t ∈ s.reads, t.path.length ≤ 140737488355328) ∧ ∀ t ∈ s.writes, t.path.length ≤ 140737488355328
theorem any_ok (l : List Stp) (hl : StpsV l) (p : Oid) : CallOK Try.prog 3 [.list 2 (l.map Stp.av)] (Oid.under p) ⟨[], .bool true, []⟩ := by
  obtain ⟨hl1, hl2⟩ := hl
  have hsm := fun p => small_ok l hl1 hl2 p
  generalize hv : smallN 0 l = v at hsm
  refine fnOK (n := 16) (rs := [.tmp 2]) Try.func3 rfl rfl (by decide) rfl rfl rfl ?_; rintro x rfl hrd hng
  (repeat (first | (with_reducible (first | refine K_seq ?_ | refine K_next ?_ | refine K_skip ?_ | refine K_bend ?_ | refine K_exit ?_ | refine X_code ?_ | refine X_lend ?_ | refine X_here ?_ | refine X_on (by decide) ?_ | refine K_lendL ?_)) | (refine K_ifT rfl rfl ?_) | (refine K_ifF rfl rfl ?_) | (refine K_ev nmd [] hng (by kernel_rfl) fun hf C S K hC1 hC hS hK => ?_; simp (disch := first | omega | assumption) only [go_sem, ↓reduceIte, Nat.reduceEqDiff, Nat.reduceAdd, Nat.reduceMul, Nat.reduceLT, Nat.reduceLeDiff, reduceCtorEq, Nat.reduceBEq, Int.reduceToNat, Int.reduceNeg]; refine hK ?_; clear hK hS hC hC1 K S C hf)))
  refine K_ev nmd [(1, 4), (5, 8)] hng (by kernel_rfl) fun hf C S K hC1 hC hS hK => ?_; simp (disch := first | omega | assumption) only [go_sem, ↓reduceIte, Nat.reduceEqDiff, Nat.reduceAdd, Nat.reduceMul, Nat.reduceLT, Nat.reduceLeDiff, reduceCtorEq, Nat.reduceBEq, Int.reduceToNat, Int.reduceNeg]
  refine hC1 _ (awake_ok _) (by simp (disch := first | omega | assumption) only [go_sem, ↓reduceIte, Nat.reduceEqDiff, Nat.reduceAdd, Nat.reduceMul, Nat.reduceLT, Nat.reduceLeDiff, reduceCtorEq, Nat.reduceBEq, Int.reduceToNat, Int.reduceNeg]) ?_
  simp (disch := first | omega | assumption) only [go_sem, ↓reduceIte, Nat.reduceEqDiff, Nat.reduceAdd, Nat.reduceMul, Nat.reduceLT, Nat.reduceLeDiff, reduceCtorEq, Nat.reduceBEq, Int.reduceToNat, Int.reduceNeg]
  refine hC1 _ (hsm _) (by simp (disch := first | omega | assumption) only [go_sem, ↓reduceIte, Nat.reduceEqDiff, Nat.reduceAdd, Nat.reduceMul, Nat.reduceLT, Nat.reduceLeDiff, reduceCtorEq, Nat.reduceBEq, Int.reduceToNat, Int.reduceNeg]) ?_
  simp (disch := first | omega | assumption) only [go_sem, ↓reduceIte, Nat.reduceEqDiff, Nat.reduceAdd, Nat.reduceMul, Nat.reduceLT, Nat.reduceLeDiff, reduceCtorEq, Nat.reduceBEq, Int.reduceToNat, Int.reduceNeg]
  cases v with
  | false =>
    simp (disch := first | omega | assumption) only [go_sem, ↓reduceIte, Nat.reduceEqDiff, Nat.reduceAdd, Nat.reduceMul, Nat.reduceLT, Nat.reduceLeDiff, reduceCtorEq, Nat.reduceBEq, Int.reduceToNat, Int.reduceNeg]
    refine hK ?_; clear hK hS hC hC1 K S C hf
    (repeat (first | (with_reducible (first | refine K_seq ?_ | refine K_next ?_ | refine K_skip ?_ | refine K_bend ?_ | refine K_block ?_ | refine K_exit ?_ | refine X_code ?_ | refine X_lend ?_ | refine X_here ?_ | refine X_on (by decide) ?_ | refine K_lendL ?_)) | (refine K_ifT rfl rfl ?_) | (refine K_ifF rfl rfl ?_) | (refine K_ev nmd [] hng (by kernel_rfl) fun hf C S K hC1 hC hS hK => ?_; simp (disch := first | omega | assumption) only [go_sem, ↓reduceIte, Nat.reduceEqDiff, Nat.reduceAdd, Nat.reduceMul, Nat.reduceLT, Nat.reduceLeDiff, reduceCtorEq, Nat.reduceBEq, Int.reduceToNat, Int.reduceNeg]; refine hK ?_; clear hK hS hC hC1 K S C hf)))
    exact K_ret (done1 rfl)
  | true =>
    simp (disch := first | omega | assumption) only [go_sem, ↓reduceIte, Nat.reduceEqDiff, Nat.reduceAdd, Nat.reduceMul, Nat.reduceLT, Nat.reduceLeDiff, reduceCtorEq, Nat.reduceBEq, Int.reduceToNat, Int.reduceNeg]
    have hSm := smallN_ok l 0 (by omega) hv
    have hsl : Small300 l := ⟨by omega, fun s hs => ⟨(hSm.2 s hs).1, (hSm.2 s hs).2, (hl2 s hs).2.2⟩⟩
    have hlen := refF_len l hsl
    refine hC1 _ (haz_ok l hsl _) (by simp (disch := first | omega | assumption) only [go_sem, ↓reduceIte, Nat.reduceEqDiff, Nat.reduceAdd, Nat.reduceMul, Nat.reduceLT, Nat.reduceLeDiff, reduceCtorEq, Nat.reduceBEq, Int.reduceToNat, Int.reduceNeg]) ?_
    simp (disch := first | omega | assumption) only [go_sem, ↓reduceIte, Nat.reduceEqDiff, Nat.reduceAdd, Nat.reduceMul, Nat.reduceLT, Nat.reduceLeDiff, reduceCtorEq, Nat.reduceBEq, Int.reduceToNat, Int.reduceNeg]
    refine hC1 _ (refH_ok l hsl _) (by simp (disch := first | omega | assumption) only [go_sem, ↓reduceIte, Nat.reduceEqDiff, Nat.reduceAdd, Nat.reduceMul, Nat.reduceLT, Nat.reduceLeDiff, reduceCtorEq, Nat.reduceBEq, Int.reduceToNat, Int.reduceNeg]) ?_
    simp (disch := first | omega | assumption) only [go_sem, ↓reduceIte, Nat.reduceEqDiff, Nat.reduceAdd, Nat.reduceMul, Nat.reduceLT, Nat.reduceLeDiff, reduceCtorEq, Nat.reduceBEq, Int.reduceToNat, Int.reduceNeg]
    refine hC1 _ (same_ok _ _ (by omega) (by omega) _) (by simp (disch := first | omega | assumption) only [go_sem, ↓reduceIte, Nat.reduceEqDiff, Nat.reduceAdd, Nat.reduceMul, Nat.reduceLT, Nat.reduceLeDiff, reduceCtorEq, Nat.reduceBEq, Int.reduceToNat, Int.reduceNeg]) ?_
    simp (disch := first | omega | assumption) only [go_sem, ↓reduceIte, Nat.reduceEqDiff, Nat.reduceAdd, Nat.reduceMul, Nat.reduceLT, Nat.reduceLeDiff, reduceCtorEq, Nat.reduceBEq, Int.reduceToNat, Int.reduceNeg]
    refine hK ?_; clear hK hS hC hC1 K S C hf
    (repeat (first | (with_reducible (first | refine K_seq ?_ | refine K_next ?_ | refine K_skip ?_ | refine K_bend ?_ | refine K_block ?_ | refine K_exit ?_ | refine X_code ?_ | refine X_lend ?_ | refine X_here ?_ | refine X_on (by decide) ?_ | refine K_lendL ?_)) | (refine K_ifT rfl rfl ?_) | (refine K_ifF rfl rfl ?_) | (refine K_ev nmd [] hng (by kernel_rfl) fun hf C S K hC1 hC hS hK => ?_; simp (disch := first | omega | assumption) only [go_sem, ↓reduceIte, Nat.reduceEqDiff, Nat.reduceAdd, Nat.reduceMul, Nat.reduceLT, Nat.reduceLeDiff, reduceCtorEq, Nat.reduceBEq, Int.reduceToNat, Int.reduceNeg]; refine hK ?_; clear hK hS hC hC1 K S C hf)))
    exact K_ret (done1 rfl)
end Go.Proofs.Ytpdmiojenhodlaa
