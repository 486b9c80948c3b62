/- The law StoreNames, walked. -/
import Derived.Test.YtbpembafoloinaaGreatDoorZ8
set_option linter.unusedVariables false
set_option linter.unusedSimpArgs false
namespace Go.Proofs.YtbpembafoloinaaGreatDoor
open Go Go.Ab
set_option maxRecDepth 20000
set_option maxHeartbeats 4000000
theorem under_k {c' j a i c k : Nat} {p : Oid} (hj : ¬ j = k) : ¬ Oid.under (.sub c' j p) (.sub a i (.sub c k p)) := by
  have hself : ¬ Oid.under (.sub c' j p) p := fun h => by have := Oid.under_depth h; simp [Oid.depth] at this; omega
  simp only [Oid.under, Oid.sub.injEq, hj, false_and, and_false, hself, or_false, Oid.self_ne_sub, false_or, not_false_eq_true]
theorem putP_len (n : Str) (b : Bits) (L : PL) : (putP n b L).length ≤ L.length + 1 := by
  unfold putP
  split
  · omega
  · generalize (if b.k = 0 then none else some b) = o
    induction L with
    | nil => cases o <;> simp [insG, tipG]
    | cons q L ih =>
      simp only [insG]
      split
      · simp only [List.length_cons]; omega
      · have : (tipG n o).length ≤ 1 := by cases o <;> simp [tipG]
        simp only [List.length_append, List.length_cons]
        split
        · omega
        · rw [List.length_cons]; omega
theorem putP_mem {n : Str} {b : Bits} {L : PL} {q : Str × Bits} (h : q ∈ putP n b L) : q = (n, b) ∨ q ∈ L := by
  unfold putP at h
  split at h
  · exact .inr h
  · refine (insG_mem h).imp (fun h => ?_) id
    obtain ⟨h1, h2⟩ := tipG_mem h
    split at h2
    · cases h2
    · simp only [Option.some.injEq] at h2
      rw [Prod.ext_iff]; exact ⟨h1, h2.symm⟩
theorem names_law (l : List Str) (hl : l.length ≤ 140737488355328) (hls : ∀ s ∈ l, s.length ≤ 140737488355328) (a : Str) (ha : a.length ≤ 140737488355328) (p : Oid) (hp : p.mono = false) :
    CallOK Tryz.prog 3 [.list 1 (l.map AV.str), .str a] (Oid.under p) ⟨[], .bool true, []⟩ := by
  have haw := awake_ok
  refine fnOK (n := 86) (rs := [.tmp 4]) Tryz.func3 rfl rfl (by decide) rfl rfl rfl ?_; rintro x rfl hrd hng
  (repeat (first | (with_reducible (first | refine K_seq ?_ | refine K_next ?_ | refine K_skip ?_ | refine K_bend ?_ | refine K_block ?_ | refine K_exit ?_ | refine X_code ?_ | refine X_lend ?_ | refine X_here ?_ | refine X_on (by decide) ?_ | refine K_lendL ?_)) | (refine K_ifT rfl rfl ?_) | (refine K_ifF rfl rfl ?_) | (refine K_ev nmd [] hng (by kernel_rfl) fun hf C S K hC1 hC hS hK => ?_; simp (disch := first | omega | assumption) only [go_sem, ↓reduceIte, Nat.reduceEqDiff, Nat.reduceAdd, Nat.reduceMul, Nat.reduceLT, Nat.reduceLeDiff, reduceCtorEq, Nat.reduceBEq, Int.reduceToNat, Int.reduceNeg]; (repeat ((first | refine hC1 _ (haw _ (mono_sub' rfl hp)) (by simp (disch := first | omega | assumption) only [go_sem, ↓reduceIte, Nat.reduceEqDiff, Nat.reduceAdd, Nat.reduceMul, Nat.reduceLT, Nat.reduceLeDiff, reduceCtorEq, Nat.reduceBEq, Int.reduceToNat, Int.reduceNeg]) ?_ | refine hC1 _ (new_ok _) (by simp (disch := first | omega | assumption) only [go_sem, ↓reduceIte, Nat.reduceEqDiff, Nat.reduceAdd, Nat.reduceMul, Nat.reduceLT, Nat.reduceLeDiff, reduceCtorEq, Nat.reduceBEq, Int.reduceToNat, Int.reduceNeg]) ?_ | refine hC1 _ (newR_ok _) (by simp (disch := first | omega | assumption) only [go_sem, ↓reduceIte, Nat.reduceEqDiff, Nat.reduceAdd, Nat.reduceMul, Nat.reduceLT, Nat.reduceLeDiff, reduceCtorEq, Nat.reduceBEq, Int.reduceToNat, Int.reduceNeg]) ?_); simp (disch := first | omega | assumption) only [go_sem, ↓reduceIte, Nat.reduceEqDiff, Nat.reduceAdd, Nat.reduceMul, Nat.reduceLT, Nat.reduceLeDiff, reduceCtorEq, Nat.reduceBEq, Int.reduceToNat, Int.reduceNeg])); refine hK ?_; clear hK hS hC hC1 K S C hf)))
  have hts : ¬ Oid.sub 1 0 (.sub 3 0 x.p) = Oid.sub 1 2 (.sub 3 0 x.p) := by simp
  refine K_loop [0, 1, 5, 6, 7, 8, 9] (fun k s' => ∃ (i tot : Nat) (es : List ME) (clock : Nat) (L : PL) (c : Nat), k = l.length - i ∧ i ≤ l.length ∧ MapP es L ∧ SortG ltB L ∧ 4 < c ∧ L.length ≤ i ∧ (L.length ≤ 20) ∧ a.length ≤ tot ∧ tot ≤ 281474976710656 ∧ (tot ≤ 300 → ∀ q ∈ L, q.1.length ≤ 300) ∧ (∀ q ∈ L, q.2 = ⟨1, 0, []⟩) ∧
    s' = ⟨[(0, .list 1 (l.map AV.str)), (1, .str a), (5, .bool true), (6, .ptr (.sub 1 2 (.sub 3 0 x.p)) 0), (7, .ptr (.sub 1 1 (.sub 3 1 x.p)) 0), (8, .int .i64 tot), (9, .int .i64 i)], Mem.of [(.sub 1 2 (.sub 3 0 x.p), .cells [.map (.sub 1 0 (.sub 3 0 x.p)), .nilPtr]), (.sub 1 0 (.sub 3 0 x.p), .map [.ss] false es clock), (.sub 1 1 (.sub 3 1 x.p), .cells [.list 4 (L.map pairAV), .list 4 [], .list 3 [], .list 1 [], .bool false])], c, []⟩) _ ⟨0, a.length, [], 0, [], 6, rfl, Nat.zero_le _, mapP_new, .nil, by decide, Nat.le_refl _, by simp, Nat.le_refl _, by omega, fun _ q h => (by cases h), fun q h => (by cases h), rfl⟩ ?_
  rintro k s' ⟨i, tot, es, clock, L, c, rfl, hi, hm, hs, hc, hLi, hL20, hat, htot, hkey, hval, rfl⟩
  have hc3 : ¬ c = 3 := by omega
  (repeat (with_reducible (first | refine K_seq ?_ | refine K_next ?_ | refine K_skip ?_ | refine K_bend ?_ | refine K_block ?_ | refine K_exit ?_ | refine X_code ?_ | refine X_lend ?_ | refine X_here ?_ | refine X_on (by decide) ?_ | refine K_lendL ?_)))
  refine K_cut [0, 1, 5, 6, 7, 8, 9, 28] (fun s' => ∃ q : Bool, s' = ⟨[(0, .list 1 (l.map AV.str)), (1, .str a), (5, .bool true), (6, .ptr (.sub 1 2 (.sub 3 0 x.p)) 0), (7, .ptr (.sub 1 1 (.sub 3 1 x.p)) 0), (8, .int .i64 tot), (9, .int .i64 i), (28, .bool q)], Mem.of [(.sub 1 2 (.sub 3 0 x.p), .cells [.map (.sub 1 0 (.sub 3 0 x.p)), .nilPtr]), (.sub 1 0 (.sub 3 0 x.p), .map [.ss] false es clock), (.sub 1 1 (.sub 3 1 x.p), .cells [.list 4 (L.map pairAV), .list 4 [], .list 3 [], .list 1 [], .bool false])], c + 1, []⟩ ∧ (q = true ↔ i < l.length ∧ i < 20 ∧ tot ≤ 300)) ?_ ?_
  · refine K_ev nmd [(4, 21), (8, 25)] hng (by kernel_rfl) fun hf C S K hC1 hC hS hK => ?_; simp (disch := first | omega | assumption) only [go_sem, ↓reduceIte, Nat.reduceEqDiff, Nat.reduceAdd, Nat.reduceMul, Nat.reduceLT, Nat.reduceLeDiff, reduceCtorEq, Nat.reduceBEq, Int.reduceToNat, Int.reduceNeg]
    (repeat' (first | (refine evG_split (fun hv => ?_) (fun hv => ?_) <;> (try simp only [decide_eq_true_eq, decide_eq_false_iff_not, Bool.not_eq_true', Bool.not_eq_false', Bool.and_eq_true] at hv) <;> simp (disch := first | omega | assumption) only [go_sem, ↓reduceIte, Nat.reduceEqDiff, Nat.reduceAdd, Nat.reduceMul, Nat.reduceLT, Nat.reduceLeDiff, reduceCtorEq, Nat.reduceBEq, Int.reduceToNat, Int.reduceNeg, hv]) | (refine hK ?_; clear hK hS hC hC1 K S C hf)))
    · exact K_cutN ⟨_, rfl, by rw [decide_eq_true_eq]; omega⟩
    · exact K_cutN ⟨_, rfl, ⟨fun h => (by cases h), fun h => (by omega)⟩⟩
    · exact K_cutN ⟨_, rfl, ⟨fun h => (by cases h), fun h => (by omega)⟩⟩
  rintro s' ⟨q, rfl, hq⟩
  refine K_if rfl rfl (fun hb => ?_) (fun hb => ?_)
  · obtain ⟨h1, h2, h3⟩ := hq.1 hb
    have hsl := hls (l.getD i default) (by rw [getD_in h1]; exact List.getElem_mem h1)
    generalize hg : l.getD i default = s at hsl
    have hput := fun p hs ht => put_ok (.sub 1 2 (.sub 3 0 x.p)) (.sub 1 0 (.sub 3 0 x.p)) es clock hts p hs ht s ⟨1, 0, []⟩
    have hputR := fun p hr => putR_ok (.sub 1 1 (.sub 3 1 x.p)) (.list 4 []) (.list 3 []) L (by omega) [] (by simp) .nil false s ⟨1, 0, []⟩ p hr
    have hpw : putW false s [] = [] := by unfold putW; split <;> rfl
    rw [hpw] at hputR
    have hm' := mapP_put hm hs s ⟨1, 0, []⟩ clock
    have hs' := putP_sort hs s ⟨1, 0, []⟩
    have hl' := putP_len s ⟨1, 0, []⟩ L
    generalize putE s ⟨1, 0, []⟩ es clock = es2 at hput hm'
    generalize putC s ⟨1, 0, []⟩ es clock = clock2 at hput
    simp only [Bits.av] at hput hputR
    have hmem := fun q => @putP_mem s ⟨1, 0, []⟩ L q
    generalize putP s ⟨1, 0, []⟩ L = L2 at hputR hm' hs' hl' hmem
    (repeat (first | (with_reducible (first | refine K_seq ?_ | refine K_next ?_ | refine K_skip ?_ | refine K_bend ?_ | refine K_block ?_ | refine K_exit ?_ | refine X_code ?_ | refine X_lend ?_ | refine X_here ?_ | refine X_on (by decide) ?_ | refine K_lendL ?_)) | (refine K_ifT rfl rfl ?_) | (refine K_ifF rfl rfl ?_) | (refine K_ev nmd [] hng (by kernel_rfl) fun hf C S K hC1 hC hS hK => ?_; simp (disch := first | omega | assumption) only [go_sem, ↓reduceIte, Nat.reduceEqDiff, Nat.reduceAdd, Nat.reduceMul, Nat.reduceLT, Nat.reduceLeDiff, reduceCtorEq, Nat.reduceBEq, Int.reduceToNat, Int.reduceNeg, hg]; (repeat ((first | refine hC1 _ (hput _ (under_k (by decide)) (under_k (by decide))) (by simp (disch := first | omega | assumption) only [go_sem, ↓reduceIte, Nat.reduceEqDiff, Nat.reduceAdd, Nat.reduceMul, Nat.reduceLT, Nat.reduceLeDiff, reduceCtorEq, Nat.reduceBEq, Int.reduceToNat, Int.reduceNeg]) ?_ | refine hC1 _ (hputR _ (under_k (by decide))) (by simp (disch := first | omega | assumption) only [go_sem, ↓reduceIte, Nat.reduceEqDiff, Nat.reduceAdd, Nat.reduceMul, Nat.reduceLT, Nat.reduceLeDiff, reduceCtorEq, Nat.reduceBEq, Int.reduceToNat, Int.reduceNeg]) ?_); simp (disch := first | omega | assumption) only [go_sem, ↓reduceIte, Nat.reduceEqDiff, Nat.reduceAdd, Nat.reduceMul, Nat.reduceLT, Nat.reduceLeDiff, reduceCtorEq, Nat.reduceBEq, Int.reduceToNat, Int.reduceNeg])); refine hK ?_; clear hK hS hC hC1 K S C hf)))
    exact ⟨_, _, by omega, fun _ _ h => h, i + 1, tot + s.length, es2, clock2, L2, c + 1 + 1 + 1 + 1 + 1 + 1, rfl, by omega, hm', hs', by omega, by omega, by omega, by omega, by omega, fun h q hq => (hmem q hq).elim (fun e => by rw [e]; show s.length ≤ 300; omega) (hkey h3 q), fun q hq => (hmem q hq).elim (fun e => by rw [e]) (hval q), rfl⟩
  · have hne : ¬ (i < l.length ∧ i < 20 ∧ tot ≤ 300) := fun h => by rw [hq.2 h] at hb; cases hb
    (repeat (with_reducible (first | refine K_seq ?_ | refine K_next ?_ | refine K_skip ?_ | refine K_bend ?_ | refine K_block ?_ | refine K_exit ?_ | refine X_code ?_ | refine X_lend ?_ | refine X_here ?_ | refine X_on (by decide) ?_ | refine K_lendL ?_)))
    by_cases h3 : tot ≤ 300
    · have hkey' := hkey h3
      have hPOk : POk L := ⟨by omega, fun q hq => Nat.le_trans (hkey' q hq) (by decide), fun q hq => by rw [hval q hq]; exact ⟨⟨by decide, by decide⟩, ⟨by decide, by decide⟩, by decide⟩⟩
      have hke := fun e he => Nat.le_trans (mapP_key hm hPOk e he) (show 1000000 ≤ 140737488355328 by decide)
      have hle : es.length ≤ 2000000000000 := by rw [mapP_len hm]; omega
      have n1 := fun p hs ht => storeNames_ok (.sub 1 2 (.sub 3 0 x.p)) (.sub 1 0 (.sub 3 0 x.p)) es clock hts p hs ht a (by omega) hke hle
      have n2 := fun p hs ht => storeNames_ok (.sub 1 2 (.sub 3 0 x.p)) (.sub 1 0 (.sub 3 0 x.p)) es clock hts p hs ht [] (by simp) hke hle
      have n3 := fun p hs ht => paths_ok (.sub 1 2 (.sub 3 0 x.p)) (.sub 1 0 (.sub 3 0 x.p)) .nilPtr es clock hle hts p hs ht
      rw [namesE_eq hm hs] at n1 n2
      rw [pathsP_eq hm hs] at n3
      have r1 := fun p hr => namesR0_ok (.sub 1 1 (.sub 3 1 x.p)) L hPOk (.list 4 []) (.list 3 []) (.list 1 []) a (by omega) p hr
      have r2 := fun p hr => namesR0_ok (.sub 1 1 (.sub 3 1 x.p)) L hPOk (.list 4 []) (.list 3 []) (.list 1 []) [] (by simp) p hr
      have r3 := fun p hr => pathsR_ok (.sub 1 1 (.sub 3 1 x.p)) L (by omega) (.list 4 []) (.list 3 []) (.list 1 []) false p hr
      have e1 := namesP_enc hPOk a
      have e2 := namesP_enc hPOk []
      have s1 := fun p => same_ok (namesP L a) (namesP L a) (by omega) (by omega) p
      have s2 := fun p => same_ok (namesP L []) (namesP L []) (by omega) (by omega) p
      have s3 := fun p => same_ok (L.map (·.1)) (L.map (·.1)) (by simp; omega) (by simp; omega) p
      rw [List.map_map] at n3 s3
      simp only [decide_true] at s1 s2 s3
      generalize namesP L a = A at n1 r1 s1
      generalize namesP L [] = A2 at n2 r2 s2
      have hmf : (AV.str ∘ fun q : Str × Bits => q.1) = fun q => AV.str q.1 := rfl
      rw [hmf] at n3 s3
      generalize L.map pairAV = LL at *
      refine K_ev nmd [(1, 55), (5, 59), (8, 62), (16, 70), (23, 77)] hng (by kernel_rfl) fun hf C S K hC1 hC hS hK => ?_; simp (disch := first | omega | assumption) only [go_sem, ↓reduceIte, Nat.reduceEqDiff, Nat.reduceAdd, Nat.reduceMul, Nat.reduceLT, Nat.reduceLeDiff, reduceCtorEq, Nat.reduceBEq, Int.reduceToNat, Int.reduceNeg, Int.reduceEq, Int.reduceNe, ne_eq, not_true_eq_false, not_false_eq_true, decide_true, decide_false]
      (repeat' (first | (refine evG_split (fun hv => ?_) (fun hv => ?_) <;> (try simp only [decide_eq_true_eq, decide_eq_false_iff_not, Bool.not_eq_true', Bool.not_eq_false', Bool.and_eq_true] at hv) <;> simp (disch := first | omega | assumption) only [go_sem, ↓reduceIte, Nat.reduceEqDiff, Nat.reduceAdd, Nat.reduceMul, Nat.reduceLT, Nat.reduceLeDiff, reduceCtorEq, Nat.reduceBEq, Int.reduceToNat, Int.reduceNeg, hv, Int.reduceEq, Int.reduceNe, ne_eq, not_true_eq_false, not_false_eq_true, decide_true, decide_false]) | (refine hC1 _ (n1 _ (under_k (by decide)) (under_k (by decide))) (by simp (disch := first | omega | assumption) only [go_sem, ↓reduceIte, Nat.reduceEqDiff, Nat.reduceAdd, Nat.reduceMul, Nat.reduceLT, Nat.reduceLeDiff, reduceCtorEq, Nat.reduceBEq, Int.reduceToNat, Int.reduceNeg, Int.reduceEq, Int.reduceNe, ne_eq, not_true_eq_false, not_false_eq_true, decide_true, decide_false]) ?_; simp (disch := first | omega | assumption) only [go_sem, ↓reduceIte, Nat.reduceEqDiff, Nat.reduceAdd, Nat.reduceMul, Nat.reduceLT, Nat.reduceLeDiff, reduceCtorEq, Nat.reduceBEq, Int.reduceToNat, Int.reduceNeg, Int.reduceEq, Int.reduceNe, ne_eq, not_true_eq_false, not_false_eq_true, decide_true, decide_false]) | (refine hC1 _ (n2 _ (under_k (by decide)) (under_k (by decide))) (by simp (disch := first | omega | assumption) only [go_sem, ↓reduceIte, Nat.reduceEqDiff, Nat.reduceAdd, Nat.reduceMul, Nat.reduceLT, Nat.reduceLeDiff, reduceCtorEq, Nat.reduceBEq, Int.reduceToNat, Int.reduceNeg, Int.reduceEq, Int.reduceNe, ne_eq, not_true_eq_false, not_false_eq_true, decide_true, decide_false]) ?_; simp (disch := first | omega | assumption) only [go_sem, ↓reduceIte, Nat.reduceEqDiff, Nat.reduceAdd, Nat.reduceMul, Nat.reduceLT, Nat.reduceLeDiff, reduceCtorEq, Nat.reduceBEq, Int.reduceToNat, Int.reduceNeg, Int.reduceEq, Int.reduceNe, ne_eq, not_true_eq_false, not_false_eq_true, decide_true, decide_false]) | (refine hC1 _ (n3 _ (under_k (by decide)) (under_k (by decide))) (by simp (disch := first | omega | assumption) only [go_sem, ↓reduceIte, Nat.reduceEqDiff, Nat.reduceAdd, Nat.reduceMul, Nat.reduceLT, Nat.reduceLeDiff, reduceCtorEq, Nat.reduceBEq, Int.reduceToNat, Int.reduceNeg, Int.reduceEq, Int.reduceNe, ne_eq, not_true_eq_false, not_false_eq_true, decide_true, decide_false]) ?_; simp (disch := first | omega | assumption) only [go_sem, ↓reduceIte, Nat.reduceEqDiff, Nat.reduceAdd, Nat.reduceMul, Nat.reduceLT, Nat.reduceLeDiff, reduceCtorEq, Nat.reduceBEq, Int.reduceToNat, Int.reduceNeg, Int.reduceEq, Int.reduceNe, ne_eq, not_true_eq_false, not_false_eq_true, decide_true, decide_false]) | (refine hC1 _ (r1 _ (under_k (by decide))) (by simp (disch := first | omega | assumption) only [go_sem, ↓reduceIte, Nat.reduceEqDiff, Nat.reduceAdd, Nat.reduceMul, Nat.reduceLT, Nat.reduceLeDiff, reduceCtorEq, Nat.reduceBEq, Int.reduceToNat, Int.reduceNeg, Int.reduceEq, Int.reduceNe, ne_eq, not_true_eq_false, not_false_eq_true, decide_true, decide_false]) ?_; simp (disch := first | omega | assumption) only [go_sem, ↓reduceIte, Nat.reduceEqDiff, Nat.reduceAdd, Nat.reduceMul, Nat.reduceLT, Nat.reduceLeDiff, reduceCtorEq, Nat.reduceBEq, Int.reduceToNat, Int.reduceNeg, Int.reduceEq, Int.reduceNe, ne_eq, not_true_eq_false, not_false_eq_true, decide_true, decide_false]) | (refine hC1 _ (r2 _ (under_k (by decide))) (by simp (disch := first | omega | assumption) only [go_sem, ↓reduceIte, Nat.reduceEqDiff, Nat.reduceAdd, Nat.reduceMul, Nat.reduceLT, Nat.reduceLeDiff, reduceCtorEq, Nat.reduceBEq, Int.reduceToNat, Int.reduceNeg, Int.reduceEq, Int.reduceNe, ne_eq, not_true_eq_false, not_false_eq_true, decide_true, decide_false]) ?_; simp (disch := first | omega | assumption) only [go_sem, ↓reduceIte, Nat.reduceEqDiff, Nat.reduceAdd, Nat.reduceMul, Nat.reduceLT, Nat.reduceLeDiff, reduceCtorEq, Nat.reduceBEq, Int.reduceToNat, Int.reduceNeg, Int.reduceEq, Int.reduceNe, ne_eq, not_true_eq_false, not_false_eq_true, decide_true, decide_false]) | (refine hC1 _ (r3 _ (under_k (by decide))) (by simp (disch := first | omega | assumption) only [go_sem, ↓reduceIte, Nat.reduceEqDiff, Nat.reduceAdd, Nat.reduceMul, Nat.reduceLT, Nat.reduceLeDiff, reduceCtorEq, Nat.reduceBEq, Int.reduceToNat, Int.reduceNeg, Int.reduceEq, Int.reduceNe, ne_eq, not_true_eq_false, not_false_eq_true, decide_true, decide_false]) ?_; simp (disch := first | omega | assumption) only [go_sem, ↓reduceIte, Nat.reduceEqDiff, Nat.reduceAdd, Nat.reduceMul, Nat.reduceLT, Nat.reduceLeDiff, reduceCtorEq, Nat.reduceBEq, Int.reduceToNat, Int.reduceNeg, Int.reduceEq, Int.reduceNe, ne_eq, not_true_eq_false, not_false_eq_true, decide_true, decide_false]) | (refine hC1 _ (s1 _) (by simp (disch := first | omega | assumption) only [go_sem, ↓reduceIte, Nat.reduceEqDiff, Nat.reduceAdd, Nat.reduceMul, Nat.reduceLT, Nat.reduceLeDiff, reduceCtorEq, Nat.reduceBEq, Int.reduceToNat, Int.reduceNeg, Int.reduceEq, Int.reduceNe, ne_eq, not_true_eq_false, not_false_eq_true, decide_true, decide_false]) ?_; simp (disch := first | omega | assumption) only [go_sem, ↓reduceIte, Nat.reduceEqDiff, Nat.reduceAdd, Nat.reduceMul, Nat.reduceLT, Nat.reduceLeDiff, reduceCtorEq, Nat.reduceBEq, Int.reduceToNat, Int.reduceNeg, Int.reduceEq, Int.reduceNe, ne_eq, not_true_eq_false, not_false_eq_true, decide_true, decide_false]) | (refine hC1 _ (s2 _) (by simp (disch := first | omega | assumption) only [go_sem, ↓reduceIte, Nat.reduceEqDiff, Nat.reduceAdd, Nat.reduceMul, Nat.reduceLT, Nat.reduceLeDiff, reduceCtorEq, Nat.reduceBEq, Int.reduceToNat, Int.reduceNeg, Int.reduceEq, Int.reduceNe, ne_eq, not_true_eq_false, not_false_eq_true, decide_true, decide_false]) ?_; simp (disch := first | omega | assumption) only [go_sem, ↓reduceIte, Nat.reduceEqDiff, Nat.reduceAdd, Nat.reduceMul, Nat.reduceLT, Nat.reduceLeDiff, reduceCtorEq, Nat.reduceBEq, Int.reduceToNat, Int.reduceNeg, Int.reduceEq, Int.reduceNe, ne_eq, not_true_eq_false, not_false_eq_true, decide_true, decide_false]) | (refine hC1 _ (s3 _) (by simp (disch := first | omega | assumption) only [go_sem, ↓reduceIte, Nat.reduceEqDiff, Nat.reduceAdd, Nat.reduceMul, Nat.reduceLT, Nat.reduceLeDiff, reduceCtorEq, Nat.reduceBEq, Int.reduceToNat, Int.reduceNeg, Int.reduceEq, Int.reduceNe, ne_eq, not_true_eq_false, not_false_eq_true, decide_true, decide_false]) ?_; simp (disch := first | omega | assumption) only [go_sem, ↓reduceIte, Nat.reduceEqDiff, Nat.reduceAdd, Nat.reduceMul, Nat.reduceLT, Nat.reduceLeDiff, reduceCtorEq, Nat.reduceBEq, Int.reduceToNat, Int.reduceNeg, Int.reduceEq, Int.reduceNe, ne_eq, not_true_eq_false, not_false_eq_true, decide_true, decide_false]) | (refine hK ?_; clear hK hS hC hC1 K S C hf)))
      all_goals (repeat (first | (with_reducible (first | refine K_seq ?_ | refine K_next ?_ | refine K_skip ?_ | refine K_bend ?_ | refine K_block ?_ | refine K_exit ?_ | refine X_code ?_ | refine X_lend ?_ | refine X_here ?_ | refine X_on (by decide) ?_ | refine K_lendL ?_)) | (refine K_ifT rfl rfl ?_) | (refine K_ifF rfl rfl ?_) | (refine K_ev nmd [] hng (by kernel_rfl) fun hf C S K hC1 hC hS hK => ?_; simp (disch := first | omega | assumption) only [go_sem, ↓reduceIte, Nat.reduceEqDiff, Nat.reduceAdd, Nat.reduceMul, Nat.reduceLT, Nat.reduceLeDiff, reduceCtorEq, Nat.reduceBEq, Int.reduceToNat, Int.reduceNeg]; refine hK ?_; clear hK hS hC hC1 K S C hf)))
      all_goals exact K_ret (done1 rfl)
    · refine K_ev nmd [(1, 55), (5, 59), (8, 62), (16, 70), (23, 77)] hng (by kernel_rfl) fun hf C S K hC1 hC hS hK => ?_; simp (disch := first | omega | assumption) only [go_sem, ↓reduceIte, Nat.reduceEqDiff, Nat.reduceAdd, Nat.reduceMul, Nat.reduceLT, Nat.reduceLeDiff, reduceCtorEq, Nat.reduceBEq, Int.reduceToNat, Int.reduceNeg, Int.reduceEq, Int.reduceNe, ne_eq, not_true_eq_false, not_false_eq_true, decide_true, decide_false]
      (repeat' (first | (refine evG_split (fun hv => ?_) (fun hv => ?_) <;> (try simp only [decide_eq_true_eq, decide_eq_false_iff_not, Bool.not_eq_true', Bool.not_eq_false', Bool.and_eq_true] at hv) <;> simp (disch := first | omega | assumption) only [go_sem, ↓reduceIte, Nat.reduceEqDiff, Nat.reduceAdd, Nat.reduceMul, Nat.reduceLT, Nat.reduceLeDiff, reduceCtorEq, Nat.reduceBEq, Int.reduceToNat, Int.reduceNeg, hv, Int.reduceEq, Int.reduceNe, ne_eq, not_true_eq_false, not_false_eq_true, decide_true, decide_false]) | (refine hK ?_; clear hK hS hC hC1 K S C hf)))
      all_goals first | (exfalso; omega) | skip
      all_goals (repeat (first | (with_reducible (first | refine K_seq ?_ | refine K_next ?_ | refine K_skip ?_ | refine K_bend ?_ | refine K_block ?_ | refine K_exit ?_ | refine X_code ?_ | refine X_lend ?_ | refine X_here ?_ | refine X_on (by decide) ?_ | refine K_lendL ?_)) | (refine K_ifT rfl rfl ?_) | (refine K_ifF rfl rfl ?_) | (refine K_ev nmd [] hng (by kernel_rfl) fun hf C S K hC1 hC hS hK => ?_; simp (disch := first | omega | assumption) only [go_sem, ↓reduceIte, Nat.reduceEqDiff, Nat.reduceAdd, Nat.reduceMul, Nat.reduceLT, Nat.reduceLeDiff, reduceCtorEq, Nat.reduceBEq, Int.reduceToNat, Int.reduceNeg]; refine hK ?_; clear hK hS hC hC1 K S C hf)))
      all_goals exact K_ret (done1 rfl)
end Go.Proofs.YtbpembafoloinaaGreatDoor
