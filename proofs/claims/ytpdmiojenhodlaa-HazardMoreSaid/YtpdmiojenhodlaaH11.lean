/- The keys of a map of hazards, as an iterator. -/
import Derived.Test.YtpdmiojenhodlaaH10
import Derived.Test.YtpdmiojenhodlaaFwD
set_option linter.unusedVariables false
set_option linter.unusedSimpArgs false
namespace Go.Proofs.Ytpdmiojenhodlaa
open Go Go.Ab
set_option maxRecDepth 20000
set_option maxHeartbeats 4000000
theorem O_at {O : List Hz} {i : Nat} (h : i < O.length) : (O.map fun h => (h, AV.bool true))[i]? = some (O.getD i default, .bool true) := by
  simp [List.getElem?_map, List.getElem?_eq_getElem h, List.getD_eq_getElem?_getD]
theorem O_mem {O : List Hz} {e : ME} (h : e ∈ esA Hz.av (O.map fun h => (h, AV.bool true)) 0) : ∃ i, i < O.length ∧ e = ⟨(O.getD i default).av, .bool true, i⟩ := by
  obtain ⟨i, q, h1, h2, h3⟩ := esA_mem h
  have hi : i < O.length := by simpa using h1
  rw [O_at hi] at h2
  simp only [Option.some.injEq] at h2
  subst h2
  exact ⟨i, hi, by rw [h3, Nat.zero_add]⟩
theorem O_find {O : List Hz} {i : Nat} (h : i < O.length) : (esA Hz.av (O.map fun h => (h, AV.bool true)) 0).find? (fun e => e.born == i) = some ⟨(O.getD i default).av, .bool true, i⟩ := by
  have := esA_find (enc := Hz.av) (k := 0) (O_at h)
  simpa using this
theorem app_mem {m : Mem} {B L : List (Oid × AObj)} (h1 : ∀ q, q ∈ B → m q.1 = some q.2) (h2 : ∀ q, q ∈ L → m q.1 = some q.2) : ∀ q, q ∈ B ++ L → m q.1 = some q.2 :=
  fun q hq => (List.mem_append.1 hq).elim (h1 q) (h2 q)
theorem keys1_seq (bx o : Oid) (O : List Hz) (p : Oid) (hne : ¬ o = bx) (hb : ¬ Oid.under p bx) (ho : ¬ Oid.under p o) :
    SeqND Try.prog 26 [.ptr bx 0] p [(bx, .cells [.map o]), (o, .map kH true (esA Hz.av (O.map fun h => (h, .bool true)) 0) O.length)] 1 (fun pre xs => pre.length < O.length ∧ ∃ h : Hz, xs = [h.av]) (fun b pre => b = true → ∃ l : List Hz, l.Perm O ∧ pre = l.map fun h => [h.av]) := by
  intro l J L0 hJ hdis hnp hY
  refine callND_cons (by kernel_rfl) fun hcon => ?_
  refine fnND (n := 14) (rs := []) Try.func26 rfl rfl (by decide) rfl rfl rfl ?_; rintro x rfl hrd hng
  have hcL : ∀ q ∈ L0, Mem.of L0 q.1 = some q.2 := fun q hq => by
    have := hcon q (List.mem_append_right _ hq)
    rwa [of_app fun q' hq' => hdis q hq q' hq'] at this
  generalize hQ : DoneN Try.prog [] ([(bx, .cells [.map o]), (o, .map kH true (esA Hz.av (O.map fun h => (h, .bool true)) 0) O.length)] ++ L0) _ _ = Q
  (repeat (with_reducible (first | refine K_seq ?_ | refine K_next ?_ | refine K_skip ?_ | refine K_bend ?_ | refine K_block ?_ | refine K_exit ?_ | refine X_code ?_ | refine X_lend ?_ | refine X_here ?_ | refine X_on (by decide) ?_ | refine K_lendL ?_)))
  refine K_ev nmd [] hng (by kernel_rfl) fun hf C S K hC1 hC hS hK => ?_; simp (disch := first | omega | assumption) only [go_sem, ↓reduceIte, Nat.reduceEqDiff, Nat.reduceAdd, Nat.reduceMul, Nat.reduceLT, Nat.reduceLeDiff, reduceCtorEq, Nat.reduceBEq, Int.reduceToNat, Int.reduceNeg, hne, of_put_at, kH]
  refine hK ?_; clear hK hS hC hC1 K S C hf
  (repeat (with_reducible (first | refine K_seq ?_ | refine K_next ?_ | refine K_skip ?_ | refine K_bend ?_ | refine K_block ?_ | refine K_exit ?_ | refine X_code ?_ | refine X_lend ?_ | refine X_here ?_ | refine X_on (by decide) ?_ | refine K_lendL ?_)))
  have hn0 : ∀ q ∈ L0, ¬ q.1 = bx ∧ ¬ q.1 = o ∧ ¬ q.1 = .sub 0 1 x.p := fun q hq => ⟨hdis q hq _ List.mem_cons_self, hdis q hq _ (List.mem_cons_of_mem _ List.mem_cons_self), fun e => hnp q hq (e ▸ Oid.under_sub (Oid.under_refl _))⟩
  refine K_mem ([(bx, .cells [.map o]), (o, .map kH true (esA Hz.av (O.map fun h => (h, .bool true)) 0) O.length), (.sub 0 1 x.p, .iter (some o) O.length [] O.length)] ++ L0) (app_mem ?_ ?_) ?_
  · simp only [fa_cons, fa_nil, Mem.of_cons_at, Mem.of_nil_at, Mem.of_upds, Mem.of_putL, putLs, putL, List.cons_append, List.nil_append, List.append_nil, ↓reduceIte, eq_self, and_true, true_and, and_self, and_false, false_and, reduceCtorEq, Oid.sub.injEq, Nat.reduceEqDiff, hne, of_put_at, Oid.sub_not_under hb, Oid.sub_not_under ho, kH]
  · intro q hq
    obtain ⟨a1, a2, a3⟩ := hn0 q hq
    simp only [fa_cons, fa_nil, Mem.of_cons_at, Mem.of_nil_at, Mem.of_upds, Mem.of_putL, putLs, putL, List.cons_append, List.nil_append, List.append_nil, ↓reduceIte, eq_self, and_true, true_and, and_self, and_false, false_and, reduceCtorEq, Oid.sub.injEq, Nat.reduceEqDiff, of_put_at, a1, a2, a3]
    exact hcL q hq
  refine K_loop [0, 5] (fun q s' => ∃ (c : Nat) (seen : List Nat) (L : List (Oid × AObj)), s' = ⟨[(0, .fn (.yield l) [] []), (5, .iter (.sub 0 1 x.p))], Mem.of ([(bx, .cells [.map o]), (o, .map kH true (esA Hz.av (O.map fun h => (h, .bool true)) 0) O.length), (.sub 0 1 x.p, .iter (some o) O.length seen O.length)] ++ L), c, []⟩ ∧ 0 < c ∧ q = O.length - seen.length ∧ seen.Nodup ∧ (∀ i ∈ seen, i < O.length) ∧ J true (seen.map fun i => [(O.getD i default).av]) L ∧
    (∀ q ∈ L, Mem.of L q.1 = some q.2) ∧ ∀ q ∈ L, ((∃ q' ∈ L0, q'.1 = q.1) ∨ Oid.under x.p q.1) ∧ ¬ q.1 = bx ∧ ¬ q.1 = o ∧ ¬ q.1 = .sub 0 1 x.p ∧ ∀ d j, c ≤ d → ¬ Oid.under (.sub d j x.p) q.1) O.length ⟨_, [], L0, rfl, by omega, rfl, List.nodup_nil, fun i h => (by cases h), hJ, hcL, fun q hq => ⟨.inl ⟨q, hq, rfl⟩, (hn0 q hq).1, (hn0 q hq).2.1, (hn0 q hq).2.2, fun d j _ h => hnp q hq (Oid.under_sub h)⟩⟩ ?_
  rintro q s' ⟨c, seen, L, rfl, hc, rfl, hnd, hlt, hj, hcc, hnm⟩
  have hst : seen = [] ∨ esA Hz.av (O.map fun h => (h, AV.bool true)) 0 = [] ∨ ∃ e ∈ esA Hz.av (O.map fun h => (h, AV.bool true)) 0, e.born < O.length := by
    cases seen with
    | nil => exact .inl rfl
    | cons i _ => exact .inr (.inr ⟨_, esA_at (O_at (hlt i List.mem_cons_self)), by simpa using hlt i List.mem_cons_self⟩)
  (repeat (with_reducible (first | refine K_seq ?_ | refine K_next ?_ | refine K_skip ?_ | refine K_bend ?_ | refine K_block ?_ | refine K_exit ?_ | refine X_code ?_ | refine X_lend ?_ | refine X_here ?_ | refine X_on (by decide) ?_ | refine K_lendL ?_)))
  refine K_ev nmd [] hng (by kernel_rfl) fun hf C S K hC1 hC hS hK => ?_; simp (disch := first | omega | assumption) only [go_sem, ↓reduceIte, Nat.reduceEqDiff, Nat.reduceAdd, Nat.reduceMul, Nat.reduceLT, Nat.reduceLeDiff, reduceCtorEq, Nat.reduceBEq, Int.reduceToNat, Int.reduceNeg]
  refine hS _ _ _ (fun o' hd ho' => nd_next (it := .sub 0 1 x.p) (id := o) (since := O.length) (ks := kH) (ag := true) (clock := O.length) ho' rfl hst) ?_ ?_ (fun _ _ h => h.elim)
  · simp only [fa_cons, fa_nil, Mem.of_cons_at, Mem.of_nil_at, Mem.of_upds, Mem.of_putL, putLs, putL, List.cons_append, List.nil_append, List.append_nil, ↓reduceIte, eq_self, and_true, true_and, and_self, and_false, false_and, reduceCtorEq, Oid.sub.injEq, Nat.reduceEqDiff, hne, Oid.sub_not_under hb, Oid.sub_not_under ho]
  rintro val upd (⟨e, he, hns, rfl, rfl⟩ | ⟨hall, rfl, rfl⟩)
  · obtain ⟨i, hi, rfl⟩ := O_mem he
    have hfi := O_find hi
    generalize hh : O.getD i default = h at *
    simp (disch := first | omega | assumption) only [go_sem, ↓reduceIte, Nat.reduceEqDiff, Nat.reduceAdd, Nat.reduceMul, Nat.reduceLT, Nat.reduceLeDiff, reduceCtorEq, Nat.reduceBEq, Int.reduceToNat, Int.reduceNeg, hne, of_put_at, kH]
    refine hK ?_; clear hK hS hC hC1 K S C hf
    (repeat (first | (with_reducible (first | refine K_seq ?_ | refine K_next ?_ | refine K_skip ?_ | refine K_bend ?_ | refine K_exit ?_ | refine X_code ?_ | refine X_lend ?_ | refine X_here ?_ | refine X_on (by decide) ?_ | refine K_lendL ?_)) | (refine K_ifT rfl rfl ?_) | (refine K_ifF rfl rfl ?_) | (refine K_ev nmd [] hng (by kernel_rfl) fun hf C S K hC1 hC hS hK => ?_; simp (disch := first | omega | assumption) only [go_sem, ↓reduceIte, Nat.reduceEqDiff, Nat.reduceAdd, Nat.reduceMul, Nat.reduceLT, Nat.reduceLeDiff, reduceCtorEq, Nat.reduceBEq, Int.reduceToNat, Int.reduceNeg]; refine hK ?_; clear hK hS hC hC1 K S C hf)))
    refine K_block ?_
    (repeat (first | (with_reducible (first | refine K_seq ?_ | refine K_next ?_ | refine K_skip ?_ | refine K_bend ?_ | refine K_exit ?_ | refine X_code ?_ | refine X_lend ?_ | refine X_here ?_ | refine X_on (by decide) ?_ | refine K_lendL ?_)) | (refine K_ifT rfl rfl ?_) | (refine K_ifF rfl rfl ?_) | (refine K_ev nmd [] hng (by kernel_rfl) fun hf C S K hC1 hC hS hK => ?_; simp (disch := first | omega | assumption) only [go_sem, ↓reduceIte, Nat.reduceEqDiff, Nat.reduceAdd, Nat.reduceMul, Nat.reduceLT, Nat.reduceLeDiff, reduceCtorEq, Nat.reduceBEq, Int.reduceToNat, Int.reduceNeg]; refine hK ?_; clear hK hS hC hC1 K S C hf)))
    refine K_ev nmd [] hng (by kernel_rfl) fun hf C S K hC1 hC hS hK => ?_; simp (disch := first | omega | assumption) only [go_sem, ↓reduceIte, Nat.reduceEqDiff, Nat.reduceAdd, Nat.reduceMul, Nat.reduceLT, Nat.reduceLeDiff, reduceCtorEq, Nat.reduceBEq, Int.reduceToNat, Int.reduceNeg, hne, of_put_at, hfi, List.getLast?_concat]
    refine hK ?_; clear hK hS hC hC1 K S C hf
    have hnL : ∀ q ∈ L, ∀ q' ∈ ([(bx, .cells [.map o]), (o, .map kH true (esA Hz.av (O.map fun h => (h, .bool true)) 0) O.length), (.sub 0 1 x.p, .iter (some o) O.length (seen ++ [i]) O.length), (.sub (c + 1) 2 x.p, .cells h.av.cells)] : List (Oid × AObj)), ¬ q.1 = q'.1 := fun q hq => by
      obtain ⟨_, a1, a2, a3, a4⟩ := hnm q hq
      have a5 : ¬ q.1 = .sub (c + 1) 2 x.p := fun e => a4 (c + 1) 2 (by omega) (e ▸ Oid.under_refl _)
      simp only [fa_cons, fa_nil, Mem.of_cons_at, Mem.of_nil_at, Mem.of_upds, Mem.of_putL, putLs, putL, List.cons_append, List.nil_append, List.append_nil, ↓reduceIte, eq_self, and_true, true_and, and_self, and_false, false_and, reduceCtorEq, Oid.sub.injEq, Nat.reduceEqDiff, a1, a2, a3, a5, not_false_eq_true]
    have hBm : ∀ q ∈ ([(bx, .cells [.map o]), (o, .map kH true (esA Hz.av (O.map fun h => (h, .bool true)) 0) O.length), (.sub 0 1 x.p, .iter (some o) O.length (seen ++ [i]) O.length), (.sub (c + 1) 2 x.p, .cells h.av.cells)] : List (Oid × AObj)), Mem.of ([(bx, .cells [.map o]), (o, .map kH true (esA Hz.av (O.map fun h => (h, .bool true)) 0) O.length), (.sub 0 1 x.p, .iter (some o) O.length (seen ++ [i]) O.length), (.sub (c + 1) 2 x.p, .cells h.av.cells)] ++ L) q.1 = some q.2 := by
      simp only [fa_cons, fa_nil, Mem.of_cons_at, Mem.of_nil_at, Mem.of_upds, Mem.of_putL, putLs, putL, List.cons_append, List.nil_append, List.append_nil, ↓reduceIte, eq_self, and_true, true_and, and_self, and_false, false_and, reduceCtorEq, Oid.sub.injEq, Nat.reduceEqDiff, hne, Oid.sub_not_under hb, Oid.sub_not_under ho, show ¬ c + 1 = 0 by omega]
    have hall := cons_app hBm hnL hcc
    refine K_mem ([(bx, .cells [.map o]), (o, .map kH true (esA Hz.av (O.map fun h => (h, .bool true)) 0) O.length), (.sub 0 1 x.p, .iter (some o) O.length (seen ++ [i]) O.length), (.sub (c + 1) 2 x.p, .cells h.av.cells)] ++ L) (app_mem ?_ ?_) ?_
    · simp only [fa_cons, fa_nil, Mem.of_cons_at, Mem.of_nil_at, Mem.of_upds, Mem.of_putL, putLs, putL, List.cons_append, List.nil_append, List.append_nil, ↓reduceIte, eq_self, and_true, true_and, and_self, and_false, false_and, reduceCtorEq, Oid.sub.injEq, Nat.reduceEqDiff, hne, of_put_at, Oid.sub_not_under hb, Oid.sub_not_under ho, kH, AV.cells, Hz.av, show ¬ c + 1 = 0 by omega]
    · intro q hq
      obtain ⟨_, a1, a2, a3, a4⟩ := hnm q hq
      have a5 : ¬ q.1 = .sub (c + 1) 2 x.p := fun e => a4 (c + 1) 2 (by omega) (e ▸ Oid.under_refl _)
      simp only [fa_cons, fa_nil, Mem.of_cons_at, Mem.of_nil_at, Mem.of_upds, Mem.of_putL, putLs, putL, List.cons_append, List.nil_append, List.append_nil, ↓reduceIte, eq_self, and_true, true_and, and_self, and_false, false_and, reduceCtorEq, Oid.sub.injEq, Nat.reduceEqDiff, of_put_at, a1, a2, a3, a5]
      exact hcc q hq
    (repeat (first | (with_reducible (first | refine K_seq ?_ | refine K_next ?_ | refine K_skip ?_ | refine K_bend ?_ | refine K_exit ?_ | refine X_code ?_ | refine X_lend ?_ | refine X_here ?_ | refine X_on (by decide) ?_ | refine K_lendL ?_)) | (refine K_ifT rfl rfl ?_) | (refine K_ifF rfl rfl ?_) | (refine K_ev nmd [] hng (by kernel_rfl) fun hf C S K hC1 hC hS hK => ?_; simp (disch := first | omega | assumption) only [go_sem, ↓reduceIte, Nat.reduceEqDiff, Nat.reduceAdd, Nat.reduceMul, Nat.reduceLT, Nat.reduceLeDiff, reduceCtorEq, Nat.reduceBEq, Int.reduceToNat, Int.reduceNeg]; refine hK ?_; clear hK hS hC hC1 K S C hf)))
    refine K_ev nmd [] hng (by kernel_rfl) fun hf C S K hC1 hC hS hK => ?_; simp (disch := first | omega | assumption) only [go_sem, ↓reduceIte, Nat.reduceEqDiff, Nat.reduceAdd, Nat.reduceMul, Nat.reduceLT, Nat.reduceLeDiff, reduceCtorEq, Nat.reduceBEq, Int.reduceToNat, Int.reduceNeg, hne, of_put_at]
    have hnd' : (seen ++ [i]).Nodup := List.nodup_append.2 ⟨hnd, by simp, fun a ha b hb' e => by simp at hb'; subst hb'; subst e; exact hns ha⟩
    have hlt' : ∀ j ∈ seen ++ [i], j < O.length := fun j hj => by
      rcases List.mem_append.1 hj with hj | hj
      · exact hlt j hj
      · simp at hj; subst hj; exact hi
    have hle := nodup_le _ _ hnd' hlt'
    refine hS _ _ _ (fun o' hd ho' => eff_yield ho' rfl (hY _ [h.av] L (.sub (c + 1 + 1) 2 x.p) hj rfl ⟨by simp only [List.length_map, List.length_append, List.length_cons, List.length_nil] at hle ⊢; omega, h, rfl⟩)) (fun q hq => hall q (List.mem_append_right _ hq)) ?_ (fun _ _ h => h.elim)
    rintro val upd ⟨b, L', rfl, hj', hU⟩
    have hym := yield_mem hU (fun q hq => hall q (List.mem_append_right _ hq)) hBm ?_
    rotate_left
    · intro q hq
      refine ⟨fun q' hq' => hnL q' hq' q hq, fun hu => ?_⟩
      simp only [List.mem_cons, List.not_mem_nil, or_false] at hq
      rcases hq with rfl | rfl | rfl | rfl
      · exact hb (Oid.under_sub hu)
      · exact ho (Oid.under_sub hu)
      · have := (Oid.apart hu (Oid.under_refl _)).1; omega
      · have := (Oid.apart hu (Oid.under_refl _)).1; omega
    have hcl : ∀ q ∈ L', Mem.of L' q.1 = some q.2 := fun q hq => by
      obtain ⟨o', ho'⟩ := Mem.of_some hq
      obtain ⟨q', h1, h2, h3⟩ := Mem.of_mem ho'
      have h4 := hym q (List.mem_append_right _ hq)
      have h5 := hym q' (List.mem_append_right _ h1)
      rw [h2, h4, h3] at h5
      rw [ho']; exact h5.symm
    simp (disch := first | omega | assumption) only [go_sem, ↓reduceIte, Nat.reduceEqDiff, Nat.reduceAdd, Nat.reduceMul, Nat.reduceLT, Nat.reduceLeDiff, reduceCtorEq, Nat.reduceBEq, Int.reduceToNat, Int.reduceNeg]
    refine hK ?_; clear hK hS hC hC1 K S C hf
    (repeat (first | (with_reducible (first | refine K_seq ?_ | refine K_next ?_ | refine K_skip ?_ | refine K_bend ?_ | refine K_exit ?_ | refine X_code ?_ | refine X_lend ?_ | refine X_here ?_ | refine X_on (by decide) ?_ | refine K_lendL ?_)) | (refine K_ifT rfl rfl ?_) | (refine K_ifF rfl rfl ?_) | (refine K_ev nmd [] hng (by kernel_rfl) fun hf C S K hC1 hC hS hK => ?_; simp (disch := first | omega | assumption) only [go_sem, ↓reduceIte, Nat.reduceEqDiff, Nat.reduceAdd, Nat.reduceMul, Nat.reduceLT, Nat.reduceLeDiff, reduceCtorEq, Nat.reduceBEq, Int.reduceToNat, Int.reduceNeg]; refine hK ?_; clear hK hS hC hC1 K S C hf)))
    refine K_mem ([(bx, .cells [.map o]), (o, .map kH true (esA Hz.av (O.map fun h => (h, .bool true)) 0) O.length), (.sub 0 1 x.p, .iter (some o) O.length (seen ++ [i]) O.length), (.sub (c + 1) 2 x.p, .cells h.av.cells)] ++ L') (by rw [← Mem.of_upds]; exact hym) ?_
    have hnm' : ∀ q ∈ L', ((∃ q' ∈ L0, q'.1 = q.1) ∨ Oid.under x.p q.1) ∧ ¬ q.1 = bx ∧ ¬ q.1 = o ∧ ¬ q.1 = .sub 0 1 x.p ∧ ∀ d j, c + 1 + 1 + 1 ≤ d → ¬ Oid.under (.sub d j x.p) q.1 := fun q hq => by
      rcases hU.nam q hq with ⟨q', h1, h2⟩ | h1
      · obtain ⟨a0, a1, a2, a3, a4⟩ := hnm q' h1
        rw [h2] at a0 a1 a2 a3 a4
        exact ⟨a0, a1, a2, a3, fun d j hd => a4 d j (by omega)⟩
      · have hu := Oid.under_sub h1
        refine ⟨.inr hu, fun e => hb (e ▸ hu), fun e => ho (e ▸ hu), fun e => ?_, fun d j hd h2 => ?_⟩
        · rw [e] at h1; have := (Oid.apart h1 (Oid.under_refl _)).1; omega
        · have := (Oid.apart h1 h2).1; omega
    have hmap : (seen ++ [i]).map (fun i => [(O.getD i default).av]) = (seen.map fun i => [(O.getD i default).av]) ++ [[h.av]] := by simp only [List.map_append, List.map_cons, List.map_nil, hh]
    have hnL' : ∀ q ∈ L', ∀ q' ∈ ([(bx, .cells [.map o]), (o, .map kH true (esA Hz.av (O.map fun h => (h, .bool true)) 0) O.length), (.sub 0 1 x.p, .iter (some o) O.length (seen ++ [i]) O.length), (.sub (c + 1) 2 x.p, .cells h.av.cells)] : List (Oid × AObj)), ¬ q.1 = q'.1 := fun q hq => by
      obtain ⟨_, a1, a2, a3, a4⟩ := hnm' q hq
      have a5 : ¬ q.1 = .sub (c + 1) 2 x.p := fun e => by
        rcases hU.nam q hq with ⟨q', h1, h2⟩ | h1
        · exact (hnm q' h1).2.2.2.2 (c + 1) 2 (by omega) (by rw [h2, e]; exact Oid.under_refl _)
        · rw [e] at h1; have := (Oid.apart h1 (Oid.under_refl _)).1; omega
      simp only [fa_cons, fa_nil, Mem.of_cons_at, Mem.of_nil_at, Mem.of_upds, Mem.of_putL, putLs, putL, List.cons_append, List.nil_append, List.append_nil, ↓reduceIte, eq_self, and_true, true_and, and_self, and_false, false_and, reduceCtorEq, Oid.sub.injEq, Nat.reduceEqDiff, a1, a2, a3, a5, not_false_eq_true]
    have hall' := cons_app (L := L') (B := [(bx, .cells [.map o]), (o, .map kH true (esA Hz.av (O.map fun h => (h, .bool true)) 0) O.length), (.sub 0 1 x.p, .iter (some o) O.length (seen ++ [i]) O.length), (.sub (c + 1) 2 x.p, .cells h.av.cells)]) (fun q hq => by
      have := hym q (List.mem_append_left _ hq)
      revert q
      simp only [fa_cons, fa_nil, Mem.of_cons_at, Mem.of_nil_at, Mem.of_upds, Mem.of_putL, putLs, putL, List.cons_append, List.nil_append, List.append_nil, ↓reduceIte, eq_self, and_true, true_and, and_self, and_false, false_and, reduceCtorEq, Oid.sub.injEq, Nat.reduceEqDiff, hne, Oid.sub_not_under hb, Oid.sub_not_under ho, show ¬ c + 1 = 0 by omega, implies_true]) hnL' hcl
    cases b with
    | true =>
      (repeat (first | (with_reducible (first | refine K_seq ?_ | refine K_next ?_ | refine K_skip ?_ | refine K_bend ?_ | refine K_block ?_ | refine K_exit ?_ | refine X_code ?_ | refine X_lend ?_ | refine X_here ?_ | refine X_on (by decide) ?_ | refine K_lendL ?_)) | (refine K_ifT rfl rfl ?_) | (refine K_ifF rfl rfl ?_) | (refine K_ev nmd [] hng (by kernel_rfl) fun hf C S K hC1 hC hS hK => ?_; simp (disch := first | omega | assumption) only [go_sem, ↓reduceIte, Nat.reduceEqDiff, Nat.reduceAdd, Nat.reduceMul, Nat.reduceLT, Nat.reduceLeDiff, reduceCtorEq, Nat.reduceBEq, Int.reduceToNat, Int.reduceNeg]; refine hK ?_; clear hK hS hC hC1 K S C hf)))
      rw [← hmap] at hj'
      refine ⟨_, Mem.of ([(bx, .cells [.map o]), (o, .map kH true (esA Hz.av (O.map fun h => (h, .bool true)) 0) O.length), (.sub 0 1 x.p, .iter (some o) O.length (seen ++ [i]) O.length)] ++ L'), ?_, mem_sub fun q hq => hall' q ?_, _, seen ++ [i], L', rfl, by omega, rfl, hnd', hlt', hj', hcl, hnm'⟩
      · simp only [List.length_append, List.length_cons, List.length_nil] at hle ⊢; omega
      · rcases List.mem_append.1 hq with hq | hq
        · exact List.mem_append_left _ (by simp only [List.mem_cons, List.not_mem_nil, or_false] at hq ⊢; rcases hq with h | h | h <;> simp [h])
        · exact List.mem_append_right _ hq
    | false =>
      refine K_ifT rfl rfl (K_ret ?_)
      subst hQ
      have hsw := swap_of (L := [(bx, .cells [.map o]), (o, .map kH true (esA Hz.av (O.map fun h => (h, .bool true)) 0) O.length)] ++ L0) (L' := [(bx, .cells [.map o]), (o, .map kH true (esA Hz.av (O.map fun h => (h, .bool true)) 0) O.length)] ++ L') (m := Mem.of ([(bx, .cells [.map o]), (o, .map kH true (esA Hz.av (O.map fun h => (h, .bool true)) 0) O.length), (.sub 0 1 x.p, .iter (some o) O.length (seen ++ [i]) O.length), (.sub (c + 1) 2 x.p, .cells h.av.cells)] ++ L')) (sp := Oid.under x.p) (fun q hq => hall' q (by
          rcases List.mem_append.1 hq with hq | hq
          · exact List.mem_append_left _ (by simp only [List.mem_cons, List.not_mem_nil, or_false] at hq ⊢; rcases hq with h | h <;> simp [h])
          · exact List.mem_append_right _ hq)) (fun q hq => by
          rcases List.mem_append.1 hq with hq | hq
          · exact .inl ⟨q, List.mem_append_left _ hq, rfl⟩
          · rcases (hnm' q hq).1 with ⟨q', h1, h2⟩ | h
            · exact .inl ⟨q', List.mem_append_right _ h1, h2⟩
            · exact .inr h)
      exact done_ret _ _ rfl ⟨false, _, L', fun h => (by cases h), hj', hsw.1⟩ hsw.2
  · simp (disch := first | omega | assumption) only [go_sem, ↓reduceIte, Nat.reduceEqDiff, Nat.reduceAdd, Nat.reduceMul, Nat.reduceLT, Nat.reduceLeDiff, reduceCtorEq, Nat.reduceBEq, Int.reduceToNat, Int.reduceNeg]
    refine hK ?_; clear hK hS hC hC1 K S C hf
    (repeat (with_reducible (first | refine K_seq ?_ | refine K_next ?_ | refine K_skip ?_ | refine K_bend ?_ | refine K_block ?_ | refine K_exit ?_ | refine X_code ?_ | refine X_lend ?_ | refine X_here ?_ | refine X_on (by decide) ?_ | refine K_lendL ?_)))
    subst hQ
    have hfull : ∀ i, i ∈ seen ↔ i < O.length := fun i => ⟨hlt i, fun hi => by
      have := hall _ (esA_at (O_at hi)) (by simpa using hi)
      simpa using this⟩
    have hnL : ∀ q ∈ L, ∀ q' ∈ ([(bx, .cells [.map o]), (o, .map kH true (esA Hz.av (O.map fun h => (h, .bool true)) 0) O.length), (.sub 0 1 x.p, .iter (some o) O.length seen O.length)] : List (Oid × AObj)), ¬ q.1 = q'.1 := fun q hq => by
      obtain ⟨_, a1, a2, a3, a4⟩ := hnm q hq
      simp only [fa_cons, fa_nil, Mem.of_cons_at, Mem.of_nil_at, Mem.of_upds, Mem.of_putL, putLs, putL, List.cons_append, List.nil_append, List.append_nil, ↓reduceIte, eq_self, and_true, true_and, and_self, and_false, false_and, reduceCtorEq, Oid.sub.injEq, Nat.reduceEqDiff, a1, a2, a3, not_false_eq_true]
    have hall' := cons_app (L := L) (B := [(bx, .cells [.map o]), (o, .map kH true (esA Hz.av (O.map fun h => (h, .bool true)) 0) O.length), (.sub 0 1 x.p, .iter (some o) O.length seen O.length)]) (by
      simp only [fa_cons, fa_nil, Mem.of_cons_at, Mem.of_nil_at, Mem.of_upds, Mem.of_putL, putLs, putL, List.cons_append, List.nil_append, List.append_nil, ↓reduceIte, eq_self, and_true, true_and, and_self, and_false, false_and, reduceCtorEq, Oid.sub.injEq, Nat.reduceEqDiff, hne, Oid.sub_not_under hb, Oid.sub_not_under ho]) hnL hcc
    have hsw := swap_of (L := [(bx, .cells [.map o]), (o, .map kH true (esA Hz.av (O.map fun h => (h, .bool true)) 0) O.length)] ++ L0) (L' := [(bx, .cells [.map o]), (o, .map kH true (esA Hz.av (O.map fun h => (h, .bool true)) 0) O.length)] ++ L) (m := Mem.of ([(bx, .cells [.map o]), (o, .map kH true (esA Hz.av (O.map fun h => (h, .bool true)) 0) O.length), (.sub 0 1 x.p, .iter (some o) O.length seen O.length)] ++ L)) (sp := Oid.under x.p) (fun q hq => hall' q (by
          rcases List.mem_append.1 hq with hq | hq
          · exact List.mem_append_left _ (by simp only [List.mem_cons, List.not_mem_nil, or_false] at hq ⊢; rcases hq with h | h <;> simp [h])
          · exact List.mem_append_right _ hq)) (fun q hq => by
          rcases List.mem_append.1 hq with hq | hq
          · exact .inl ⟨q, List.mem_append_left _ hq, rfl⟩
          · rcases (hnm q hq).1 with ⟨q', h1, h2⟩ | h
            · exact .inl ⟨q', List.mem_append_right _ h1, h2⟩
            · exact .inr h)
    · refine K_ifF rfl rfl ?_
      (repeat (with_reducible (first | refine K_seq ?_ | refine K_next ?_ | refine K_skip ?_ | refine K_bend ?_ | refine K_block ?_ | refine K_exit ?_ | refine X_code ?_ | refine X_lend ?_ | refine X_here ?_ | refine X_on (by decide) ?_ | refine K_lendL ?_)))
      refine K_nil ?_
      refine done_normal _ _ rfl ⟨true, _, L, fun _ => ⟨seen.map fun i => O.getD i default, ?_, ?_⟩, hj, hsw.1⟩ hsw.2
      · have := (perm_range hnd hfull).map fun i => O.getD i default
        rwa [map_range_getD] at this
      · simp
theorem keys_ok (o : Oid) (p : Oid) (ho : ¬ Oid.under p o) : CallOK Try.prog 16 [.map o] (Oid.under p) ⟨[], .fn (.func 26) [] [.ptr (.sub 0 0 p) 0], [(.sub 0 0 p, some (.cells [.map o]))]⟩ := by
  refine fnOK (n := 4) (rs := [.tmp 2]) Try.func16 rfl rfl (by decide) rfl rfl rfl ?_; rintro x rfl hrd hng
  (repeat (first | (with_reducible (first | refine K_seq ?_ | refine K_next ?_ | refine K_skip ?_ | refine K_bend ?_ | refine K_block ?_ | refine K_exit ?_ | refine X_code ?_ | refine X_lend ?_ | refine X_here ?_ | refine X_on (by decide) ?_ | refine K_lendL ?_)) | (refine K_ifT rfl rfl ?_) | (refine K_ifF rfl rfl ?_) | (refine K_ev nmd [] hng (by kernel_rfl) fun hf C S K hC1 hC hS hK => ?_; simp (disch := first | omega | assumption) only [go_sem, ↓reduceIte, Nat.reduceEqDiff, Nat.reduceAdd, Nat.reduceMul, Nat.reduceLT, Nat.reduceLeDiff, reduceCtorEq, Nat.reduceBEq, Int.reduceToNat, Int.reduceNeg]; refine hK ?_; clear hK hS hC hC1 K S C hf)))
  refine K_ret (done_ret _ _ rfl ⟨rfl, rfl⟩ ?_)
  intro i o h
  exact h
end Go.Proofs.Ytpdmiojenhodlaa
