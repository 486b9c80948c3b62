/- Hazards in order: collected, sorted. -/
import Derived.Test.YtpdmiojenhodlaaH14
import Derived.Test.YtpdmiojenhodlaaHsort
set_option linter.unusedVariables false
set_option linter.unusedSimpArgs false
namespace Go.Proofs.Ytpdmiojenhodlaa
open Go Go.Ab
open Go.Proofs (ltOf)
set_option maxRecDepth 20000
set_option maxHeartbeats 4000000
def encH (h : Hz) : List Value := [.string ⟨h.path.toArray⟩, .bool h.names, .int .i64 h.first, .int .i64 h.second, .bool h.late]
theorem encH_iff (g : Gh) (h : Hz) (j : Nat) (v : Value) (hj : j < 5) : VR g (h.av.cells.getD j .undef) v ↔ v = (encH h).getD j undef := by
  rcases j with _ | _ | _ | _ | _ | j
  · refine ⟨fun k => ?_, fun k => ?_⟩
    · obtain ⟨b, e, hb⟩ := VR.str_inv k
      rw [e]
      show Value.string b = Value.string _
      congr 1
      cases b
      simp only at hb
      congr 1
      rw [← hb]
    · rw [k]; exact .str _ _ rfl
  · exact ⟨fun k => VR.bool_inv k, fun k => by rw [k]; exact .bool _⟩
  · exact ⟨fun k => VR.int_inv k, fun k => by rw [k]; exact .int _ _⟩
  · exact ⟨fun k => VR.int_inv k, fun k => by rw [k]; exact .int _ _⟩
  · exact ⟨fun k => VR.bool_inv k, fun k => by rw [k]; exact .bool _⟩
  · omega
theorem HRow.mono {l : List Hz} {v : AV} {L : List (Oid × AObj)} {sp sp' : Oid → Prop} (h : HRow l v L sp) (hs : ∀ i, sp i → sp' i) : HRow l v L sp' := h.imp id fun ⟨a, i, b, c, d⟩ => ⟨a, i, b, c, hs i d⟩
theorem sort_hz (l : List Hz) (hl : ¬ l = []) (hsz : l.length < 4611686018427387904) (id p : Oid) :
    CallND Try.prog 25 [.sl id 5 l.length, .fn (.func 17) [] []] (Oid.under p) [(id, .arr 5 (l.map Hz.av))] (fun v u => v = .tuple [] ∧ ∃ l' : List Hz, l'.Perm l ∧ l'.Pairwise (fun x y => ltOf orderF y x = false) ∧ u = [(id, some (.arr 5 (l'.map Hz.av)))]) (fun _ _ => False) :=
  sort_ok (ρ := Try.sortHz_ren) Try.sortHz 5 Try.isAgg38 Try.sizeOf38 encH Hz.av (fun _ => rfl) (fun x v hv => by
      simp only [encH, List.mem_cons, List.not_mem_nil, or_false] at hv
      rcases hv with rfl | rfl | rfl | rfl | rfl <;> rfl) (fun _ => rfl)
    (fun g x => .agg _ _ rfl fun j hj => by
      have hj' : j < 5 := hj
      have := (encH_iff g x j _ hj').2 rfl
      simpa [List.getD_eq_getElem?_getD, Array.getD_eq_getD_getElem?, Hz.av, AV.cells] using this) encH_iff orderF order_swo 17 (fun x y p => order_ok x y p) l hl hsz id p (by kernel_rfl)
theorem collect_ok (gf : FuncId) (cap : List AV) (need : List (Oid × AObj)) (N : Nat) (Sq : Bool → List (List AV) → Prop) (hN : N ≤ 2000000000000) (p : Oid) (hnp : ∀ q ∈ need, ¬ Oid.under p q.1) (hna : ∀ q ∈ need, ∀ sz xs, ¬ q.2 = .arr sz xs)
    (hseq : ∀ p', Oid.under p p' → SeqND Try.prog gf cap p' need 1 (fun pre xs => pre.length < N ∧ ∃ h : Hz, xs = [h.av]) Sq) :
    CallND Try.prog 24 [.fn (.func gf) [] cap] (Oid.under p) need (fun v u => ∃ l L', Sq true (l.map fun h => [h.av]) ∧ HRow l v L' (Oid.under p) ∧ u = sets L') (fun _ _ => False) := by
  refine callND_cons (by kernel_rfl) fun hcon => ?_
  refine fnND (n := 5) (rs := [.tmp 2]) Try.func24 rfl rfl (by decide) rfl rfl rfl ?_; rintro x rfl hrd hng
  (repeat (with_reducible (first | refine K_seq ?_ | refine K_next ?_ | refine K_skip ?_ | refine K_bend ?_ | refine K_block ?_ | refine K_exit ?_ | refine X_code ?_ | refine X_lend ?_ | refine X_here ?_ | refine X_on (by decide) ?_ | refine K_lendL ?_)))
  (repeat (first | (with_reducible (first | refine K_seq ?_ | refine K_next ?_ | refine K_skip ?_ | refine K_bend ?_ | refine K_block ?_ | refine K_exit ?_ | refine X_code ?_ | refine X_lend ?_ | refine X_here ?_ | refine X_on (by decide) ?_ | refine K_lendL ?_)) | (refine K_ifT rfl rfl ?_) | (refine K_ifF rfl rfl ?_) | (refine K_ev nmd [] hng (by kernel_rfl) fun hf C S K hC1 hC hS hK => ?_; simp (disch := first | omega | assumption) only [go_sem, ↓reduceIte, Nat.reduceEqDiff, Nat.reduceAdd, Nat.reduceMul, Nat.reduceLT, Nat.reduceLeDiff, reduceCtorEq, Nat.reduceBEq, Int.reduceToNat, Int.reduceNeg]; refine hK ?_; clear hK hS hC hC1 K S C hf)))
  refine K_ev nmd [] hng (by kernel_rfl) fun hf C S K hC1 hC hS hK => ?_; simp (disch := first | omega | assumption) only [go_sem, ↓reduceIte, Nat.reduceEqDiff, Nat.reduceAdd, Nat.reduceMul, Nat.reduceLT, Nat.reduceLeDiff, reduceCtorEq, Nat.reduceBEq, Int.reduceToNat, Int.reduceNeg]
  refine hC _ _ _ (appendSeq_ok gf cap need N Sq hN _ (fun q hq h => hnp q hq (Oid.under_sub h)) hna fun p' h => hseq p' (Oid.under_sub h)) hcon ?_ (fun _ _ h => h.elim)
  rintro val upd ⟨l, L', hSq, hr, rfl⟩
  simp (disch := first | omega | assumption) only [go_sem, ↓reduceIte, Nat.reduceEqDiff, Nat.reduceAdd, Nat.reduceMul, Nat.reduceLT, Nat.reduceLeDiff, reduceCtorEq, Nat.reduceBEq, Int.reduceToNat, Int.reduceNeg]
  refine hK ?_; clear hK hS hC hC1 K S C hf
  (repeat (with_reducible (first | refine K_seq ?_ | refine K_next ?_ | refine K_skip ?_ | refine K_bend ?_ | refine K_block ?_ | refine K_exit ?_ | refine X_code ?_ | refine X_lend ?_ | refine X_here ?_ | refine X_on (by decide) ?_ | refine K_lendL ?_)))
  refine K_ret (done_ret _ _ rfl ⟨l, L', hSq, hr.mono fun _ h => Oid.under_sub h, rfl⟩ ?_)
  intro i o h
  rw [Mem.of_upds] at h; exact h
theorem sorted_ok (bx o : Oid) (O : List Hz) (p : Oid) (hne : ¬ o = bx) (hb : ¬ Oid.under p bx) (ho : ¬ Oid.under p o) (hO : O.length ≤ 2000000000000) :
    CallND Try.prog 15 [.fn (.func 26) [] [.ptr bx 0], .fn (.func 17) [] []] (Oid.under p) [(bx, .cells [.map o]), (o, .map kH true (esA Hz.av (O.map fun h => (h, .bool true)) 0) O.length)] (fun v u => ∃ (l : List Hz) (L' : List (Oid × AObj)), l.Perm O ∧ l.Pairwise (fun x y => ltOf orderF y x = false) ∧ HRow l v L' (Oid.under p) ∧ u = sets L') (fun _ _ => False) := by
  refine fnND (n := 12) (rs := [.tmp 4]) Try.func15 rfl rfl (by decide) rfl rfl rfl ?_; rintro x rfl hrd hng
  (repeat (first | (with_reducible (first | refine K_seq ?_ | refine K_next ?_ | refine K_skip ?_ | refine K_bend ?_ | refine K_block ?_ | refine K_exit ?_ | refine X_code ?_ | refine X_lend ?_ | refine X_here ?_ | refine X_on (by decide) ?_ | refine K_lendL ?_)) | (refine K_ifT rfl rfl ?_) | (refine K_ifF rfl rfl ?_) | (refine K_ev nmd [] hng (by kernel_rfl) fun hf C S K hC1 hC hS hK => ?_; simp (disch := first | omega | assumption) only [go_sem, ↓reduceIte, Nat.reduceEqDiff, Nat.reduceAdd, Nat.reduceMul, Nat.reduceLT, Nat.reduceLeDiff, reduceCtorEq, Nat.reduceBEq, Int.reduceToNat, Int.reduceNeg]; refine hK ?_; clear hK hS hC hC1 K S C hf)))
  refine K_ev nmd [] hng (by kernel_rfl) fun hf C S K hC1 hC hS hK => ?_; simp (disch := first | omega | assumption) only [go_sem, ↓reduceIte, Nat.reduceEqDiff, Nat.reduceAdd, Nat.reduceMul, Nat.reduceLT, Nat.reduceLeDiff, reduceCtorEq, Nat.reduceBEq, Int.reduceToNat, Int.reduceNeg]
  refine hC _ _ _ (collect_ok 26 [.ptr bx 0] [(bx, .cells [.map o]), (o, .map kH true (esA Hz.av (O.map fun h => (h, .bool true)) 0) O.length)] O.length _ hO _ (fun q hq => ?_) (fun q hq => ?_) fun p' hp => keys1_seq bx o O p' hne (fun h => hb (Oid.under_trans (Oid.under_sub hp) h)) (fun h => ho (Oid.under_trans (Oid.under_sub hp) h))) ?_ ?_ (fun _ _ h => h.elim)
  · simp only [List.mem_cons, List.not_mem_nil, or_false] at hq
    rcases hq with rfl | rfl
    · exact fun h => hb (Oid.under_sub h)
    · exact fun h => ho (Oid.under_sub h)
  · simp only [List.mem_cons, List.not_mem_nil, or_false] at hq
    rcases hq with rfl | rfl <;> (intro sz xs e; cases e)
  · simp only [fa_cons, fa_nil, Mem.of_cons_at, Mem.of_nil_at, Mem.of_upds, Mem.of_putL, putLs, putL, List.cons_append, List.nil_append, List.append_nil, ↓reduceIte, eq_self, and_true, true_and, and_self, and_false, false_and, reduceCtorEq, Oid.sub.injEq, Nat.reduceEqDiff, hne]
  rintro val upd ⟨l, L', hSq, hr, rfl⟩
  obtain ⟨l2, hp2, e2⟩ := hSq rfl
  have hl2 : l = l2 := by
    have hinj : ∀ a b : List Hz, a.map (fun h => [h.av]) = b.map (fun h => [h.av]) → a = b := fun a b e => (List.map_inj_right (fun x y h => by
      obtain ⟨p, n, f, s, l⟩ := x
      obtain ⟨p', n', f', s', l'⟩ := y
      simpa [Hz.av, Int.ofNat_inj] using h)).1 e
    exact hinj _ _ e2
  subst hl2
  rcases hr with ⟨rfl, rfl, rfl⟩ | ⟨hl, id, rfl, rfl, hid⟩
  · simp (disch := first | omega | assumption) only [go_sem, ↓reduceIte, Nat.reduceEqDiff, Nat.reduceAdd, Nat.reduceMul, Nat.reduceLT, Nat.reduceLeDiff, reduceCtorEq, Nat.reduceBEq, Int.reduceToNat, Int.reduceNeg, sets, List.map_nil]
    refine hK ?_; clear hK hS hC hC1 K S C hf
    (repeat (first | (with_reducible (first | refine K_seq ?_ | refine K_next ?_ | refine K_skip ?_ | refine K_bend ?_ | refine K_block ?_ | refine K_exit ?_ | refine X_code ?_ | refine X_lend ?_ | refine X_here ?_ | refine X_on (by decide) ?_ | refine K_lendL ?_)) | (refine K_ifT rfl rfl ?_) | (refine K_ifF rfl rfl ?_) | (refine K_ev nmd [] hng (by kernel_rfl) fun hf C S K hC1 hC hS hK => ?_; simp (disch := first | omega | assumption) only [go_sem, ↓reduceIte, Nat.reduceEqDiff, Nat.reduceAdd, Nat.reduceMul, Nat.reduceLT, Nat.reduceLeDiff, reduceCtorEq, Nat.reduceBEq, Int.reduceToNat, Int.reduceNeg]; (repeat ((first | refine hC1 _ (sort_0 _ _) (by simp (disch := first | omega | assumption) only [go_sem, ↓reduceIte, Nat.reduceEqDiff, Nat.reduceAdd, Nat.reduceMul, Nat.reduceLT, Nat.reduceLeDiff, reduceCtorEq, Nat.reduceBEq, Int.reduceToNat, Int.reduceNeg]) ?_); simp (disch := first | omega | assumption) only [go_sem, ↓reduceIte, Nat.reduceEqDiff, Nat.reduceAdd, Nat.reduceMul, Nat.reduceLT, Nat.reduceLeDiff, reduceCtorEq, Nat.reduceBEq, Int.reduceToNat, Int.reduceNeg])); refine hK ?_; clear hK hS hC hC1 K S C hf)))
    exact K_ret (done_ret _ _ rfl ⟨[], [], hp2, .nil, .inl ⟨rfl, rfl, rfl⟩, rfl⟩ fun _ _ h => h)
  · have hid2 := Oid.under_sub hid
    have hib : ¬ id = bx := fun e => hb (e ▸ hid2)
    have hio : ¬ id = o := fun e => ho (e ▸ hid2)
    simp (disch := first | omega | assumption) only [go_sem, ↓reduceIte, Nat.reduceEqDiff, Nat.reduceAdd, Nat.reduceMul, Nat.reduceLT, Nat.reduceLeDiff, reduceCtorEq, Nat.reduceBEq, Int.reduceToNat, Int.reduceNeg, sets, List.map_cons, List.map_nil, hib, hio]
    refine hK ?_; clear hK hS hC hC1 K S C hf
    (repeat (first | (with_reducible (first | refine K_seq ?_ | refine K_next ?_ | refine K_skip ?_ | refine K_bend ?_ | refine K_exit ?_ | refine X_code ?_ | refine X_lend ?_ | refine X_here ?_ | refine X_on (by decide) ?_ | refine K_lendL ?_)) | (refine K_ifT rfl rfl ?_) | (refine K_ifF rfl rfl ?_) | (refine K_ev nmd [] hng (by kernel_rfl) fun hf C S K hC1 hC hS hK => ?_; simp (disch := first | omega | assumption) only [go_sem, ↓reduceIte, Nat.reduceEqDiff, Nat.reduceAdd, Nat.reduceMul, Nat.reduceLT, Nat.reduceLeDiff, reduceCtorEq, Nat.reduceBEq, Int.reduceToNat, Int.reduceNeg]; refine hK ?_; clear hK hS hC hC1 K S C hf)))
    refine K_ev nmd [] hng (by kernel_rfl) fun hf C S K hC1 hC hS hK => ?_; simp (disch := first | omega | assumption) only [go_sem, ↓reduceIte, Nat.reduceEqDiff, Nat.reduceAdd, Nat.reduceMul, Nat.reduceLT, Nat.reduceLeDiff, reduceCtorEq, Nat.reduceBEq, Int.reduceToNat, Int.reduceNeg]
    have hlen : l.length ≤ 2000000000000 := by rw [hp2.length_eq]; exact hO
    refine hC _ _ _ (sort_hz l hl (by omega) id _) ?_ ?_ (fun _ _ h => h.elim)
    · simp only [fa_cons, fa_nil, Mem.of_cons_at, Mem.of_nil_at, Mem.of_upds, Mem.of_putL, putLs, putL, List.cons_append, List.nil_append, List.append_nil, ↓reduceIte, eq_self, and_true, true_and, and_self, and_false, false_and, reduceCtorEq, Oid.sub.injEq, Nat.reduceEqDiff, hib, hio]
    rintro val upd ⟨rfl, l', hp', hs', rfl⟩
    simp (disch := first | omega | assumption) only [go_sem, ↓reduceIte, Nat.reduceEqDiff, Nat.reduceAdd, Nat.reduceMul, Nat.reduceLT, Nat.reduceLeDiff, reduceCtorEq, Nat.reduceBEq, Int.reduceToNat, Int.reduceNeg, hib, hio]
    refine hK ?_; clear hK hS hC hC1 K S C hf
    (repeat (first | (with_reducible (first | refine K_seq ?_ | refine K_next ?_ | refine K_skip ?_ | refine K_bend ?_ | refine K_block ?_ | refine K_exit ?_ | refine X_code ?_ | refine X_lend ?_ | refine X_here ?_ | refine X_on (by decide) ?_ | refine K_lendL ?_)) | (refine K_ifT rfl rfl ?_) | (refine K_ifF rfl rfl ?_) | (refine K_ev nmd [] hng (by kernel_rfl) fun hf C S K hC1 hC hS hK => ?_; simp (disch := first | omega | assumption) only [go_sem, ↓reduceIte, Nat.reduceEqDiff, Nat.reduceAdd, Nat.reduceMul, Nat.reduceLT, Nat.reduceLeDiff, reduceCtorEq, Nat.reduceBEq, Int.reduceToNat, Int.reduceNeg]; refine hK ?_; clear hK hS hC hC1 K S C hf)))
    have hl' : ¬ l' = [] := fun e => hl (by subst e; exact List.eq_nil_of_length_eq_zero hp'.length_eq.symm)
    refine K_ret (done_ret _ _ rfl ⟨l', [(id, .arr 5 (l'.map Hz.av))], hp'.trans hp2, hs', .inr ⟨hl', id, ?_, rfl, hid2⟩, rfl⟩ fun i o h => ?_)
    · show AV.sl id 5 l.length = _
      rw [hp'.length_eq]
    · rw [Mem.of_upds] at h
      simp only [sets, List.map_cons, List.map_nil, putLs, putL, if_neg hib, if_neg hio] at h
      exact h
end Go.Proofs.Ytpdmiojenhodlaa
