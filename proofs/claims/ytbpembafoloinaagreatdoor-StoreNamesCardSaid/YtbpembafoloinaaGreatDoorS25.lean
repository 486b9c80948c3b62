/- What an iterator of strings yields, collected, sorted; the names below a place. -/
import Derived.Test.YtbpembafoloinaaGreatDoorS24
set_option linter.unusedVariables false
set_option linter.unusedSimpArgs false
namespace Go.Proofs.YtbpembafoloinaaGreatDoor
open Go Go.Ab
set_option maxRecDepth 20000
set_option maxHeartbeats 4000000
theorem bindA_one (t : Nat) (a : AV) (fr : List (Nat × AV)) : bindA [t] [a] fr = (t, a) :: fr := rfl
theorem T_fresh {P : Program} [Laid P] {x : Ctx} {n : Nat} {a : Code} {Q : AX → AS → Prop} {fr : List (Nat × AV)} {m : Mem} {c : Nat} {ds : List AD} (h : (∀ i, Young x.p c i → m i = none) → T P x n a ⟨fr, m, c, ds⟩ Q) : T P x n a ⟨fr, m, c, ds⟩ Q :=
  fun g a w hr => h hr.fresh g a w hr
theorem T_aft {P : Program} [Laid P] {x : Ctx} {n : Nat} {a : Code} {Q : AX → AS → Prop} {s : AS} (h : T P x n a s (after P x n Q [])) : T P x n a s Q := T_mono h fun _ _ h => h
/-- A row of strings: none, or its own. -/
def SRow (l : List Str) (v : AV) (L : List (Oid × AObj)) (sp : Oid → Prop) : Prop :=
  (l = [] ∧ v = .nilSl ∧ L = []) ∨ (¬ l = [] ∧ ∃ id, v = .sl id 1 l.length ∧ L = [(id, .arr 1 (l.map .str))] ∧ sp id)
theorem SRow.mono {l : List Str} {v : AV} {L : List (Oid × AObj)} {sp sp' : Oid → Prop} (h : SRow l v L sp) (hs : ∀ i, sp i → sp' i) : SRow l v L sp' := h.imp id fun ⟨a, i, b, c, d⟩ => ⟨a, i, b, c, hs i d⟩
theorem appendSeq_ok (gf : FuncId) (cap : List AV) (need : List (Oid × AObj)) (N : Nat) (S : Bool → List (List AV) → Prop) (hN : N ≤ 2000000000000) (p : Oid) (hnp : ∀ q ∈ need, ¬ Oid.under p q.1) (hna : ∀ q ∈ need, ∀ sz xs, ¬ q.2 = .arr sz xs)
    (hseq : ∀ p', Oid.under p p' → SeqND Tryz.prog gf cap p' need 1 (fun pre xs => pre.length < N ∧ ∃ h : Str, xs = [.str h]) S) :
    CallND Tryz.prog 81 [.nilSl, .fn (.func gf) [] cap] (Oid.under p) need (fun v u => ∃ l L', S true (l.map fun h => [.str h]) ∧ SRow l v L' (Oid.under p) ∧ u = sets L') (fun _ _ => False) := by
  refine callND_cons (by kernel_rfl) fun hcon => ?_
  refine fnND (n := 13) (rs := [.tmp 4]) Tryz.func81 rfl rfl (by decide) rfl rfl rfl ?_; rintro x rfl hrd hng
  have hnb : ∀ q ∈ need, ¬ q.1 = .sub 0 0 x.p := fun q hq e => hnp q hq (e ▸ Oid.under_sub (Oid.under_refl _))
  generalize hQ : DoneN Tryz.prog _ need _ _ = Q
  (repeat (with_reducible (first | refine K_seq ?_ | refine K_next ?_ | refine K_skip ?_ | refine K_bend ?_ | refine K_block ?_ | refine K_exit ?_ | refine X_code ?_ | refine X_lend ?_ | refine X_here ?_ | refine X_on (by decide) ?_ | refine K_lendL ?_)))
  refine K_ev nmd [] hng (by kernel_rfl) fun hf C S K hC1 hC hS hK => ?_; simp (disch := first | omega | assumption) only [go_sem, ↓reduceIte, Nat.reduceEqDiff, Nat.reduceAdd, Nat.reduceMul, Nat.reduceLT, Nat.reduceLeDiff, reduceCtorEq, Nat.reduceBEq, Int.reduceToNat, Int.reduceNeg, of_put_at]
  refine hK ?_; clear hK hS hC hC1 K S C hf
  (repeat (first | (with_reducible (first | refine K_seq ?_ | refine K_next ?_ | refine K_skip ?_ | refine K_bend ?_ | refine K_block ?_ | refine K_exit ?_ | refine X_code ?_ | refine X_lend ?_ | refine X_here ?_ | refine X_on (by decide) ?_ | refine K_lendL ?_)) | (refine K_ifT rfl rfl ?_) | (refine K_ifF rfl rfl ?_) | (refine K_ev nmd [] hng (by kernel_rfl) fun hf C S K hC1 hC hS hK => ?_; simp (disch := first | omega | assumption) only [go_sem, ↓reduceIte, Nat.reduceEqDiff, Nat.reduceAdd, Nat.reduceMul, Nat.reduceLT, Nat.reduceLeDiff, reduceCtorEq, Nat.reduceBEq, Int.reduceToNat, Int.reduceNeg]; refine hK ?_; clear hK hS hC hC1 K S C hf)))
  refine T_rangeFunc (S := S) hrd hng (by decide) rfl rfl (hseq _ (Oid.under_sub (Oid.under_refl _))) ?_
    (fun jump pre L => jump = none ∧ ∃ (l : List Str) (v : AV) (L1 : List (Oid × AObj)), pre = l.map (fun h => [.str h]) ∧ SRow l v L1 (fun id => ¬ id = .sub 0 0 x.p) ∧ L = (.sub 0 0 x.p, .cells [v]) :: L1)
    [(.sub 0 0 x.p, .cells [.nilSl])] ⟨rfl, [], .nilSl, [], rfl, .inl ⟨rfl, rfl, rfl⟩, rfl⟩ ?_ ?_
    (fun _ xs L1 p' s => ∃ h : Str, xs = [.str h] ∧ F s.fr 5 = .str h ∧ F s.fr 2 = .ptr (.sub 0 0 x.p) 0 ∧ (∀ q, q ∈ L1 → s.mem q.1 = some q.2) ∧ s.ds = [] ∧ 0 < s.c ∧ ¬ p' = x.p) ?_ ?_ ?_ ?_
  · intro q hq
    rw [of_put_at, if_neg (hnb q hq)]; exact hcon q hq
  · intro q hq
    simp only [List.mem_singleton] at hq
    subst hq
    rw [of_put_at, if_pos rfl]
  · intro q hq q' hq' e
    simp only [List.mem_singleton] at hq
    subst hq
    exact hnb q' hq' e.symm
  · rintro y l0 pre xs L1 ⟨_, l, v, L2, rfl, hr, rfl⟩ _ ⟨hlen, h, rfl⟩ hyr hyg
    refine T_aft (T_fresh fun hf => ?_)
    replace hng := hyg
    have hfy := hf (.sub 0 0 y.p) ⟨0, 0, Nat.le_refl _, Oid.under_refl _⟩
    have hb : ¬ Oid.sub 0 0 y.p = .sub 0 0 x.p := fun e => by rw [e] at hfy; simp [Mem.of_cons_at] at hfy
    have hb2 : ¬ y.p = x.p := fun e => hb (by rw [e])
    generalize hrest : L2 = rest at hfy ⊢
    rw [Mem.of_cons_at, if_neg hb] at hfy
    have hdis : ∀ q ∈ L2, ¬ q.1 = .sub 0 0 x.p ∧ Mem.of L2 q.1 = some q.2 := by
      rcases hr with ⟨_, _, rfl⟩ | ⟨_, id, _, rfl, hid⟩
      · intro q hq; cases hq
      · intro q hq
        simp only [List.mem_singleton] at hq
        subst hq
        exact ⟨hid, by simp [Mem.of_cons_at]⟩
    refine K_ev nmd [] hng (by kernel_rfl) fun hf C S K hC1 hC hS hK => ?_; simp (disch := first | omega | assumption) only [go_sem, ↓reduceIte, Nat.reduceEqDiff, Nat.reduceAdd, Nat.reduceMul, Nat.reduceLT, Nat.reduceLeDiff, reduceCtorEq, Nat.reduceBEq, Int.reduceToNat, Int.reduceNeg, of_put_at, hb2, bindA_one]
    refine hK ?_; clear hK hS hC hC1 K S C hf
    refine K_nil ⟨rfl, h, rfl, rfl, rfl, ?_, rfl, by simp, hb2⟩
    refine app_mem (B := [(.sub 0 0 x.p, .cells [v])]) ?_ ?_
    · simp only [fa_cons, fa_nil, Mem.of_cons_at, Mem.of_nil_at, Mem.of_upds, Mem.of_putL, putLs, putL, List.cons_append, List.nil_append, List.append_nil, ↓reduceIte, eq_self, and_true, true_and, and_self, and_false, false_and, reduceCtorEq, Oid.sub.injEq, Nat.reduceEqDiff, of_put_at, hb2, AV.cells]
    · intro q hq
      subst hrest
      obtain ⟨a2, a3⟩ := hdis q hq
      simp only [fa_cons, fa_nil, Mem.of_cons_at, Mem.of_nil_at, Mem.of_upds, Mem.of_putL, putLs, putL, List.cons_append, List.nil_append, List.append_nil, ↓reduceIte, eq_self, and_true, true_and, and_self, and_false, false_and, reduceCtorEq, Oid.sub.injEq, Nat.reduceEqDiff, of_put_at, hb2, a2]
      exact a3
  · rintro y l0 pre xs L1 ⟨fr, m, c, ds⟩ ⟨_, l, v, L2, rfl, hr, rfl⟩ _ ⟨hlen, _, _⟩ hyr hyg ⟨h, rfl, h5, h2, hm, rfl, hc, hb2⟩
    simp only at h5 h2 hm hc
    refine T_aft (K_fr [(5, .str h), (2, .ptr (.sub 0 0 x.p) 0)] rfl (by simp [h5, h2]) (K_mem _ hm (T_fresh fun hf => ?_)))
    replace hng := hyg
    have hfy : ∀ j, Mem.of ((Oid.sub 0 0 x.p, AObj.cells [v]) :: L2) (.sub c j y.p) = none := fun j => hf _ ⟨c, j, Nat.le_refl _, Oid.under_refl _⟩
    clear hf
    have hb3 : ¬ x.p = y.p := fun e => hb2 e.symm
    rcases hr with ⟨rfl, rfl, rfl⟩ | ⟨hl, id, rfl, rfl, hid⟩
    · (repeat (first | (with_reducible (first | refine K_seq ?_ | refine K_next ?_ | refine K_skip ?_ | refine K_bend ?_ | refine K_exit ?_ | refine X_code ?_ | refine X_lend ?_ | refine X_here ?_ | refine X_on (by decide) ?_ | refine K_lendL ?_)) | (refine K_ifT rfl rfl ?_) | (refine K_ifF rfl rfl ?_) | (refine K_ev nmd [] hng (by kernel_rfl) fun hf C S K hC1 hC hS hK => ?_; simp (disch := first | omega | assumption) only [go_sem, ↓reduceIte, Nat.reduceEqDiff, Nat.reduceAdd, Nat.reduceMul, Nat.reduceLT, Nat.reduceLeDiff, reduceCtorEq, Nat.reduceBEq, Int.reduceToNat, Int.reduceNeg]; refine hK ?_; clear hK hS hC hC1 K S C hf)))
      refine K_block ?_
      (repeat (first | (with_reducible (first | refine K_seq ?_ | refine K_next ?_ | refine K_skip ?_ | refine K_bend ?_ | refine K_exit ?_ | refine X_code ?_ | refine X_lend ?_ | refine X_here ?_ | refine X_on (by decide) ?_ | refine K_lendL ?_)) | (refine K_ifT rfl rfl ?_) | (refine K_ifF rfl rfl ?_) | (refine K_ev nmd [] hng (by kernel_rfl) fun hf C S K hC1 hC hS hK => ?_; simp (disch := first | omega | assumption) only [go_sem, ↓reduceIte, Nat.reduceEqDiff, Nat.reduceAdd, Nat.reduceMul, Nat.reduceLT, Nat.reduceLeDiff, reduceCtorEq, Nat.reduceBEq, Int.reduceToNat, Int.reduceNeg]; refine hK ?_; clear hK hS hC hC1 K S C hf)))
      refine K_ev nmd [] hng (by kernel_rfl) fun hf C S K hC1 hC hS hK => ?_; simp (disch := first | omega | assumption) only [go_sem, ↓reduceIte, Nat.reduceEqDiff, Nat.reduceAdd, Nat.reduceMul, Nat.reduceLT, Nat.reduceLeDiff, reduceCtorEq, Nat.reduceBEq, Int.reduceToNat, Int.reduceNeg, of_put_at, hb2, hb3, gdR_T]
      refine hK ?_; clear hK hS hC hC1 K S C hf
      (repeat (with_reducible (first | refine K_seq ?_ | refine K_next ?_ | refine K_skip ?_ | refine K_bend ?_ | refine K_block ?_ | refine K_exit ?_ | refine X_code ?_ | refine X_lend ?_ | refine X_here ?_ | refine X_on (by decide) ?_ | refine K_lendL ?_)))
      refine K_nil ⟨[(.sub 0 0 x.p, .cells [.sl (.sub c 3 y.p) 1 1]), (.sub c 3 y.p, .arr 1 [.str h])], ⟨rfl, [h], _, _, rfl, .inr ⟨by simp, .sub c 3 y.p, rfl, rfl, fun e => by simp at e⟩, rfl⟩, ?_, ?_⟩
      · simp only [fa_cons, fa_nil, Mem.of_cons_at, Mem.of_nil_at, Mem.of_upds, Mem.of_putL, putLs, putL, List.cons_append, List.nil_append, List.append_nil, ↓reduceIte, eq_self, and_true, true_and, and_self, and_false, false_and, reduceCtorEq, Oid.sub.injEq, Nat.reduceEqDiff, hb2, hb3]
      · intro q hq
        simp only [List.mem_cons, List.not_mem_nil, or_false] at hq
        rcases hq with rfl | rfl
        · exact .inl ⟨_, List.mem_cons_self, rfl⟩
        · exact .inr (Oid.under_sub (Oid.under_refl _))
    · simp only [List.length_map] at hlen
      have hi1 : ¬ Oid.sub c 3 y.p = id := fun e => by have := hfy 3; rw [e] at this; simp only [Mem.of_cons_at, if_neg hid] at this; simp at this
      have hi2 : ¬ id = Oid.sub c 3 y.p := fun e => hi1 e.symm
      (repeat (first | (with_reducible (first | refine K_seq ?_ | refine K_next ?_ | refine K_skip ?_ | refine K_bend ?_ | refine K_exit ?_ | refine X_code ?_ | refine X_lend ?_ | refine X_here ?_ | refine X_on (by decide) ?_ | refine K_lendL ?_)) | (refine K_ifT rfl rfl ?_) | (refine K_ifF rfl rfl ?_) | (refine K_ev nmd [] hng (by kernel_rfl) fun hf C S K hC1 hC hS hK => ?_; simp (disch := first | omega | assumption) only [go_sem, ↓reduceIte, Nat.reduceEqDiff, Nat.reduceAdd, Nat.reduceMul, Nat.reduceLT, Nat.reduceLeDiff, reduceCtorEq, Nat.reduceBEq, Int.reduceToNat, Int.reduceNeg]; refine hK ?_; clear hK hS hC hC1 K S C hf)))
      refine K_block ?_
      (repeat (first | (with_reducible (first | refine K_seq ?_ | refine K_next ?_ | refine K_skip ?_ | refine K_bend ?_ | refine K_exit ?_ | refine X_code ?_ | refine X_lend ?_ | refine X_here ?_ | refine X_on (by decide) ?_ | refine K_lendL ?_)) | (refine K_ifT rfl rfl ?_) | (refine K_ifF rfl rfl ?_) | (refine K_ev nmd [] hng (by kernel_rfl) fun hf C S K hC1 hC hS hK => ?_; simp (disch := first | omega | assumption) only [go_sem, ↓reduceIte, Nat.reduceEqDiff, Nat.reduceAdd, Nat.reduceMul, Nat.reduceLT, Nat.reduceLeDiff, reduceCtorEq, Nat.reduceBEq, Int.reduceToNat, Int.reduceNeg]; refine hK ?_; clear hK hS hC hC1 K S C hf)))
      refine K_ev nmd [] hng (by kernel_rfl) fun hf C S K hC1 hC hS hK => ?_; simp (disch := first | omega | assumption) only [go_sem, ↓reduceIte, Nat.reduceEqDiff, Nat.reduceAdd, Nat.reduceMul, Nat.reduceLT, Nat.reduceLeDiff, reduceCtorEq, Nat.reduceBEq, Int.reduceToNat, Int.reduceNeg, of_put_at, hb2, hb3, hid, hi1, hi2]
      refine hK ?_; clear hK hS hC hC1 K S C hf
      (repeat (with_reducible (first | refine K_seq ?_ | refine K_next ?_ | refine K_skip ?_ | refine K_bend ?_ | refine K_block ?_ | refine K_exit ?_ | refine X_code ?_ | refine X_lend ?_ | refine X_here ?_ | refine X_on (by decide) ?_ | refine K_lendL ?_)))
      refine K_nil ⟨[(.sub 0 0 x.p, .cells [.sl (.sub c 3 y.p) 1 (l ++ [h]).length]), (.sub c 3 y.p, .arr 1 ((l ++ [h]).map .str))], ⟨rfl, l ++ [h], _, _, by simp, .inr ⟨by simp, .sub c 3 y.p, rfl, rfl, fun e => by simp at e⟩, rfl⟩, ?_, ?_⟩
      · simp only [fa_cons, fa_nil, Mem.of_cons_at, Mem.of_nil_at, Mem.of_upds, Mem.of_putL, putLs, putL, List.cons_append, List.nil_append, List.append_nil, ↓reduceIte, eq_self, and_true, true_and, and_self, and_false, false_and, reduceCtorEq, Oid.sub.injEq, Nat.reduceEqDiff, hb2, hb3, List.length_append, List.map_append, List.length_cons, List.length_nil, List.map_cons, List.map_nil]
      · intro q hq
        simp only [List.mem_cons, List.not_mem_nil, or_false] at hq
        rcases hq with rfl | rfl
        · exact .inl ⟨_, List.mem_cons_self, rfl⟩
        · exact .inr (Oid.under_sub (Oid.under_refl _))
  · rintro pre L' m' hS ⟨_, l, v, L2, rfl, hr, rfl⟩ hL' hd hold hnm
    have hmx := hL' _ List.mem_cons_self
    have hne : ∀ q ∈ need, m' q.1 = some q.2 := fun q hq => hold q.1 q.2 (by rw [of_put_at, if_neg (hnb q hq)]; exact hcon q hq) (by simp only [List.mem_singleton]; rintro q' rfl e; exact hnb q hq e.symm)
    refine K_mem ([(.sub 0 0 x.p, .cells [v]), (.sub (0 + 1 + 1) 0 x.p, .dfr)] ++ (L2 ++ need)) (app_mem (B := [(.sub 0 0 x.p, .cells [v]), (.sub (0 + 1 + 1) 0 x.p, .dfr)]) ?_ (app_mem (fun q hq => hL' q (List.mem_cons_of_mem _ hq)) hne)) ?_
    · intro q hq
      simp only [List.mem_cons, List.not_mem_nil, or_false] at hq
      rcases hq with rfl | rfl
      · exact hmx
      · exact hd
    have hnid : ∀ id xs, L2 = [(id, .arr 1 xs)] → (∀ q ∈ need, ¬ q.1 = id) ∧ ¬ id = .sub 2 0 x.p := fun id xs e => by
      have h1 := hL' (id, .arr 1 xs) (by rw [e]; exact List.mem_cons_of_mem _ List.mem_cons_self)
      simp only at h1
      refine ⟨fun q hq e1 => ?_, fun e1 => ?_⟩
      · have h2 := hne q hq
        rw [e1, h1, Option.some.injEq] at h2
        exact hna q hq _ _ h2.symm
      · rw [e1, hd] at h1; cases h1
    have hrow2 : SRow l v L2 (Oid.under x.p) := by
      rcases hr with hr | ⟨hl, id, rfl, rfl, hid⟩
      · exact .inl hr
      · refine .inr ⟨hl, id, rfl, rfl, ?_⟩
        rcases hnm _ (List.mem_cons_of_mem _ List.mem_cons_self) with ⟨q', h1, h2⟩ | ⟨q', h1, h2⟩ | h
        · exact absurd h2 ((hnid id _ rfl).1 q' h1)
        · simp only [List.mem_singleton] at h1
          subst h1
          exact absurd h2.symm hid
        · exact Oid.under_sub h
    have hin : ∀ q ∈ L2 ++ need, ¬ q.1 = .sub 0 0 x.p ∧ ¬ q.1 = .sub 2 0 x.p ∧ Mem.of (L2 ++ need) q.1 = some q.2 := by
      have hn2 : ∀ q ∈ need, ¬ q.1 = .sub 2 0 x.p := fun q hq e => hnp q hq (e ▸ Oid.under_sub (Oid.under_refl _))
      rcases hr with ⟨_, _, rfl⟩ | ⟨_, id, _, rfl, hid⟩
      · exact fun q hq => ⟨hnb q hq, hn2 q hq, hcon q hq⟩
      · intro q hq
        rcases List.mem_append.1 hq with hq | hq
        · simp only [List.mem_singleton] at hq
          subst hq
          exact ⟨hid, (hnid id _ rfl).2, by rw [List.cons_append, Mem.of_cons_at, if_pos rfl]⟩
        · exact ⟨hnb q hq, hn2 q hq, by rw [List.cons_append, Mem.of_cons_at, if_neg ((hnid id _ rfl).1 q hq)]; exact hcon q hq⟩
    generalize hrest : L2 ++ need = rest
    (repeat (first | (with_reducible (first | refine K_seq ?_ | refine K_next ?_ | refine K_skip ?_ | refine K_bend ?_ | refine K_exit ?_ | refine X_code ?_ | refine X_lend ?_ | refine X_here ?_ | refine X_on (by decide) ?_ | refine K_lendL ?_)) | (refine K_ifT rfl rfl ?_) | (refine K_ifF rfl rfl ?_) | (refine K_ev nmd [] hng (by kernel_rfl) fun hf C S K hC1 hC hS hK => ?_; simp (disch := first | omega | assumption) only [go_sem, ↓reduceIte, Nat.reduceEqDiff, Nat.reduceAdd, Nat.reduceMul, Nat.reduceLT, Nat.reduceLeDiff, reduceCtorEq, Nat.reduceBEq, Int.reduceToNat, Int.reduceNeg]; refine hK ?_; clear hK hS hC hC1 K S C hf)))
    refine K_ret ?_
    subst hQ
    refine ⟨?_, _, sets L2, rfl, ⟨l, L2, hS, ?_, rfl⟩, ?_⟩
    · simp only [fa_cons, fa_nil, Mem.of_cons_at, Mem.of_nil_at, Mem.of_upds, Mem.of_putL, putLs, putL, List.cons_append, List.nil_append, List.append_nil, ↓reduceIte, eq_self, and_true, true_and, and_self, and_false, false_and, reduceCtorEq, Oid.sub.injEq, Nat.reduceEqDiff, of_put_at]
    · exact hrow2
    · intro i o h
      have : ∃ q ∈ L2 ++ need, q.1 = i ∧ q.2 = o := by
        by_cases hk : ∃ q ∈ sets L2, q.1 = i
        · obtain ⟨q', k1, k2, k3⟩ := upds_mem (m := Mem.of need) hk
          rw [k3] at h
          obtain ⟨q, h1, rfl⟩ := List.mem_map.1 k1
          exact ⟨q, List.mem_append_left _ h1, k2, Option.some.inj h⟩
        · rw [upds_nokey fun q hq e => hk ⟨q, hq, e⟩] at h
          obtain ⟨q, h1, h2, h3⟩ := Mem.of_mem h
          exact ⟨q, List.mem_append_right _ h1, h2, h3⟩
      obtain ⟨q, hq, rfl, rfl⟩ := this
      obtain ⟨a1, a2, a3⟩ := hin q hq
      show ((Mem.of ((Oid.sub 0 0 x.p, AObj.cells [v]) :: (Oid.sub 2 0 x.p, AObj.dfr) :: rest)).set (.sub 2 0 x.p) none) q.1 = some q.2
      subst hrest
      simp only [Mem.set, if_neg a2, Mem.of_cons_at, if_neg a1]
      exact a3
  · rintro pre L' m' cd _ ⟨h, _⟩
    cases h
theorem collect_ok (gf : FuncId) (cap : List AV) (need : List (Oid × AObj)) (N : Nat) (Sq : Bool → List (List AV) → Prop) (hN : N ≤ 2000000000000) (p : Oid) (hnp : ∀ q ∈ need, ¬ Oid.under p q.1) (hna : ∀ q ∈ need, ∀ sz xs, ¬ q.2 = .arr sz xs)
    (hseq : ∀ p', Oid.under p p' → SeqND Tryz.prog gf cap p' need 1 (fun pre xs => pre.length < N ∧ ∃ h : Str, xs = [.str h]) Sq) :
    CallND Tryz.prog 57 [.fn (.func gf) [] cap] (Oid.under p) need (fun v u => ∃ l L', Sq true (l.map fun h => [.str h]) ∧ SRow l v L' (Oid.under p) ∧ u = sets L') (fun _ _ => False) := by
  refine callND_cons (by kernel_rfl) fun hcon => ?_
  refine fnND (n := 5) (rs := [.tmp 2]) Tryz.func57 rfl rfl (by decide) rfl rfl rfl ?_; rintro x rfl hrd hng
  (repeat (with_reducible (first | refine K_seq ?_ | refine K_next ?_ | refine K_skip ?_ | refine K_bend ?_ | refine K_block ?_ | refine K_exit ?_ | refine X_code ?_ | refine X_lend ?_ | refine X_here ?_ | refine X_on (by decide) ?_ | refine K_lendL ?_)))
  (repeat (first | (with_reducible (first | refine K_seq ?_ | refine K_next ?_ | refine K_skip ?_ | refine K_bend ?_ | refine K_block ?_ | refine K_exit ?_ | refine X_code ?_ | refine X_lend ?_ | refine X_here ?_ | refine X_on (by decide) ?_ | refine K_lendL ?_)) | (refine K_ifT rfl rfl ?_) | (refine K_ifF rfl rfl ?_) | (refine K_ev nmd [] hng (by kernel_rfl) fun hf C S K hC1 hC hS hK => ?_; simp (disch := first | omega | assumption) only [go_sem, ↓reduceIte, Nat.reduceEqDiff, Nat.reduceAdd, Nat.reduceMul, Nat.reduceLT, Nat.reduceLeDiff, reduceCtorEq, Nat.reduceBEq, Int.reduceToNat, Int.reduceNeg]; refine hK ?_; clear hK hS hC hC1 K S C hf)))
  refine K_ev nmd [] hng (by kernel_rfl) fun hf C S K hC1 hC hS hK => ?_; simp (disch := first | omega | assumption) only [go_sem, ↓reduceIte, Nat.reduceEqDiff, Nat.reduceAdd, Nat.reduceMul, Nat.reduceLT, Nat.reduceLeDiff, reduceCtorEq, Nat.reduceBEq, Int.reduceToNat, Int.reduceNeg]
  refine hC _ _ _ (appendSeq_ok gf cap need N Sq hN _ (fun q hq h => hnp q hq (Oid.under_sub h)) hna fun p' h => hseq p' (Oid.under_sub h)) hcon ?_ (fun _ _ h => h.elim)
  rintro val upd ⟨l, L', hSq, hr, rfl⟩
  simp (disch := first | omega | assumption) only [go_sem, ↓reduceIte, Nat.reduceEqDiff, Nat.reduceAdd, Nat.reduceMul, Nat.reduceLT, Nat.reduceLeDiff, reduceCtorEq, Nat.reduceBEq, Int.reduceToNat, Int.reduceNeg]
  refine hK ?_; clear hK hS hC hC1 K S C hf
  (repeat (with_reducible (first | refine K_seq ?_ | refine K_next ?_ | refine K_skip ?_ | refine K_bend ?_ | refine K_block ?_ | refine K_exit ?_ | refine X_code ?_ | refine X_lend ?_ | refine X_here ?_ | refine X_on (by decide) ?_ | refine K_lendL ?_)))
  refine K_ret (done_ret _ _ rfl ⟨l, L', hSq, hr.mono fun _ h => Oid.under_sub h, rfl⟩ ?_)
  intro i o h
  rw [Mem.of_upds] at h; exact h
theorem str_inj {a b : List Str} (e : a.map (fun h => [AV.str h]) = b.map fun h => [AV.str h]) : a = b := (List.map_inj_right (fun x y h => by simpa using h)).1 e
/-- Collected and sorted: one row. -/
theorem sorted_ok (gf : FuncId) (cap : List AV) (need : List (Oid × AObj)) (N : Nat) (l0 : List Str) (Sq : Bool → List (List AV) → Prop) (hN : N ≤ 2000000000000) (hl0 : l0.length ≤ N) (p : Oid) (hnp : ∀ q ∈ need, ¬ Oid.under p q.1) (hna : ∀ q ∈ need, ∀ sz xs, ¬ q.2 = .arr sz xs)
    (hseq : ∀ p', Oid.under p p' → SeqND Tryz.prog gf cap p' need 1 (fun pre xs => pre.length < N ∧ ∃ h : Str, xs = [.str h]) Sq)
    (hall : ∀ l : List Str, Sq true (l.map fun h => [.str h]) → l.Perm l0) :
    CallOK Tryz.prog 33 [.fn (.func gf) [] cap] (Oid.under p) ⟨need, .list 1 ((sortS l0).map .str), []⟩ := by
  refine (callND_cons (by kernel_rfl) fun hcon => ?_ : CallND Tryz.prog _ _ _ need (fun v u => v = _ ∧ u = []) (fun _ _ => False)).ok
  refine fnND (n := 9) (rs := [.tmp 2]) Tryz.func33 rfl rfl (by decide) rfl rfl rfl ?_; rintro x rfl hrd hng
  (repeat (first | (with_reducible (first | refine K_seq ?_ | refine K_next ?_ | refine K_skip ?_ | refine K_bend ?_ | refine K_block ?_ | refine K_exit ?_ | refine X_code ?_ | refine X_lend ?_ | refine X_here ?_ | refine X_on (by decide) ?_ | refine K_lendL ?_)) | (refine K_ifT rfl rfl ?_) | (refine K_ifF rfl rfl ?_) | (refine K_ev nmd [] hng (by kernel_rfl) fun hf C S K hC1 hC hS hK => ?_; simp (disch := first | omega | assumption) only [go_sem, ↓reduceIte, Nat.reduceEqDiff, Nat.reduceAdd, Nat.reduceMul, Nat.reduceLT, Nat.reduceLeDiff, reduceCtorEq, Nat.reduceBEq, Int.reduceToNat, Int.reduceNeg]; refine hK ?_; clear hK hS hC hC1 K S C hf)))
  refine K_ev nmd [] hng (by kernel_rfl) fun hf C S K hC1 hC hS hK => ?_; simp (disch := first | omega | assumption) only [go_sem, ↓reduceIte, Nat.reduceEqDiff, Nat.reduceAdd, Nat.reduceMul, Nat.reduceLT, Nat.reduceLeDiff, reduceCtorEq, Nat.reduceBEq, Int.reduceToNat, Int.reduceNeg]
  refine hC _ _ _ (collect_ok gf cap need N Sq hN _ (fun q hq h => hnp q hq (Oid.under_sub h)) hna fun p' h => hseq p' (Oid.under_sub h)) hcon ?_ (fun _ _ h => h.elim)
  rintro val upd ⟨l, L', hSq, hr, rfl⟩
  have hp := hall l hSq
  have hse : sortS l = sortS l0 := sortS_perm_eq hp
  rcases hr with ⟨rfl, rfl, rfl⟩ | ⟨hl, id, rfl, rfl, hid⟩
  · simp (disch := first | omega | assumption) only [go_sem, ↓reduceIte, Nat.reduceEqDiff, Nat.reduceAdd, Nat.reduceMul, Nat.reduceLT, Nat.reduceLeDiff, reduceCtorEq, Nat.reduceBEq, Int.reduceToNat, Int.reduceNeg, sets, List.map_nil]
    refine hK ?_; clear hK hS hC hC1 K S C hf
    (repeat (first | (with_reducible (first | refine K_seq ?_ | refine K_next ?_ | refine K_skip ?_ | refine K_bend ?_ | refine K_exit ?_ | refine X_code ?_ | refine X_lend ?_ | refine X_here ?_ | refine X_on (by decide) ?_ | refine K_lendL ?_)) | (refine K_ifT rfl rfl ?_) | (refine K_ifF rfl rfl ?_) | (refine K_ev nmd [] hng (by kernel_rfl) fun hf C S K hC1 hC hS hK => ?_; simp (disch := first | omega | assumption) only [go_sem, ↓reduceIte, Nat.reduceEqDiff, Nat.reduceAdd, Nat.reduceMul, Nat.reduceLT, Nat.reduceLeDiff, reduceCtorEq, Nat.reduceBEq, Int.reduceToNat, Int.reduceNeg]; refine hK ?_; clear hK hS hC hC1 K S C hf)))
    refine K_ev nmd [] hng (by kernel_rfl) fun hf C S K hC1 hC hS hK => ?_; simp (disch := first | omega | assumption) only [go_sem, ↓reduceIte, Nat.reduceEqDiff, Nat.reduceAdd, Nat.reduceMul, Nat.reduceLT, Nat.reduceLeDiff, reduceCtorEq, Nat.reduceBEq, Int.reduceToNat, Int.reduceNeg]
    refine hC1 _ (sortStr_nil _) (by simp (disch := first | omega | assumption) only [go_sem, ↓reduceIte, Nat.reduceEqDiff, Nat.reduceAdd, Nat.reduceMul, Nat.reduceLT, Nat.reduceLeDiff, reduceCtorEq, Nat.reduceBEq, Int.reduceToNat, Int.reduceNeg]) ?_
    simp (disch := first | omega | assumption) only [go_sem, ↓reduceIte, Nat.reduceEqDiff, Nat.reduceAdd, Nat.reduceMul, Nat.reduceLT, Nat.reduceLeDiff, reduceCtorEq, Nat.reduceBEq, Int.reduceToNat, Int.reduceNeg]
    refine hK ?_; clear hK hS hC hC1 K S C hf
    refine K_next ?_
    refine K_nilList 3 1 rfl ?_
    (repeat (first | (with_reducible (first | refine K_seq ?_ | refine K_next ?_ | refine K_skip ?_ | refine K_bend ?_ | refine K_block ?_ | refine K_exit ?_ | refine X_code ?_ | refine X_lend ?_ | refine X_here ?_ | refine X_on (by decide) ?_ | refine K_lendL ?_)) | (refine K_ifT rfl rfl ?_) | (refine K_ifF rfl rfl ?_) | (refine K_ev nmd [] hng (by kernel_rfl) fun hf C S K hC1 hC hS hK => ?_; simp (disch := first | omega | assumption) only [go_sem, ↓reduceIte, Nat.reduceEqDiff, Nat.reduceAdd, Nat.reduceMul, Nat.reduceLT, Nat.reduceLeDiff, reduceCtorEq, Nat.reduceBEq, Int.reduceToNat, Int.reduceNeg]; refine hK ?_; clear hK hS hC hC1 K S C hf)))
    exact K_ret (done_ret (.list 1 ((sortS l0).map .str)) [] (by rw [← hse, show sortS [] = [] by simp [sortS]]; rfl) ⟨rfl, rfl⟩ fun _ _ h => h)
  · have hid2 := Oid.under_sub hid
    have hnid : ∀ q ∈ need, ¬ q.1 = id := fun q hq e => hnp q hq (e ▸ hid2)
    simp (disch := first | omega | assumption) only [go_sem, ↓reduceIte, Nat.reduceEqDiff, Nat.reduceAdd, Nat.reduceMul, Nat.reduceLT, Nat.reduceLeDiff, reduceCtorEq, Nat.reduceBEq, Int.reduceToNat, Int.reduceNeg, sets, List.map_cons, List.map_nil]
    refine hK ?_; clear hK hS hC hC1 K S C hf
    (repeat (first | (with_reducible (first | refine K_seq ?_ | refine K_next ?_ | refine K_skip ?_ | refine K_bend ?_ | refine K_exit ?_ | refine X_code ?_ | refine X_lend ?_ | refine X_here ?_ | refine X_on (by decide) ?_ | refine K_lendL ?_)) | (refine K_ifT rfl rfl ?_) | (refine K_ifF rfl rfl ?_) | (refine K_ev nmd [] hng (by kernel_rfl) fun hf C S K hC1 hC hS hK => ?_; simp (disch := first | omega | assumption) only [go_sem, ↓reduceIte, Nat.reduceEqDiff, Nat.reduceAdd, Nat.reduceMul, Nat.reduceLT, Nat.reduceLeDiff, reduceCtorEq, Nat.reduceBEq, Int.reduceToNat, Int.reduceNeg]; refine hK ?_; clear hK hS hC hC1 K S C hf)))
    have hlen : l.length ≤ 2000000000000 := by rw [hp.length_eq]; omega
    refine K_ev nmd [] hng (by kernel_rfl) fun hf C S K hC1 hC hS hK => ?_; simp (disch := first | omega | assumption) only [go_sem, ↓reduceIte, Nat.reduceEqDiff, Nat.reduceAdd, Nat.reduceMul, Nat.reduceLT, Nat.reduceLeDiff, reduceCtorEq, Nat.reduceBEq, Int.reduceToNat, Int.reduceNeg]
    refine hC1 _ (sortStr_ok l hl (by omega) id _) (by simp (disch := first | omega | assumption) only [go_sem, ↓reduceIte, Nat.reduceEqDiff, Nat.reduceAdd, Nat.reduceMul, Nat.reduceLT, Nat.reduceLeDiff, reduceCtorEq, Nat.reduceBEq, Int.reduceToNat, Int.reduceNeg, of_put_at]) ?_
    simp (disch := first | omega | assumption) only [go_sem, ↓reduceIte, Nat.reduceEqDiff, Nat.reduceAdd, Nat.reduceMul, Nat.reduceLT, Nat.reduceLeDiff, reduceCtorEq, Nat.reduceBEq, Int.reduceToNat, Int.reduceNeg]
    refine hK ?_; clear hK hS hC hC1 K S C hf
    refine K_next ?_
    refine K_freeze id 1 ((sortS l).map .str) (by simp (disch := first | omega | assumption) only [go_sem, ↓reduceIte, Nat.reduceEqDiff, Nat.reduceAdd, Nat.reduceMul, Nat.reduceLT, Nat.reduceLeDiff, reduceCtorEq, Nat.reduceBEq, Int.reduceToNat, Int.reduceNeg, of_put_at]) ?_
    simp (disch := first | omega | assumption) only [go_sem, ↓reduceIte, Nat.reduceEqDiff, Nat.reduceAdd, Nat.reduceMul, Nat.reduceLT, Nat.reduceLeDiff, reduceCtorEq, Nat.reduceBEq, Int.reduceToNat, Int.reduceNeg, sortS_length]
    (repeat (first | (with_reducible (first | refine K_seq ?_ | refine K_next ?_ | refine K_skip ?_ | refine K_bend ?_ | refine K_block ?_ | refine K_exit ?_ | refine X_code ?_ | refine X_lend ?_ | refine X_here ?_ | refine X_on (by decide) ?_ | refine K_lendL ?_)) | (refine K_ifT rfl rfl ?_) | (refine K_ifF rfl rfl ?_) | (refine K_ev nmd [] hng (by kernel_rfl) fun hf C S K hC1 hC hS hK => ?_; simp (disch := first | omega | assumption) only [go_sem, ↓reduceIte, Nat.reduceEqDiff, Nat.reduceAdd, Nat.reduceMul, Nat.reduceLT, Nat.reduceLeDiff, reduceCtorEq, Nat.reduceBEq, Int.reduceToNat, Int.reduceNeg]; refine hK ?_; clear hK hS hC hC1 K S C hf)))
    refine K_ret (done_ret (.list 1 ((sortS l0).map .str)) [] (by rw [← hse]; rfl) ⟨rfl, rfl⟩ fun i o h => ?_)
    have h' : Mem.of need i = some o := h
    have hi : ¬ i = id := fun e => by obtain ⟨q, h1, h2, h3⟩ := Mem.of_mem h'; exact hnid q h1 (h2.trans e)
    rw [of_put_at, if_neg hi, of_put_at, if_neg hi, of_put_at, if_neg hi]; exact h'
/-! the names below a place -/
def namesE (n : Str) (es : List ME) : List Str := es.filterMap fun e => restOf n (keyS e)
theorem below_ok (o : Oid) (n : Str) (p : Oid) (ho : ¬ Oid.under p o) : CallOK Tryz.prog 53 [.map o, .str n] (Oid.under p) ⟨[], .fn (.func 77) [] [.ptr (.sub 0 0 p) 0, .ptr (.sub 0 1 p) 0], [(.sub 0 0 p, some (.cells [.map o])), (.sub 0 1 p, some (.cells [.str n]))]⟩ := by
  refine fnOK (n := 6) (rs := [.tmp 4]) Tryz.func53 rfl rfl (by decide) rfl rfl rfl ?_; rintro x rfl hrd hng
  (repeat (first | (with_reducible (first | refine K_seq ?_ | refine K_next ?_ | refine K_skip ?_ | refine K_bend ?_ | refine K_block ?_ | refine K_exit ?_ | refine X_code ?_ | refine X_lend ?_ | refine X_here ?_ | refine X_on (by decide) ?_ | refine K_lendL ?_)) | (refine K_ifT rfl rfl ?_) | (refine K_ifF rfl rfl ?_) | (refine K_ev nmd [] hng (by kernel_rfl) fun hf C S K hC1 hC hS hK => ?_; simp (disch := first | omega | assumption) only [go_sem, ↓reduceIte, Nat.reduceEqDiff, Nat.reduceAdd, Nat.reduceMul, Nat.reduceLT, Nat.reduceLeDiff, reduceCtorEq, Nat.reduceBEq, Int.reduceToNat, Int.reduceNeg]; refine hK ?_; clear hK hS hC hC1 K S C hf)))
  refine K_ret (done_ret _ _ rfl ⟨rfl, rfl⟩ ?_)
  intro i o' h
  rw [Mem.of_upds] at h
  exact h
theorem names_ok (o : Oid) (n : Str) (hln : n.length ≤ 140737488355000) (es : List ME) (clock : Nat) (hkl : ∀ e ∈ es, (keyS e).length ≤ 140737488355328) (hel : es.length ≤ 2000000000000) (p : Oid) (ho : ¬ Oid.under p o) :
    CallOK Tryz.prog 30 [.map o, .str n] (Oid.under p) ⟨[(o, .map [.ss] false es clock)], .list 1 ((sortS (namesE n es)).map .str), []⟩ := by
  refine fnOK (n := 9) (rs := [.tmp 4]) Tryz.func30 rfl rfl (by decide) rfl rfl rfl ?_; rintro x rfl hrd hng
  have hu12 : ∀ j, Oid.under (.sub 1 2 x.p) (.sub 0 j (.sub 1 2 x.p)) := fun j => Oid.under_sub (Oid.under_refl _)
  have hapt : ∀ j p', Oid.under (.sub 1 3 x.p) p' → ¬ Oid.under p' (.sub 0 j (.sub 1 2 x.p)) := fun j p' h h2 => by
    have := (Oid.apart (Oid.under_trans h h2) (hu12 j)).2
    omega
  (repeat (with_reducible (first | refine K_seq ?_ | refine K_next ?_ | refine K_skip ?_ | refine K_bend ?_ | refine K_block ?_ | refine K_exit ?_ | refine X_code ?_ | refine X_lend ?_ | refine X_here ?_ | refine X_on (by decide) ?_ | refine K_lendL ?_)))
  (repeat (first | (with_reducible (first | refine K_seq ?_ | refine K_next ?_ | refine K_skip ?_ | refine K_bend ?_ | refine K_block ?_ | refine K_exit ?_ | refine X_code ?_ | refine X_lend ?_ | refine X_here ?_ | refine X_on (by decide) ?_ | refine K_lendL ?_)) | (refine K_ifT rfl rfl ?_) | (refine K_ifF rfl rfl ?_) | (refine K_ev nmd [] hng (by kernel_rfl) fun hf C S K hC1 hC hS hK => ?_; simp (disch := first | omega | assumption) only [go_sem, ↓reduceIte, Nat.reduceEqDiff, Nat.reduceAdd, Nat.reduceMul, Nat.reduceLT, Nat.reduceLeDiff, reduceCtorEq, Nat.reduceBEq, Int.reduceToNat, Int.reduceNeg]; refine hK ?_; clear hK hS hC hC1 K S C hf)))
  refine K_ev nmd [] hng (by kernel_rfl) fun hf C S K hC1 hC hS hK => ?_; simp (disch := first | omega | assumption) only [go_sem, ↓reduceIte, Nat.reduceEqDiff, Nat.reduceAdd, Nat.reduceMul, Nat.reduceLT, Nat.reduceLeDiff, reduceCtorEq, Nat.reduceBEq, Int.reduceToNat, Int.reduceNeg]
  refine hC1 _ (below_ok o n _ (fun h => ho (Oid.under_sub h))) (by simp (disch := first | omega | assumption) only [go_sem, ↓reduceIte, Nat.reduceEqDiff, Nat.reduceAdd, Nat.reduceMul, Nat.reduceLT, Nat.reduceLeDiff, reduceCtorEq, Nat.reduceBEq, Int.reduceToNat, Int.reduceNeg]) ?_
  simp (disch := first | omega | assumption) only [go_sem, ↓reduceIte, Nat.reduceEqDiff, Nat.reduceAdd, Nat.reduceMul, Nat.reduceLT, Nat.reduceLeDiff, reduceCtorEq, Nat.reduceBEq, Int.reduceToNat, Int.reduceNeg]
  refine hC1 _ (sorted_ok 77 [.ptr (.sub 0 0 (.sub 1 2 x.p)) 0, .ptr (.sub 0 1 (.sub 1 2 x.p)) 0] [(.sub 0 0 (.sub 1 2 x.p), .cells [.map o]), (.sub 0 1 (.sub 1 2 x.p), .cells [.str n]), (o, .map [.ss] false es clock)] es.length (namesE n es) _ hel (List.length_filterMap_le _ _) _ ?_ ?_
    (fun p' hp => below_seq (.sub 0 0 (.sub 1 2 x.p)) (.sub 0 1 (.sub 1 2 x.p)) o n hln es clock hkl p' ?_ ?_ ?_ ?_ ?_ ?_) ?_) ?_ ?_
  · intro q hq
    simp only [List.mem_cons, List.not_mem_nil, or_false] at hq
    rcases hq with rfl | rfl | rfl
    · exact hapt 0 _ (Oid.under_refl _)
    · exact hapt 1 _ (Oid.under_refl _)
    · exact fun h => ho (Oid.under_sub h)
  · intro q hq
    simp only [List.mem_cons, List.not_mem_nil, or_false] at hq
    rcases hq with rfl | rfl | rfl <;> (intro sz xs e; cases e)
  · exact fun e => ho (e ▸ Oid.under_sub (hu12 0))
  · exact fun e => ho (e ▸ Oid.under_sub (hu12 1))
  · simp
  · exact hapt 0 _ hp
  · exact hapt 1 _ hp
  · exact fun h => ho (Oid.under_sub (Oid.under_trans hp h))
  · intro l hl
    obtain ⟨U, h1, h2⟩ := hl rfl
    rw [str_inj h2]
    exact h1.filterMap _
  · have h0 := fun j => Oid.not_under_sub (fun h => ho (Oid.under_sub h) : ¬ Oid.under (.sub 1 2 x.p) o) 0 j
    have h1 := fun j => Oid.sub_not_under (fun h => ho (Oid.under_sub h) : ¬ Oid.under (.sub 1 2 x.p) o) 0 j
    simp only [fa_cons, fa_nil, Mem.of_cons_at, Mem.of_nil_at, Mem.of_upds, Mem.of_putL, putLs, putL, List.cons_append, List.nil_append, List.append_nil, ↓reduceIte, eq_self, and_true, true_and, and_self, and_false, false_and, reduceCtorEq, Oid.sub.injEq, Nat.reduceEqDiff, of_put_at, h0, h1]
  · simp (disch := first | omega | assumption) only [go_sem, ↓reduceIte, Nat.reduceEqDiff, Nat.reduceAdd, Nat.reduceMul, Nat.reduceLT, Nat.reduceLeDiff, reduceCtorEq, Nat.reduceBEq, Int.reduceToNat, Int.reduceNeg]
    refine hK ?_; clear hK hS hC hC1 K S C hf
    (repeat (first | (with_reducible (first | refine K_seq ?_ | refine K_next ?_ | refine K_skip ?_ | refine K_bend ?_ | refine K_block ?_ | refine K_exit ?_ | refine X_code ?_ | refine X_lend ?_ | refine X_here ?_ | refine X_on (by decide) ?_ | refine K_lendL ?_)) | (refine K_ifT rfl rfl ?_) | (refine K_ifF rfl rfl ?_) | (refine K_ev nmd [] hng (by kernel_rfl) fun hf C S K hC1 hC hS hK => ?_; simp (disch := first | omega | assumption) only [go_sem, ↓reduceIte, Nat.reduceEqDiff, Nat.reduceAdd, Nat.reduceMul, Nat.reduceLT, Nat.reduceLeDiff, reduceCtorEq, Nat.reduceBEq, Int.reduceToNat, Int.reduceNeg]; refine hK ?_; clear hK hS hC hC1 K S C hf)))
    refine K_ret (done_ret _ _ rfl ⟨rfl, rfl⟩ fun i o' h => ?_)
    have h' : Mem.of [(o, AObj.map [.ss] false es clock)] i = some o' := h
    rw [Mem.of_cons_at] at h'
    split at h'
    · rename_i e
      subst e
      have h0 := fun j => Oid.not_under_sub (fun h => ho (Oid.under_sub h) : ¬ Oid.under (.sub 1 2 x.p) i) 0 j
      have h1 := fun j => Oid.sub_not_under (fun h => ho (Oid.under_sub h) : ¬ Oid.under (.sub 1 2 x.p) i) 0 j
      simp only [fa_cons, fa_nil, Mem.of_cons_at, Mem.of_nil_at, Mem.of_upds, Mem.of_putL, putLs, putL, List.cons_append, List.nil_append, List.append_nil, ↓reduceIte, eq_self, and_true, true_and, and_self, and_false, false_and, reduceCtorEq, Oid.sub.injEq, Nat.reduceEqDiff, of_put_at, h0, h1]
      exact h'
    · cases h'
end Go.Proofs.YtbpembafoloinaaGreatDoor
