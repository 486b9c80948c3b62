/- What an iterator of hazards yields, collected. -/
import Derived.Test.YtpdmiojenhodlaaH11
set_option linter.unusedVariables false
set_option linter.unusedSimpArgs false
namespace Go.Proofs.Ytpdmiojenhodlaa
open Go Go.Ab
set_option maxRecDepth 20000
set_option maxHeartbeats 4000000
theorem bindA_one (t : Nat) (a : AV) (fr : List (Nat × AV)) : bindA [t] [a] fr = (t, a) :: fr := rfl
theorem T_fresh {P : Program} {x : Ctx} {n : Nat} {a : Code} {Q : AX → AS → Prop} {fr : List (Nat × AV)} {m : Mem} {c : Nat} {ds : List AD} (h : (∀ i, Young x.p c i → m i = none) → T P x n a ⟨fr, m, c, ds⟩ Q) : T P x n a ⟨fr, m, c, ds⟩ Q :=
  fun g a w hr => h hr.fresh g a w hr
theorem T_aft {P : Program} {x : Ctx} {n : Nat} {a : Code} {Q : AX → AS → Prop} {s : AS} (h : T P x n a s (after P x n Q [])) : T P x n a s Q := T_mono h fun _ _ h => h
/-- A row of hazards: none, or its own. -/
def HRow (l : List Hz) (v : AV) (L : List (Oid × AObj)) (sp : Oid → Prop) : Prop :=
  (l = [] ∧ v = .nilSl ∧ L = []) ∨ (¬ l = [] ∧ ∃ id, v = .sl id 5 l.length ∧ L = [(id, .arr 5 (l.map Hz.av))] ∧ sp id)
theorem appendSeq_ok (gf : FuncId) (cap : List AV) (need : List (Oid × AObj)) (N : Nat) (S : Bool → List (List AV) → Prop) (hN : N ≤ 2000000000000) (p : Oid) (hnp : ∀ q ∈ need, ¬ Oid.under p q.1) (hna : ∀ q ∈ need, ∀ sz xs, ¬ q.2 = .arr sz xs)
    (hseq : ∀ p', Oid.under p p' → SeqND Try.prog gf cap p' need 1 (fun pre xs => pre.length < N ∧ ∃ h : Hz, xs = [h.av]) S) :
    CallND Try.prog 33 [.nilSl, .fn (.func gf) [] cap] (Oid.under p) need (fun v u => ∃ l L', S true (l.map fun h => [h.av]) ∧ HRow l v L' (Oid.under p) ∧ u = sets L') (fun _ _ => False) := by
  refine callND_cons (by kernel_rfl) fun hcon => ?_
  refine fnND (n := 13) (rs := [.tmp 4]) Try.func33 rfl rfl (by decide) rfl rfl rfl ?_; rintro x rfl hrd hng
  have hnb : ∀ q ∈ need, ¬ q.1 = .sub 0 0 x.p := fun q hq e => hnp q hq (e ▸ Oid.under_sub (Oid.under_refl _))
  generalize hQ : DoneN Try.prog _ need _ _ = Q
  (repeat (with_reducible (first | refine K_seq ?_ | refine K_next ?_ | refine K_skip ?_ | refine K_bend ?_ | refine K_block ?_ | refine K_exit ?_ | refine X_code ?_ | refine X_lend ?_ | refine X_here ?_ | refine X_on (by decide) ?_ | refine K_lendL ?_)))
  refine K_ev nmd [] hng (by kernel_rfl) fun hf C S K hC1 hC hS hK => ?_; simp (disch := first | omega | assumption) only [go_sem, ↓reduceIte, Nat.reduceEqDiff, Nat.reduceAdd, Nat.reduceMul, Nat.reduceLT, Nat.reduceLeDiff, reduceCtorEq, Nat.reduceBEq, Int.reduceToNat, Int.reduceNeg, of_put_at]
  refine hK ?_; clear hK hS hC hC1 K S C hf
  (repeat (first | (with_reducible (first | refine K_seq ?_ | refine K_next ?_ | refine K_skip ?_ | refine K_bend ?_ | refine K_block ?_ | refine K_exit ?_ | refine X_code ?_ | refine X_lend ?_ | refine X_here ?_ | refine X_on (by decide) ?_ | refine K_lendL ?_)) | (refine K_ifT rfl rfl ?_) | (refine K_ifF rfl rfl ?_) | (refine K_ev nmd [] hng (by kernel_rfl) fun hf C S K hC1 hC hS hK => ?_; simp (disch := first | omega | assumption) only [go_sem, ↓reduceIte, Nat.reduceEqDiff, Nat.reduceAdd, Nat.reduceMul, Nat.reduceLT, Nat.reduceLeDiff, reduceCtorEq, Nat.reduceBEq, Int.reduceToNat, Int.reduceNeg]; refine hK ?_; clear hK hS hC hC1 K S C hf)))
  refine T_rangeFunc (S := S) hrd hng (by decide) rfl rfl (hseq _ (Oid.under_sub (Oid.under_refl _))) ?_
    (fun jump pre L => jump = none ∧ ∃ (l : List Hz) (v : AV) (L1 : List (Oid × AObj)), pre = l.map (fun h => [h.av]) ∧ HRow l v L1 (fun id => ¬ id = .sub 0 0 x.p) ∧ L = (.sub 0 0 x.p, .cells [v]) :: L1)
    [(.sub 0 0 x.p, .cells [.nilSl])] ⟨rfl, [], .nilSl, [], rfl, .inl ⟨rfl, rfl, rfl⟩, rfl⟩ ?_ ?_
    (fun _ xs L1 p' s => ∃ h : Hz, xs = [h.av] ∧ F s.fr 5 = .ptr (.sub 0 0 p') 0 ∧ F s.fr 2 = .ptr (.sub 0 0 x.p) 0 ∧ (∀ q, q ∈ (.sub 0 0 p', .cells h.av.cells) :: L1 → s.mem q.1 = some q.2) ∧ s.ds = [] ∧ 0 < s.c ∧ ∀ q, q ∈ L1 → ¬ q.1 = .sub 0 0 p') ?_ ?_ ?_ ?_
  · intro q hq
    rw [of_put_at, if_neg (hnb q hq)]; exact hcon q hq
  · intro q hq
    simp only [List.mem_singleton] at hq
    subst hq
    rw [of_put_at, if_pos rfl]
  · intro q hq q' hq' e
    simp only [List.mem_singleton] at hq
    subst hq
    exact hnb q' hq' e.symm
  · rintro y l0 pre xs L1 ⟨_, l, v, L2, rfl, hr, rfl⟩ _ ⟨hlen, h, rfl⟩ hyr hyg
    refine T_aft (T_fresh fun hf => ?_)
    replace hng := hyg
    have hfy := hf (.sub 0 0 y.p) ⟨0, 0, Nat.le_refl _, Oid.under_refl _⟩
    have hb : ¬ Oid.sub 0 0 y.p = .sub 0 0 x.p := fun e => by rw [e] at hfy; simp [Mem.of_cons_at] at hfy
    have hb2 : ¬ y.p = x.p := fun e => hb (by rw [e])
    generalize hrest : L2 = rest at hfy ⊢
    rw [Mem.of_cons_at, if_neg hb] at hfy
    have hdis : ∀ q ∈ L2, ¬ q.1 = .sub 0 0 y.p ∧ ¬ q.1 = .sub 0 0 x.p ∧ Mem.of L2 q.1 = some q.2 := by
      rcases hr with ⟨_, _, rfl⟩ | ⟨_, id, _, rfl, hid⟩
      · intro q hq; cases hq
      · intro q hq
        simp only [List.mem_singleton] at hq
        subst hq
        refine ⟨fun e => ?_, hid, by simp [Mem.of_cons_at]⟩
        subst hrest
        simp [Mem.of_cons_at, ← e] at hfy
    refine K_ev nmd [] hng (by kernel_rfl) fun hf C S K hC1 hC hS hK => ?_; simp (disch := first | omega | assumption) only [go_sem, ↓reduceIte, Nat.reduceEqDiff, Nat.reduceAdd, Nat.reduceMul, Nat.reduceLT, Nat.reduceLeDiff, reduceCtorEq, Nat.reduceBEq, Int.reduceToNat, Int.reduceNeg, of_put_at, hb2, bindA_one]
    refine hK ?_; clear hK hS hC hC1 K S C hf
    refine K_nil ⟨rfl, h, rfl, rfl, rfl, ?_, rfl, by simp, fun q hq => by
      rcases List.mem_cons.1 hq with rfl | hq
      · exact fun e => hb e.symm
      · subst hrest; exact (hdis q hq).1⟩
    refine app_mem (B := [(.sub 0 0 y.p, .cells h.av.cells), (.sub 0 0 x.p, .cells [v])]) ?_ ?_
    · simp only [fa_cons, fa_nil, Mem.of_cons_at, Mem.of_nil_at, Mem.of_upds, Mem.of_putL, putLs, putL, List.cons_append, List.nil_append, List.append_nil, ↓reduceIte, eq_self, and_true, true_and, and_self, and_false, false_and, reduceCtorEq, Oid.sub.injEq, Nat.reduceEqDiff, of_put_at, hb2, Hz.av, AV.cells]
    · intro q hq
      subst hrest
      obtain ⟨a1, a2, a3⟩ := hdis q hq
      simp only [fa_cons, fa_nil, Mem.of_cons_at, Mem.of_nil_at, Mem.of_upds, Mem.of_putL, putLs, putL, List.cons_append, List.nil_append, List.append_nil, ↓reduceIte, eq_self, and_true, true_and, and_self, and_false, false_and, reduceCtorEq, Oid.sub.injEq, Nat.reduceEqDiff, of_put_at, hb2, a1, a2]
      exact a3
  · rintro y l0 pre xs L1 ⟨fr, m, c, ds⟩ ⟨_, l, v, L2, rfl, hr, rfl⟩ _ ⟨hlen, _, _⟩ hyr hyg ⟨h, rfl, h5, h2, hm, rfl, hc, hn1⟩
    simp only at h5 h2 hm hc
    refine T_aft (K_fr [(5, .ptr (.sub 0 0 y.p) 0), (2, .ptr (.sub 0 0 x.p) 0)] rfl (by simp [h5, h2]) (K_mem _ hm (T_fresh fun hf => ?_)))
    replace hng := hyg
    have hfy : ∀ j, Mem.of ((Oid.sub 0 0 y.p, AObj.cells h.av.cells) :: (Oid.sub 0 0 x.p, AObj.cells [v]) :: L2) (.sub c j y.p) = none := fun j => hf _ ⟨c, j, Nat.le_refl _, Oid.under_refl _⟩
    have h00 := hf
    clear hf
    have hb2 : ¬ y.p = x.p := fun e => hn1 _ List.mem_cons_self (by rw [e])
    have hb3 : ¬ x.p = y.p := fun e => hb2 e.symm
    rcases hr with ⟨rfl, rfl, rfl⟩ | ⟨hl, id, rfl, rfl, hid⟩
    · (repeat (first | (with_reducible (first | refine K_seq ?_ | refine K_next ?_ | refine K_skip ?_ | refine K_bend ?_ | refine K_exit ?_ | refine X_code ?_ | refine X_lend ?_ | refine X_here ?_ | refine X_on (by decide) ?_ | refine K_lendL ?_)) | (refine K_ifT rfl rfl ?_) | (refine K_ifF rfl rfl ?_) | (refine K_ev nmd [] hng (by kernel_rfl) fun hf C S K hC1 hC hS hK => ?_; simp (disch := first | omega | assumption) only [go_sem, ↓reduceIte, Nat.reduceEqDiff, Nat.reduceAdd, Nat.reduceMul, Nat.reduceLT, Nat.reduceLeDiff, reduceCtorEq, Nat.reduceBEq, Int.reduceToNat, Int.reduceNeg]; refine hK ?_; clear hK hS hC hC1 K S C hf)))
      refine K_block ?_
      (repeat (first | (with_reducible (first | refine K_seq ?_ | refine K_next ?_ | refine K_skip ?_ | refine K_bend ?_ | refine K_exit ?_ | refine X_code ?_ | refine X_lend ?_ | refine X_here ?_ | refine X_on (by decide) ?_ | refine K_lendL ?_)) | (refine K_ifT rfl rfl ?_) | (refine K_ifF rfl rfl ?_) | (refine K_ev nmd [] hng (by kernel_rfl) fun hf C S K hC1 hC hS hK => ?_; simp (disch := first | omega | assumption) only [go_sem, ↓reduceIte, Nat.reduceEqDiff, Nat.reduceAdd, Nat.reduceMul, Nat.reduceLT, Nat.reduceLeDiff, reduceCtorEq, Nat.reduceBEq, Int.reduceToNat, Int.reduceNeg]; refine hK ?_; clear hK hS hC hC1 K S C hf)))
      refine K_ev nmd [] hng (by kernel_rfl) fun hf C S K hC1 hC hS hK => ?_; simp (disch := first | omega | assumption) only [go_sem, ↓reduceIte, Nat.reduceEqDiff, Nat.reduceAdd, Nat.reduceMul, Nat.reduceLT, Nat.reduceLeDiff, reduceCtorEq, Nat.reduceBEq, Int.reduceToNat, Int.reduceNeg, of_put_at, hb2, hb3, gdR_T]
      refine hK ?_; clear hK hS hC hC1 K S C hf
      (repeat (with_reducible (first | refine K_seq ?_ | refine K_next ?_ | refine K_skip ?_ | refine K_bend ?_ | refine K_block ?_ | refine K_exit ?_ | refine X_code ?_ | refine X_lend ?_ | refine X_here ?_ | refine X_on (by decide) ?_ | refine K_lendL ?_)))
      refine K_nil ⟨[(.sub 0 0 x.p, .cells [.sl (.sub c 3 y.p) 5 1]), (.sub c 3 y.p, .arr 5 [h.av])], ⟨rfl, [h], _, _, rfl, .inr ⟨by simp, .sub c 3 y.p, rfl, rfl, fun e => by simp at e⟩, rfl⟩, ?_, ?_⟩
      · simp only [fa_cons, fa_nil, Mem.of_cons_at, Mem.of_nil_at, Mem.of_upds, Mem.of_putL, putLs, putL, List.cons_append, List.nil_append, List.append_nil, ↓reduceIte, eq_self, and_true, true_and, and_self, and_false, false_and, reduceCtorEq, Oid.sub.injEq, Nat.reduceEqDiff, hb2, hb3, Hz.av]
      · intro q hq
        simp only [List.mem_cons, List.not_mem_nil, or_false] at hq
        rcases hq with rfl | rfl
        · exact .inl ⟨_, List.mem_cons_self, rfl⟩
        · exact .inr (Oid.under_sub (Oid.under_refl _))
    · simp only [List.length_map] at hlen
      have hi0 := hn1 _ (List.mem_cons_of_mem _ List.mem_cons_self)
      simp only at hi0
      have hi1 : ¬ Oid.sub c 3 y.p = id := fun e => by have := hfy 3; rw [e] at this; simp only [Mem.of_cons_at, if_neg hi0, if_neg hid] at this; simp at this
      have hi2 : ¬ id = Oid.sub c 3 y.p := fun e => hi1 e.symm
      (repeat (first | (with_reducible (first | refine K_seq ?_ | refine K_next ?_ | refine K_skip ?_ | refine K_bend ?_ | refine K_exit ?_ | refine X_code ?_ | refine X_lend ?_ | refine X_here ?_ | refine X_on (by decide) ?_ | refine K_lendL ?_)) | (refine K_ifT rfl rfl ?_) | (refine K_ifF rfl rfl ?_) | (refine K_ev nmd [] hng (by kernel_rfl) fun hf C S K hC1 hC hS hK => ?_; simp (disch := first | omega | assumption) only [go_sem, ↓reduceIte, Nat.reduceEqDiff, Nat.reduceAdd, Nat.reduceMul, Nat.reduceLT, Nat.reduceLeDiff, reduceCtorEq, Nat.reduceBEq, Int.reduceToNat, Int.reduceNeg]; refine hK ?_; clear hK hS hC hC1 K S C hf)))
      refine K_block ?_
      (repeat (first | (with_reducible (first | refine K_seq ?_ | refine K_next ?_ | refine K_skip ?_ | refine K_bend ?_ | refine K_exit ?_ | refine X_code ?_ | refine X_lend ?_ | refine X_here ?_ | refine X_on (by decide) ?_ | refine K_lendL ?_)) | (refine K_ifT rfl rfl ?_) | (refine K_ifF rfl rfl ?_) | (refine K_ev nmd [] hng (by kernel_rfl) fun hf C S K hC1 hC hS hK => ?_; simp (disch := first | omega | assumption) only [go_sem, ↓reduceIte, Nat.reduceEqDiff, Nat.reduceAdd, Nat.reduceMul, Nat.reduceLT, Nat.reduceLeDiff, reduceCtorEq, Nat.reduceBEq, Int.reduceToNat, Int.reduceNeg]; refine hK ?_; clear hK hS hC hC1 K S C hf)))
      refine K_ev nmd [] hng (by kernel_rfl) fun hf C S K hC1 hC hS hK => ?_; simp (disch := first | omega | assumption) only [go_sem, ↓reduceIte, Nat.reduceEqDiff, Nat.reduceAdd, Nat.reduceMul, Nat.reduceLT, Nat.reduceLeDiff, reduceCtorEq, Nat.reduceBEq, Int.reduceToNat, Int.reduceNeg, of_put_at, hb2, hb3, hid, hi0, hi1, hi2]
      refine hK ?_; clear hK hS hC hC1 K S C hf
      (repeat (with_reducible (first | refine K_seq ?_ | refine K_next ?_ | refine K_skip ?_ | refine K_bend ?_ | refine K_block ?_ | refine K_exit ?_ | refine X_code ?_ | refine X_lend ?_ | refine X_here ?_ | refine X_on (by decide) ?_ | refine K_lendL ?_)))
      refine K_nil ⟨[(.sub 0 0 x.p, .cells [.sl (.sub c 3 y.p) 5 (l ++ [h]).length]), (.sub c 3 y.p, .arr 5 ((l ++ [h]).map Hz.av))], ⟨rfl, l ++ [h], _, _, by simp, .inr ⟨by simp, .sub c 3 y.p, rfl, rfl, fun e => by simp at e⟩, rfl⟩, ?_, ?_⟩
      · simp only [fa_cons, fa_nil, Mem.of_cons_at, Mem.of_nil_at, Mem.of_upds, Mem.of_putL, putLs, putL, List.cons_append, List.nil_append, List.append_nil, ↓reduceIte, eq_self, and_true, true_and, and_self, and_false, false_and, reduceCtorEq, Oid.sub.injEq, Nat.reduceEqDiff, hb2, hb3, Hz.av, List.length_append, List.map_append, List.length_cons, List.length_nil, List.map_cons, List.map_nil]
      · intro q hq
        simp only [List.mem_cons, List.not_mem_nil, or_false] at hq
        rcases hq with rfl | rfl
        · exact .inl ⟨_, List.mem_cons_self, rfl⟩
        · exact .inr (Oid.under_sub (Oid.under_refl _))
  · rintro pre L' m' hS ⟨_, l, v, L2, rfl, hr, rfl⟩ hL' hd hold hnm
    have hmx := hL' _ List.mem_cons_self
    have hne : ∀ q ∈ need, m' q.1 = some q.2 := fun q hq => hold q.1 q.2 (by rw [of_put_at, if_neg (hnb q hq)]; exact hcon q hq) (by simp only [List.mem_singleton]; rintro q' rfl e; exact hnb q hq e.symm)
    refine K_mem ([(.sub 0 0 x.p, .cells [v]), (.sub (0 + 1 + 1) 0 x.p, .dfr)] ++ (L2 ++ need)) (app_mem (B := [(.sub 0 0 x.p, .cells [v]), (.sub (0 + 1 + 1) 0 x.p, .dfr)]) ?_ (app_mem (fun q hq => hL' q (List.mem_cons_of_mem _ hq)) hne)) ?_
    · intro q hq
      simp only [List.mem_cons, List.not_mem_nil, or_false] at hq
      rcases hq with rfl | rfl
      · exact hmx
      · exact hd
    have hnid : ∀ id xs, L2 = [(id, .arr 5 xs)] → (∀ q ∈ need, ¬ q.1 = id) ∧ ¬ id = .sub 2 0 x.p := fun id xs e => by
      have h1 := hL' (id, .arr 5 xs) (by rw [e]; exact List.mem_cons_of_mem _ List.mem_cons_self)
      simp only at h1
      refine ⟨fun q hq e1 => ?_, fun e1 => ?_⟩
      · have h2 := hne q hq
        rw [e1, h1, Option.some.injEq] at h2
        exact hna q hq _ _ h2.symm
      · rw [e1, hd] at h1; cases h1
    have hrow2 : HRow l v L2 (Oid.under x.p) := by
      rcases hr with hr | ⟨hl, id, rfl, rfl, hid⟩
      · exact .inl hr
      · refine .inr ⟨hl, id, rfl, rfl, ?_⟩
        rcases hnm _ (List.mem_cons_of_mem _ List.mem_cons_self) with ⟨q', h1, h2⟩ | ⟨q', h1, h2⟩ | h
        · exact absurd h2 ((hnid id _ rfl).1 q' h1)
        · simp only [List.mem_singleton] at h1
          subst h1
          exact absurd h2.symm hid
        · exact Oid.under_sub h
    have hin : ∀ q ∈ L2 ++ need, ¬ q.1 = .sub 0 0 x.p ∧ ¬ q.1 = .sub 2 0 x.p ∧ Mem.of (L2 ++ need) q.1 = some q.2 := by
      have hn2 : ∀ q ∈ need, ¬ q.1 = .sub 2 0 x.p := fun q hq e => hnp q hq (e ▸ Oid.under_sub (Oid.under_refl _))
      rcases hr with ⟨_, _, rfl⟩ | ⟨_, id, _, rfl, hid⟩
      · exact fun q hq => ⟨hnb q hq, hn2 q hq, hcon q hq⟩
      · intro q hq
        rcases List.mem_append.1 hq with hq | hq
        · simp only [List.mem_singleton] at hq
          subst hq
          exact ⟨hid, (hnid id _ rfl).2, by rw [List.cons_append, Mem.of_cons_at, if_pos rfl]⟩
        · exact ⟨hnb q hq, hn2 q hq, by rw [List.cons_append, Mem.of_cons_at, if_neg ((hnid id _ rfl).1 q hq)]; exact hcon q hq⟩
    generalize hrest : L2 ++ need = rest
    (repeat (first | (with_reducible (first | refine K_seq ?_ | refine K_next ?_ | refine K_skip ?_ | refine K_bend ?_ | refine K_exit ?_ | refine X_code ?_ | refine X_lend ?_ | refine X_here ?_ | refine X_on (by decide) ?_ | refine K_lendL ?_)) | (refine K_ifT rfl rfl ?_) | (refine K_ifF rfl rfl ?_) | (refine K_ev nmd [] hng (by kernel_rfl) fun hf C S K hC1 hC hS hK => ?_; simp (disch := first | omega | assumption) only [go_sem, ↓reduceIte, Nat.reduceEqDiff, Nat.reduceAdd, Nat.reduceMul, Nat.reduceLT, Nat.reduceLeDiff, reduceCtorEq, Nat.reduceBEq, Int.reduceToNat, Int.reduceNeg]; refine hK ?_; clear hK hS hC hC1 K S C hf)))
    refine K_ret ?_
    subst hQ
    refine ⟨?_, _, sets L2, rfl, ⟨l, L2, hS, ?_, rfl⟩, ?_⟩
    · simp only [fa_cons, fa_nil, Mem.of_cons_at, Mem.of_nil_at, Mem.of_upds, Mem.of_putL, putLs, putL, List.cons_append, List.nil_append, List.append_nil, ↓reduceIte, eq_self, and_true, true_and, and_self, and_false, false_and, reduceCtorEq, Oid.sub.injEq, Nat.reduceEqDiff, of_put_at]
    · exact hrow2
    · intro i o h
      have : ∃ q ∈ L2 ++ need, q.1 = i ∧ q.2 = o := by
        by_cases hk : ∃ q ∈ sets L2, q.1 = i
        · obtain ⟨q', k1, k2, k3⟩ := upds_mem (m := Mem.of need) hk
          rw [k3] at h
          obtain ⟨q, h1, rfl⟩ := List.mem_map.1 k1
          exact ⟨q, List.mem_append_left _ h1, k2, Option.some.inj h⟩
        · rw [upds_nokey fun q hq e => hk ⟨q, hq, e⟩] at h
          obtain ⟨q, h1, h2, h3⟩ := Mem.of_mem h
          exact ⟨q, List.mem_append_right _ h1, h2, h3⟩
      obtain ⟨q, hq, rfl, rfl⟩ := this
      obtain ⟨a1, a2, a3⟩ := hin q hq
      show ((Mem.of ((Oid.sub 0 0 x.p, AObj.cells [v]) :: (Oid.sub 2 0 x.p, AObj.dfr) :: rest)).set (.sub 2 0 x.p) none) q.1 = some q.2
      subst hrest
      simp only [Mem.set, if_neg a2, Mem.of_cons_at, if_neg a1]
      exact a3
  · rintro pre L' m' cd _ ⟨h, _⟩
    cases h
end Go.Proofs.Ytpdmiojenhodlaa
