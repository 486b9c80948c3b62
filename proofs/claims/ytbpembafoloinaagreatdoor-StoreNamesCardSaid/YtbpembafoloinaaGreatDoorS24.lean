/- The names below a place, as an iterator over the map: what it yields, in any order. -/
import Derived.Test.YtbpembafoloinaaGreatDoorS14
import Derived.Test.YtbpembafoloinaaGreatDoorS23
import Derived.Test.YtbpembafoloinaaGreatDoorFwM
set_option linter.unusedVariables false
set_option linter.unusedSimpArgs false
namespace Go.Proofs.YtbpembafoloinaaGreatDoor
open Go Go.Ab
set_option maxRecDepth 20000
set_option maxHeartbeats 4000000
def keyS (e : ME) : Str := match e.key with
  | .str s => s
  | _ => []
/-- What stands right below a place. -/
def restOf (n k : Str) : Option Str := if preT k (n ++ [47]) = true ∧ ¬ 0 ≤ Lib.indexByte (k.drop (n.length + 1)) 47 then some (k.drop (n.length + 1)) else none
theorem of_app {l l' : List (Oid × AObj)} {i : Oid} (h : ∀ q ∈ l, ¬ i = q.1) : Mem.of (l ++ l') i = Mem.of l' i := by
  induction l with
  | nil => rfl
  | cons q l ih => rw [List.cons_append, Mem.of_cons_at, if_neg (h q List.mem_cons_self)]; exact ih fun q' hq' => h q' (List.mem_cons_of_mem _ hq')
theorem app_mem {m : Mem} {B L : List (Oid × AObj)} (h1 : ∀ q, q ∈ B → m q.1 = some q.2) (h2 : ∀ q, q ∈ L → m q.1 = some q.2) : ∀ q, q ∈ B ++ L → m q.1 = some q.2 :=
  fun q hq => (List.mem_append.1 hq).elim (h1 q) (h2 q)
theorem str_of_fits {k : AV} (h : keyFits [.ss] false k = true) : ∃ s, k = .str s := by
  cases k <;> simp [keyFits, AV.isAgg, AV.cells, fits, fitS] at h ⊢
theorem sub_len {es U : List ME} (hp : es.Pairwise fun e e' => e.born < e'.born) (hs : ∀ e ∈ U, e ∈ es) (hn : (U.map (·.born)).Nodup) : U.length ≤ es.length := by
  have h1 : U.Nodup := List.Pairwise.imp (fun h e => h (by rw [e])) (List.pairwise_map.1 hn)
  exact h1.length_le_of_subset fun e he => hs e he
theorem find_born {es : List ME} (hp : es.Pairwise fun e e' => e.born < e'.born) {e : ME} (he : e ∈ es) : es.find? (fun q => q.born == e.born) = some e := by
  induction es with
  | nil => cases he
  | cons a es ih =>
    have h2 := List.pairwise_cons.1 hp
    rcases List.mem_cons.1 he with rfl | he
    · simp
    · have := h2.1 e he
      rw [List.find?_cons_of_neg (by simp; omega)]
      exact ih h2.2 he
theorem below_seq (b1 b2 o : Oid) (n : Str) (hln : n.length ≤ 140737488355000) (es : List ME) (clock : Nat) (hkl : ∀ e ∈ es, (keyS e).length ≤ 140737488355328) (p : Oid) (hne1 : ¬ o = b1) (hne2 : ¬ o = b2) (hne3 : ¬ b2 = b1) (hb1 : ¬ Oid.under p b1) (hb2 : ¬ Oid.under p b2) (ho : ¬ Oid.under p o) :
    SeqND Tryz.prog 77 [.ptr b1 0, .ptr b2 0] p [(b1, .cells [.map o]), (b2, .cells [.str n]), (o, .map [.ss] false es clock)] 1 (fun pre xs => pre.length < es.length ∧ ∃ s : Str, xs = [.str s]) (fun b pre => b = true → ∃ U : List ME, U.Perm es ∧ pre = (U.filterMap fun e => restOf n (keyS e)).map fun s => [.str s]) := by
  intro l J L0 hJ hdis hnp hY
  refine callND_cons (by kernel_rfl) fun hcon => ?_
  refine fnND (n := 32) (rs := []) Tryz.func77 rfl rfl (by decide) rfl rfl rfl ?_; rintro x rfl hrd hng
  have hcL : ∀ q ∈ L0, Mem.of L0 q.1 = some q.2 := fun q hq => by
    have := hcon q (List.mem_append_right _ hq)
    rwa [of_app fun q' hq' => hdis q hq q' hq'] at this
  generalize hQ : DoneN Tryz.prog [] ([(b1, .cells [.map o]), (b2, .cells [.str n]), (o, .map [.ss] false es clock)] ++ L0) _ _ = Q
  refine T_wf fun hwf => ?_
  obtain ⟨hw1, hw2⟩ := hwf o [.ss] false es clock (by simp only [fa_cons, fa_nil, Mem.of_cons_at, Mem.of_nil_at, Mem.of_upds, Mem.of_putL, putLs, putL, List.cons_append, List.nil_append, List.append_nil, ↓reduceIte, eq_self, and_true, true_and, and_self, and_false, false_and, reduceCtorEq, Oid.sub.injEq, Nat.reduceEqDiff, hne1, hne2, hne3, Oid.sub_not_under hb1, Oid.sub_not_under hb2, Oid.sub_not_under ho, Oid.not_under_sub hb1, Oid.not_under_sub hb2, Oid.not_under_sub ho])
  have hstr : ∀ e ∈ es, e.key = .str (keyS e) := fun e he => by
    obtain ⟨s, hs⟩ := str_of_fits (hw1 e he).1
    simp only [keyS, hs]
  (repeat (with_reducible (first | refine K_seq ?_ | refine K_next ?_ | refine K_skip ?_ | refine K_bend ?_ | refine K_block ?_ | refine K_exit ?_ | refine X_code ?_ | refine X_lend ?_ | refine X_here ?_ | refine X_on (by decide) ?_ | refine K_lendL ?_)))
  refine K_ev nmd [] hng (by kernel_rfl) fun hf C S K hC1 hC hS hK => ?_; simp (disch := first | omega | assumption) only [go_sem, ↓reduceIte, Nat.reduceEqDiff, Nat.reduceAdd, Nat.reduceMul, Nat.reduceLT, Nat.reduceLeDiff, reduceCtorEq, Nat.reduceBEq, Int.reduceToNat, Int.reduceNeg, hne1, hne2, hne3, Oid.sub_not_under hb1, Oid.sub_not_under hb2, Oid.sub_not_under ho, Oid.not_under_sub hb1, Oid.not_under_sub hb2, Oid.not_under_sub ho, of_put_at]
  refine hK ?_; clear hK hS hC hC1 K S C hf
  (repeat (with_reducible (first | refine K_seq ?_ | refine K_next ?_ | refine K_skip ?_ | refine K_bend ?_ | refine K_block ?_ | refine K_exit ?_ | refine X_code ?_ | refine X_lend ?_ | refine X_here ?_ | refine X_on (by decide) ?_ | refine K_lendL ?_)))
  have hn0 : ∀ q ∈ L0, ¬ q.1 = b1 ∧ ¬ q.1 = b2 ∧ ¬ q.1 = o ∧ ¬ q.1 = .sub 0 1 x.p := fun q hq => ⟨hdis q hq _ List.mem_cons_self, hdis q hq _ (List.mem_cons_of_mem _ List.mem_cons_self), hdis q hq _ (List.mem_cons_of_mem _ (List.mem_cons_of_mem _ List.mem_cons_self)), fun e => hnp q hq (e ▸ Oid.under_sub (Oid.under_refl _))⟩
  refine K_mem ([(b1, .cells [.map o]), (b2, .cells [.str n]), (o, .map [.ss] false es clock), (.sub 0 1 x.p, .iter (some o) clock [] clock)] ++ L0) (app_mem ?_ ?_) ?_
  · simp only [fa_cons, fa_nil, Mem.of_cons_at, Mem.of_nil_at, Mem.of_upds, Mem.of_putL, putLs, putL, List.cons_append, List.nil_append, List.append_nil, ↓reduceIte, eq_self, and_true, true_and, and_self, and_false, false_and, reduceCtorEq, Oid.sub.injEq, Nat.reduceEqDiff, hne1, hne2, hne3, Oid.sub_not_under hb1, Oid.sub_not_under hb2, Oid.sub_not_under ho, Oid.not_under_sub hb1, Oid.not_under_sub hb2, Oid.not_under_sub ho, of_put_at]
  · intro q hq
    obtain ⟨a1, a2, a3, a4⟩ := hn0 q hq
    simp only [fa_cons, fa_nil, Mem.of_cons_at, Mem.of_nil_at, Mem.of_upds, Mem.of_putL, putLs, putL, List.cons_append, List.nil_append, List.append_nil, ↓reduceIte, eq_self, and_true, true_and, and_self, and_false, false_and, reduceCtorEq, Oid.sub.injEq, Nat.reduceEqDiff, of_put_at, a1, a2, a3, a4]
    exact hcL q hq
  refine K_loop [0, 1, 2, 8] (fun q s' => ∃ (c : Nat) (U : List ME) (L : List (Oid × AObj)), s' = ⟨[(0, .fn (.yield l) [] []), (1, .ptr b1 0), (2, .ptr b2 0), (8, .iter (.sub 0 1 x.p))], Mem.of ([(b1, .cells [.map o]), (b2, .cells [.str n]), (o, .map [.ss] false es clock), (.sub 0 1 x.p, .iter (some o) clock (U.map ME.born) clock)] ++ L), c, []⟩ ∧ 0 < c ∧ q = es.length - U.length ∧ (U.map ME.born).Nodup ∧ (∀ e ∈ U, e ∈ es) ∧ J true ((U.filterMap fun e => restOf n (keyS e)).map fun s => [.str s]) L ∧
    (∀ q ∈ L, Mem.of L q.1 = some q.2) ∧ ∀ q ∈ L, ((∃ q' ∈ L0, q'.1 = q.1) ∨ Oid.under x.p q.1) ∧ ¬ q.1 = b1 ∧ ¬ q.1 = b2 ∧ ¬ q.1 = o ∧ ¬ q.1 = .sub 0 1 x.p ∧ ∀ d j, c ≤ d → ¬ Oid.under (.sub d j x.p) q.1) es.length ⟨_, [], L0, rfl, by omega, rfl, List.nodup_nil, fun i h => (by cases h), hJ, hcL, fun q hq => ⟨.inl ⟨q, hq, rfl⟩, (hn0 q hq).1, (hn0 q hq).2.1, (hn0 q hq).2.2.1, (hn0 q hq).2.2.2, fun d j _ h => hnp q hq (Oid.under_sub h)⟩⟩ ?_
  rintro q s' ⟨c, U, L, rfl, hc, rfl, hnd, hlt, hj, hcc, hnm⟩
  have hst : U.map ME.born = [] ∨ es = [] ∨ ∃ e ∈ es, e.born < clock := by
    cases U with
    | nil => exact .inl rfl
    | cons e _ => exact .inr (.inr ⟨e, hlt e List.mem_cons_self, (hw1 e (hlt e List.mem_cons_self)).2⟩)
  (repeat (with_reducible (first | refine K_seq ?_ | refine K_next ?_ | refine K_skip ?_ | refine K_bend ?_ | refine K_block ?_ | refine K_exit ?_ | refine X_code ?_ | refine X_lend ?_ | refine X_here ?_ | refine X_on (by decide) ?_ | refine K_lendL ?_)))
  refine K_ev nmd [] hng (by kernel_rfl) fun hf C S K hC1 hC hS hK => ?_; simp (disch := first | omega | assumption) only [go_sem, ↓reduceIte, Nat.reduceEqDiff, Nat.reduceAdd, Nat.reduceMul, Nat.reduceLT, Nat.reduceLeDiff, reduceCtorEq, Nat.reduceBEq, Int.reduceToNat, Int.reduceNeg]
  refine hS _ _ _ (fun o' hd ho' => nd_next (it := .sub 0 1 x.p) (id := o) (since := clock) (ks := [.ss]) (ag := false) (clock := clock) ho' rfl hst) ?_ ?_ (fun _ _ h => h.elim)
  · simp only [fa_cons, fa_nil, Mem.of_cons_at, Mem.of_nil_at, Mem.of_upds, Mem.of_putL, putLs, putL, List.cons_append, List.nil_append, List.append_nil, ↓reduceIte, eq_self, and_true, true_and, and_self, and_false, false_and, reduceCtorEq, Oid.sub.injEq, Nat.reduceEqDiff, hne1, hne2, hne3, Oid.sub_not_under hb1, Oid.sub_not_under hb2, Oid.sub_not_under ho, Oid.not_under_sub hb1, Oid.not_under_sub hb2, Oid.not_under_sub ho]
  rintro val upd (⟨e, he, hns, rfl, rfl⟩ | ⟨hall, rfl, rfl⟩)
  · have hfi := find_born hw2 he
    have hk := hstr e he
    have hkl1 := hkl e he
    have hnd' : ((U ++ [e]).map ME.born).Nodup := by
      rw [List.map_append]
      exact List.nodup_append.2 ⟨hnd, by simp, fun a ha b hb' e' => by simp at hb'; subst hb'; subst e'; exact hns ha⟩
    have hlt' : ∀ j ∈ U ++ [e], j ∈ es := fun j hj => by
      rcases List.mem_append.1 hj with hj | hj
      · exact hlt j hj
      · simp at hj; subst hj; exact he
    have hle := sub_len hw2 hlt' hnd'
    have hfm : (U.filterMap fun e => restOf n (keyS e)).length ≤ U.length := List.length_filterMap_le ..
    have hrest : ((U ++ [e]).filterMap fun e => restOf n (keyS e)) = (U.filterMap fun e => restOf n (keyS e)) ++ (restOf n (keyS e)).toList := by
      rw [List.filterMap_append]; congr 1
    generalize keyS e = s at *
    simp (disch := first | omega | assumption) only [go_sem, ↓reduceIte, Nat.reduceEqDiff, Nat.reduceAdd, Nat.reduceMul, Nat.reduceLT, Nat.reduceLeDiff, reduceCtorEq, Nat.reduceBEq, Int.reduceToNat, Int.reduceNeg, hne1, hne2, hne3, Oid.sub_not_under hb1, Oid.sub_not_under hb2, Oid.sub_not_under ho, Oid.not_under_sub hb1, Oid.not_under_sub hb2, Oid.not_under_sub ho, of_put_at, hk]
    refine hK ?_; clear hK hS hC hC1 K S C hf
    (repeat (first | (with_reducible (first | refine K_seq ?_ | refine K_next ?_ | refine K_skip ?_ | refine K_bend ?_ | refine K_exit ?_ | refine X_code ?_ | refine X_lend ?_ | refine X_here ?_ | refine X_on (by decide) ?_ | refine K_lendL ?_)) | (refine K_ifT rfl rfl ?_) | (refine K_ifF rfl rfl ?_) | (refine K_ev nmd [] hng (by kernel_rfl) fun hf C S K hC1 hC hS hK => ?_; simp (disch := first | omega | assumption) only [go_sem, ↓reduceIte, Nat.reduceEqDiff, Nat.reduceAdd, Nat.reduceMul, Nat.reduceLT, Nat.reduceLeDiff, reduceCtorEq, Nat.reduceBEq, Int.reduceToNat, Int.reduceNeg]; refine hK ?_; clear hK hS hC hC1 K S C hf)))
    refine K_block ?_
    (repeat (first | (with_reducible (first | refine K_seq ?_ | refine K_next ?_ | refine K_skip ?_ | refine K_bend ?_ | refine K_exit ?_ | refine X_code ?_ | refine X_lend ?_ | refine X_here ?_ | refine X_on (by decide) ?_ | refine K_lendL ?_)) | (refine K_ifT rfl rfl ?_) | (refine K_ifF rfl rfl ?_) | (refine K_ev nmd [] hng (by kernel_rfl) fun hf C S K hC1 hC hS hK => ?_; simp (disch := first | omega | assumption) only [go_sem, ↓reduceIte, Nat.reduceEqDiff, Nat.reduceAdd, Nat.reduceMul, Nat.reduceLT, Nat.reduceLeDiff, reduceCtorEq, Nat.reduceBEq, Int.reduceToNat, Int.reduceNeg]; refine hK ?_; clear hK hS hC hC1 K S C hf)))
    refine K_ev nmd [] hng (by kernel_rfl) fun hf C S K hC1 hC hS hK => ?_; simp (disch := first | omega | assumption) only [go_sem, ↓reduceIte, Nat.reduceEqDiff, Nat.reduceAdd, Nat.reduceMul, Nat.reduceLT, Nat.reduceLeDiff, reduceCtorEq, Nat.reduceBEq, Int.reduceToNat, Int.reduceNeg, hne1, hne2, hne3, Oid.sub_not_under hb1, Oid.sub_not_under hb2, Oid.sub_not_under ho, Oid.not_under_sub hb1, Oid.not_under_sub hb2, Oid.not_under_sub ho, of_put_at, hfi, hk, List.getLast?_concat]
    refine hK ?_; clear hK hS hC hC1 K S C hf
    (repeat (first | (with_reducible (first | refine K_seq ?_ | refine K_next ?_ | refine K_skip ?_ | refine K_bend ?_ | refine K_exit ?_ | refine X_code ?_ | refine X_lend ?_ | refine X_here ?_ | refine X_on (by decide) ?_ | refine K_lendL ?_)) | (refine K_ifT rfl rfl ?_) | (refine K_ifF rfl rfl ?_) | (refine K_ev nmd [] hng (by kernel_rfl) fun hf C S K hC1 hC hS hK => ?_; simp (disch := first | omega | assumption) only [go_sem, ↓reduceIte, Nat.reduceEqDiff, Nat.reduceAdd, Nat.reduceMul, Nat.reduceLT, Nat.reduceLeDiff, reduceCtorEq, Nat.reduceBEq, Int.reduceToNat, Int.reduceNeg]; refine hK ?_; clear hK hS hC hC1 K S C hf)))
    refine K_ev nmd [] hng (by kernel_rfl) fun hf C S K hC1 hC hS hK => ?_; simp (disch := first | omega | assumption) only [go_sem, ↓reduceIte, Nat.reduceEqDiff, Nat.reduceAdd, Nat.reduceMul, Nat.reduceLT, Nat.reduceLeDiff, reduceCtorEq, Nat.reduceBEq, Int.reduceToNat, Int.reduceNeg, hne1, hne2, hne3, Oid.sub_not_under hb1, Oid.sub_not_under hb2, Oid.sub_not_under ho, Oid.not_under_sub hb1, Oid.not_under_sub hb2, Oid.not_under_sub ho, of_put_at]
    refine hC1 _ (cutPrefix_ok s (n ++ [47]) (by omega) (by simp only [List.length_append, List.length_cons, List.length_nil]; omega) _) (by simp (disch := first | omega | assumption) only [go_sem, ↓reduceIte, Nat.reduceEqDiff, Nat.reduceAdd, Nat.reduceMul, Nat.reduceLT, Nat.reduceLeDiff, reduceCtorEq, Nat.reduceBEq, Int.reduceToNat, Int.reduceNeg]) ?_
    simp (disch := first | omega | assumption) only [go_sem, ↓reduceIte, Nat.reduceEqDiff, Nat.reduceAdd, Nat.reduceMul, Nat.reduceLT, Nat.reduceLeDiff, reduceCtorEq, Nat.reduceBEq, Int.reduceToNat, Int.reduceNeg]
    refine hK ?_; clear hK hS hC hC1 K S C hf
    have hnm2 : ∀ q ∈ L, ((∃ q' ∈ L0, q'.1 = q.1) ∨ Oid.under x.p q.1) ∧ ¬ q.1 = b1 ∧ ¬ q.1 = b2 ∧ ¬ q.1 = o ∧ ¬ q.1 = .sub 0 1 x.p ∧ ∀ d j, c + 4 ≤ d → ¬ Oid.under (.sub d j x.p) q.1 := fun q hq => by
      obtain ⟨a0, a1, a2, a3, a4, a5⟩ := hnm q hq
      exact ⟨a0, a1, a2, a3, a4, fun d j hd => a5 d j (by omega)⟩
    have hnL : ∀ q ∈ L, ∀ q' ∈ ([(b1, .cells [.map o]), (b2, .cells [.str n]), (o, .map [.ss] false es clock), (.sub 0 1 x.p, .iter (some o) clock (U.map ME.born ++ [e.born]) clock)] : List (Oid × AObj)), ¬ q.1 = q'.1 := fun q hq => by
      obtain ⟨_, a1, a2, a3, a4, a5⟩ := hnm q hq
      simp only [fa_cons, fa_nil, Mem.of_cons_at, Mem.of_nil_at, Mem.of_upds, Mem.of_putL, putLs, putL, List.cons_append, List.nil_append, List.append_nil, ↓reduceIte, eq_self, and_true, true_and, and_self, and_false, false_and, reduceCtorEq, Oid.sub.injEq, Nat.reduceEqDiff, a1, a2, a3, a4, not_false_eq_true]
    have hBm : ∀ q ∈ ([(b1, .cells [.map o]), (b2, .cells [.str n]), (o, .map [.ss] false es clock), (.sub 0 1 x.p, .iter (some o) clock (U.map ME.born ++ [e.born]) clock)] : List (Oid × AObj)), Mem.of ([(b1, .cells [.map o]), (b2, .cells [.str n]), (o, .map [.ss] false es clock), (.sub 0 1 x.p, .iter (some o) clock (U.map ME.born ++ [e.born]) clock)] ++ L) q.1 = some q.2 := by
      simp only [fa_cons, fa_nil, Mem.of_cons_at, Mem.of_nil_at, Mem.of_upds, Mem.of_putL, putLs, putL, List.cons_append, List.nil_append, List.append_nil, ↓reduceIte, eq_self, and_true, true_and, and_self, and_false, false_and, reduceCtorEq, Oid.sub.injEq, Nat.reduceEqDiff, hne1, hne2, hne3, Oid.sub_not_under hb1, Oid.sub_not_under hb2, Oid.sub_not_under ho, Oid.not_under_sub hb1, Oid.not_under_sub hb2, Oid.not_under_sub ho]
    have hall := cons_app hBm hnL hcc
    have hmm : (U ++ [e]).map ME.born = U.map ME.born ++ [e.born] := by simp
    have hlen2 : (U ++ [e]).length = U.length + 1 := by simp
    by_cases hp : preT s (n ++ [47]) = true
    · by_cases hq : 0 ≤ Lib.indexByte (s.drop (n.length + 1)) 47
      · have hro : restOf n s = none := if_neg fun h => h.2 hq
        (repeat (first | (with_reducible (first | refine K_seq ?_ | refine K_next ?_ | refine K_skip ?_ | refine K_bend ?_ | refine K_exit ?_ | refine X_code ?_ | refine X_lend ?_ | refine X_here ?_ | refine X_on (by decide) ?_ | refine K_lendL ?_)) | (refine K_ifT rfl rfl ?_) | (refine K_ifF rfl rfl ?_) | (refine K_ev nmd [] hng (by kernel_rfl) fun hf C S K hC1 hC hS hK => ?_; simp (disch := first | omega | assumption) only [go_sem, ↓reduceIte, Nat.reduceEqDiff, Nat.reduceAdd, Nat.reduceMul, Nat.reduceLT, Nat.reduceLeDiff, reduceCtorEq, Nat.reduceBEq, Int.reduceToNat, Int.reduceNeg]; refine hK ?_; clear hK hS hC hC1 K S C hf)))
        refine K_ev nmd [(1, 21), (6, 26)] hng (by kernel_rfl) fun hf C S K hC1 hC hS hK => ?_; simp (disch := first | omega | assumption) only [go_sem, ↓reduceIte, Nat.reduceEqDiff, Nat.reduceAdd, Nat.reduceMul, Nat.reduceLT, Nat.reduceLeDiff, reduceCtorEq, Nat.reduceBEq, Int.reduceToNat, Int.reduceNeg, hp]
        refine hC1 _ (contains_ok (s.drop (n.length + 1)) 47 _) (by simp (disch := first | omega | assumption) only [go_sem, ↓reduceIte, Nat.reduceEqDiff, Nat.reduceAdd, Nat.reduceMul, Nat.reduceLT, Nat.reduceLeDiff, reduceCtorEq, Nat.reduceBEq, Int.reduceToNat, Int.reduceNeg]) ?_
        simp (disch := first | omega | assumption) only [go_sem, ↓reduceIte, Nat.reduceEqDiff, Nat.reduceAdd, Nat.reduceMul, Nat.reduceLT, Nat.reduceLeDiff, reduceCtorEq, Nat.reduceBEq, Int.reduceToNat, Int.reduceNeg, hq]
        refine hK ?_; clear hK hS hC hC1 K S C hf
        (repeat (first | (with_reducible (first | refine K_seq ?_ | refine K_next ?_ | refine K_skip ?_ | refine K_bend ?_ | refine K_block ?_ | refine K_exit ?_ | refine X_code ?_ | refine X_lend ?_ | refine X_here ?_ | refine X_on (by decide) ?_ | refine K_lendL ?_)) | (refine K_ifT rfl rfl ?_) | (refine K_ifF rfl rfl ?_) | (refine K_ev nmd [] hng (by kernel_rfl) fun hf C S K hC1 hC hS hK => ?_; simp (disch := first | omega | assumption) only [go_sem, ↓reduceIte, Nat.reduceEqDiff, Nat.reduceAdd, Nat.reduceMul, Nat.reduceLT, Nat.reduceLeDiff, reduceCtorEq, Nat.reduceBEq, Int.reduceToNat, Int.reduceNeg]; refine hK ?_; clear hK hS hC hC1 K S C hf)))
        refine ⟨_, Mem.of ([(b1, .cells [.map o]), (b2, .cells [.str n]), (o, .map [.ss] false es clock), (.sub 0 1 x.p, .iter (some o) clock (U.map ME.born ++ [e.born]) clock)] ++ L), ?_, mem_sub hall, c + 1 + 1 + 1 + 1, U ++ [e], L, by rw [hmm]; rfl, by omega, rfl, hnd', hlt', ?_, hcc, hnm2⟩
        · rw [hlen2] at hle ⊢; omega
        · rw [hrest, hro]; simpa using hj
      · have hro : restOf n s = some (s.drop (n.length + 1)) := if_pos ⟨hp, hq⟩
        (repeat (first | (with_reducible (first | refine K_seq ?_ | refine K_next ?_ | refine K_skip ?_ | refine K_bend ?_ | refine K_exit ?_ | refine X_code ?_ | refine X_lend ?_ | refine X_here ?_ | refine X_on (by decide) ?_ | refine K_lendL ?_)) | (refine K_ifT rfl rfl ?_) | (refine K_ifF rfl rfl ?_) | (refine K_ev nmd [] hng (by kernel_rfl) fun hf C S K hC1 hC hS hK => ?_; simp (disch := first | omega | assumption) only [go_sem, ↓reduceIte, Nat.reduceEqDiff, Nat.reduceAdd, Nat.reduceMul, Nat.reduceLT, Nat.reduceLeDiff, reduceCtorEq, Nat.reduceBEq, Int.reduceToNat, Int.reduceNeg]; refine hK ?_; clear hK hS hC hC1 K S C hf)))
        refine K_ev nmd [(1, 21), (6, 26)] hng (by kernel_rfl) fun hf C S K hC1 hC hS hK => ?_; simp (disch := first | omega | assumption) only [go_sem, ↓reduceIte, Nat.reduceEqDiff, Nat.reduceAdd, Nat.reduceMul, Nat.reduceLT, Nat.reduceLeDiff, reduceCtorEq, Nat.reduceBEq, Int.reduceToNat, Int.reduceNeg, hp]
        refine hC1 _ (contains_ok (s.drop (n.length + 1)) 47 _) (by simp (disch := first | omega | assumption) only [go_sem, ↓reduceIte, Nat.reduceEqDiff, Nat.reduceAdd, Nat.reduceMul, Nat.reduceLT, Nat.reduceLeDiff, reduceCtorEq, Nat.reduceBEq, Int.reduceToNat, Int.reduceNeg]) ?_
        simp (disch := first | omega | assumption) only [go_sem, ↓reduceIte, Nat.reduceEqDiff, Nat.reduceAdd, Nat.reduceMul, Nat.reduceLT, Nat.reduceLeDiff, reduceCtorEq, Nat.reduceBEq, Int.reduceToNat, Int.reduceNeg, hq]
        generalize hr : s.drop (n.length + 1) = r at *
        refine hS _ _ _ (fun o' hd ho' => eff_yield ho' rfl (hY _ [.str r] L (.sub (c + 1 + 1 + 1) 9 x.p) hj rfl ⟨by rw [List.length_map]; rw [hlen2] at hle; omega, r, rfl⟩)) (fun q hq => hall q (List.mem_append_right _ hq)) ?_ (fun _ _ h => h.elim)
        rintro val upd ⟨b, L', rfl, hj', hU⟩
        have hym := yield_mem hU (fun q hq => hall q (List.mem_append_right _ hq)) hBm ?_
        rotate_left
        · intro q hq
          refine ⟨fun q' hq' => hnL q' hq' q hq, fun hu => ?_⟩
          simp only [List.mem_cons, List.not_mem_nil, or_false] at hq
          rcases hq with rfl | rfl | rfl | rfl
          · exact hb1 (Oid.under_sub hu)
          · exact hb2 (Oid.under_sub hu)
          · exact ho (Oid.under_sub hu)
          · have := (Oid.apart hu (Oid.under_refl _)).1; omega
        have hcl : ∀ q ∈ L', Mem.of L' q.1 = some q.2 := fun q hq => by
          obtain ⟨o', ho'⟩ := Mem.of_some hq
          obtain ⟨q', h1, h2, h3⟩ := Mem.of_mem ho'
          have h4 := hym q (List.mem_append_right _ hq)
          have h5 := hym q' (List.mem_append_right _ h1)
          rw [h2, h4, h3] at h5
          rw [ho']; exact h5.symm
        simp (disch := first | omega | assumption) only [go_sem, ↓reduceIte, Nat.reduceEqDiff, Nat.reduceAdd, Nat.reduceMul, Nat.reduceLT, Nat.reduceLeDiff, reduceCtorEq, Nat.reduceBEq, Int.reduceToNat, Int.reduceNeg]
        refine hK ?_; clear hK hS hC hC1 K S C hf
        (repeat (first | (with_reducible (first | refine K_seq ?_ | refine K_next ?_ | refine K_skip ?_ | refine K_bend ?_ | refine K_exit ?_ | refine X_code ?_ | refine X_lend ?_ | refine X_here ?_ | refine X_on (by decide) ?_ | refine K_lendL ?_)) | (refine K_ifT rfl rfl ?_) | (refine K_ifF rfl rfl ?_) | (refine K_ev nmd [] hng (by kernel_rfl) fun hf C S K hC1 hC hS hK => ?_; simp (disch := first | omega | assumption) only [go_sem, ↓reduceIte, Nat.reduceEqDiff, Nat.reduceAdd, Nat.reduceMul, Nat.reduceLT, Nat.reduceLeDiff, reduceCtorEq, Nat.reduceBEq, Int.reduceToNat, Int.reduceNeg]; refine hK ?_; clear hK hS hC hC1 K S C hf)))
        refine K_mem ([(b1, .cells [.map o]), (b2, .cells [.str n]), (o, .map [.ss] false es clock), (.sub 0 1 x.p, .iter (some o) clock (U.map ME.born ++ [e.born]) clock)] ++ L') (by rw [← Mem.of_upds]; exact hym) ?_
        have hnm' : ∀ q ∈ L', ((∃ q' ∈ L0, q'.1 = q.1) ∨ Oid.under x.p q.1) ∧ ¬ q.1 = b1 ∧ ¬ q.1 = b2 ∧ ¬ q.1 = o ∧ ¬ q.1 = .sub 0 1 x.p ∧ ∀ d j, c + 1 + 1 + 1 + 1 ≤ d → ¬ Oid.under (.sub d j x.p) q.1 := fun q hq => by
          rcases hU.nam q hq with ⟨q', h1, h2⟩ | h1
          · obtain ⟨a0, a1, a2, a3, a4, a5⟩ := hnm q' h1
            rw [h2] at a0 a1 a2 a3 a4 a5
            exact ⟨a0, a1, a2, a3, a4, fun d j hd => a5 d j (by omega)⟩
          · have hu := Oid.under_sub h1
            refine ⟨.inr hu, fun e => hb1 (e ▸ hu), fun e => hb2 (e ▸ hu), fun e => ho (e ▸ hu), fun e => ?_, fun d j hd h2 => ?_⟩
            · rw [e] at h1; have := (Oid.apart h1 (Oid.under_refl _)).1; omega
            · have := (Oid.apart h1 h2).1; omega
        have hmap : ((U ++ [e]).filterMap fun e => restOf n (keyS e)).map (fun s => [AV.str s]) = ((U.filterMap fun e => restOf n (keyS e)).map fun s => [AV.str s]) ++ [[.str r]] := by rw [hrest, hro]; simp
        have hnL' : ∀ q ∈ L', ∀ q' ∈ ([(b1, .cells [.map o]), (b2, .cells [.str n]), (o, .map [.ss] false es clock), (.sub 0 1 x.p, .iter (some o) clock (U.map ME.born ++ [e.born]) clock)] : List (Oid × AObj)), ¬ q.1 = q'.1 := fun q hq => by
          obtain ⟨_, a1, a2, a3, a4, a5⟩ := hnm' q hq
          simp only [fa_cons, fa_nil, Mem.of_cons_at, Mem.of_nil_at, Mem.of_upds, Mem.of_putL, putLs, putL, List.cons_append, List.nil_append, List.append_nil, ↓reduceIte, eq_self, and_true, true_and, and_self, and_false, false_and, reduceCtorEq, Oid.sub.injEq, Nat.reduceEqDiff, a1, a2, a3, a4, not_false_eq_true]
        have hall' := cons_app (L := L') (B := [(b1, .cells [.map o]), (b2, .cells [.str n]), (o, .map [.ss] false es clock), (.sub 0 1 x.p, .iter (some o) clock (U.map ME.born ++ [e.born]) clock)]) (fun q hq => by
          have := hym q (List.mem_append_left _ hq)
          revert q
          simp only [fa_cons, fa_nil, Mem.of_cons_at, Mem.of_nil_at, Mem.of_upds, Mem.of_putL, putLs, putL, List.cons_append, List.nil_append, List.append_nil, ↓reduceIte, eq_self, and_true, true_and, and_self, and_false, false_and, reduceCtorEq, Oid.sub.injEq, Nat.reduceEqDiff, hne1, hne2, hne3, Oid.sub_not_under hb1, Oid.sub_not_under hb2, Oid.sub_not_under ho, Oid.not_under_sub hb1, Oid.not_under_sub hb2, Oid.not_under_sub ho, implies_true]) hnL' hcl
        cases b with
        | true =>
          (repeat (first | (with_reducible (first | refine K_seq ?_ | refine K_next ?_ | refine K_skip ?_ | refine K_bend ?_ | refine K_block ?_ | refine K_exit ?_ | refine X_code ?_ | refine X_lend ?_ | refine X_here ?_ | refine X_on (by decide) ?_ | refine K_lendL ?_)) | (refine K_ifT rfl rfl ?_) | (refine K_ifF rfl rfl ?_) | (refine K_ev nmd [] hng (by kernel_rfl) fun hf C S K hC1 hC hS hK => ?_; simp (disch := first | omega | assumption) only [go_sem, ↓reduceIte, Nat.reduceEqDiff, Nat.reduceAdd, Nat.reduceMul, Nat.reduceLT, Nat.reduceLeDiff, reduceCtorEq, Nat.reduceBEq, Int.reduceToNat, Int.reduceNeg]; refine hK ?_; clear hK hS hC hC1 K S C hf)))
          rw [← hmap] at hj'
          refine ⟨_, Mem.of ([(b1, .cells [.map o]), (b2, .cells [.str n]), (o, .map [.ss] false es clock), (.sub 0 1 x.p, .iter (some o) clock (U.map ME.born ++ [e.born]) clock)] ++ L'), ?_, mem_sub hall', c + 1 + 1 + 1 + 1, U ++ [e], L', by rw [hmm]; rfl, by omega, rfl, hnd', hlt', hj', hcl, hnm'⟩
          rw [hlen2] at hle ⊢; omega
        | false =>
          refine K_ifT rfl rfl (K_ret ?_)
          subst hQ
          have hsw := swap_of (L := [(b1, .cells [.map o]), (b2, .cells [.str n]), (o, .map [.ss] false es clock)] ++ L0) (L' := [(b1, .cells [.map o]), (b2, .cells [.str n]), (o, .map [.ss] false es clock)] ++ L') (m := Mem.of ([(b1, .cells [.map o]), (b2, .cells [.str n]), (o, .map [.ss] false es clock), (.sub 0 1 x.p, .iter (some o) clock (U.map ME.born ++ [e.born]) clock)] ++ L')) (sp := Oid.under x.p) (fun q hq => hall' q (by
              rcases List.mem_append.1 hq with hq | hq
              · exact List.mem_append_left _ (by simp only [List.mem_cons, List.not_mem_nil, or_false] at hq ⊢; rcases hq with h | h | h <;> simp [h])
              · exact List.mem_append_right _ hq)) (fun q hq => by
              rcases List.mem_append.1 hq with hq | hq
              · exact .inl ⟨q, List.mem_append_left _ hq, rfl⟩
              · rcases (hnm' q hq).1 with ⟨q', h1, h2⟩ | h
                · exact .inl ⟨q', List.mem_append_right _ h1, h2⟩
                · exact .inr h)
          exact done_ret _ _ rfl ⟨false, _, L', fun h => (by cases h), hj', hsw.1⟩ hsw.2
    · have hro : restOf n s = none := if_neg fun h => hp h.1
      rw [Bool.not_eq_true] at hp
      (repeat (first | (with_reducible (first | refine K_seq ?_ | refine K_next ?_ | refine K_skip ?_ | refine K_bend ?_ | refine K_exit ?_ | refine X_code ?_ | refine X_lend ?_ | refine X_here ?_ | refine X_on (by decide) ?_ | refine K_lendL ?_)) | (refine K_ifT rfl rfl ?_) | (refine K_ifF rfl rfl ?_) | (refine K_ev nmd [] hng (by kernel_rfl) fun hf C S K hC1 hC hS hK => ?_; simp (disch := first | omega | assumption) only [go_sem, ↓reduceIte, Nat.reduceEqDiff, Nat.reduceAdd, Nat.reduceMul, Nat.reduceLT, Nat.reduceLeDiff, reduceCtorEq, Nat.reduceBEq, Int.reduceToNat, Int.reduceNeg]; refine hK ?_; clear hK hS hC hC1 K S C hf)))
      refine K_ev nmd [(1, 21), (6, 26)] hng (by kernel_rfl) fun hf C S K hC1 hC hS hK => ?_; simp (disch := first | omega | assumption) only [go_sem, ↓reduceIte, Nat.reduceEqDiff, Nat.reduceAdd, Nat.reduceMul, Nat.reduceLT, Nat.reduceLeDiff, reduceCtorEq, Nat.reduceBEq, Int.reduceToNat, Int.reduceNeg, hp]
      refine hK ?_; clear hK hS hC hC1 K S C hf
      (repeat (first | (with_reducible (first | refine K_seq ?_ | refine K_next ?_ | refine K_skip ?_ | refine K_bend ?_ | refine K_block ?_ | refine K_exit ?_ | refine X_code ?_ | refine X_lend ?_ | refine X_here ?_ | refine X_on (by decide) ?_ | refine K_lendL ?_)) | (refine K_ifT rfl rfl ?_) | (refine K_ifF rfl rfl ?_) | (refine K_ev nmd [] hng (by kernel_rfl) fun hf C S K hC1 hC hS hK => ?_; simp (disch := first | omega | assumption) only [go_sem, ↓reduceIte, Nat.reduceEqDiff, Nat.reduceAdd, Nat.reduceMul, Nat.reduceLT, Nat.reduceLeDiff, reduceCtorEq, Nat.reduceBEq, Int.reduceToNat, Int.reduceNeg]; refine hK ?_; clear hK hS hC hC1 K S C hf)))
      refine ⟨_, Mem.of ([(b1, .cells [.map o]), (b2, .cells [.str n]), (o, .map [.ss] false es clock), (.sub 0 1 x.p, .iter (some o) clock (U.map ME.born ++ [e.born]) clock)] ++ L), ?_, mem_sub hall, c + 1 + 1 + 1 + 1, U ++ [e], L, by rw [hmm]; rfl, by omega, rfl, hnd', hlt', ?_, hcc, hnm2⟩
      · rw [hlen2] at hle ⊢; omega
      · rw [hrest, hro]; simpa using hj
  · simp (disch := first | omega | assumption) only [go_sem, ↓reduceIte, Nat.reduceEqDiff, Nat.reduceAdd, Nat.reduceMul, Nat.reduceLT, Nat.reduceLeDiff, reduceCtorEq, Nat.reduceBEq, Int.reduceToNat, Int.reduceNeg]
    refine hK ?_; clear hK hS hC hC1 K S C hf
    (repeat (with_reducible (first | refine K_seq ?_ | refine K_next ?_ | refine K_skip ?_ | refine K_bend ?_ | refine K_block ?_ | refine K_exit ?_ | refine X_code ?_ | refine X_lend ?_ | refine X_here ?_ | refine X_on (by decide) ?_ | refine K_lendL ?_)))
    subst hQ
    have hfull := seen_perm hw2 hlt hnd fun e he => hall e he (hw1 e he).2
    have hnL : ∀ q ∈ L, ∀ q' ∈ ([(b1, .cells [.map o]), (b2, .cells [.str n]), (o, .map [.ss] false es clock), (.sub 0 1 x.p, .iter (some o) clock (U.map ME.born) clock)] : List (Oid × AObj)), ¬ q.1 = q'.1 := fun q hq => by
      obtain ⟨_, a1, a2, a3, a4, a5⟩ := hnm q hq
      simp only [fa_cons, fa_nil, Mem.of_cons_at, Mem.of_nil_at, Mem.of_upds, Mem.of_putL, putLs, putL, List.cons_append, List.nil_append, List.append_nil, ↓reduceIte, eq_self, and_true, true_and, and_self, and_false, false_and, reduceCtorEq, Oid.sub.injEq, Nat.reduceEqDiff, a1, a2, a3, a4, not_false_eq_true]
    have hall' := cons_app (L := L) (B := [(b1, .cells [.map o]), (b2, .cells [.str n]), (o, .map [.ss] false es clock), (.sub 0 1 x.p, .iter (some o) clock (U.map ME.born) clock)]) (by
      simp only [fa_cons, fa_nil, Mem.of_cons_at, Mem.of_nil_at, Mem.of_upds, Mem.of_putL, putLs, putL, List.cons_append, List.nil_append, List.append_nil, ↓reduceIte, eq_self, and_true, true_and, and_self, and_false, false_and, reduceCtorEq, Oid.sub.injEq, Nat.reduceEqDiff, hne1, hne2, hne3, Oid.sub_not_under hb1, Oid.sub_not_under hb2, Oid.sub_not_under ho, Oid.not_under_sub hb1, Oid.not_under_sub hb2, Oid.not_under_sub ho]) hnL hcc
    have hsw := swap_of (L := [(b1, .cells [.map o]), (b2, .cells [.str n]), (o, .map [.ss] false es clock)] ++ L0) (L' := [(b1, .cells [.map o]), (b2, .cells [.str n]), (o, .map [.ss] false es clock)] ++ L) (m := Mem.of ([(b1, .cells [.map o]), (b2, .cells [.str n]), (o, .map [.ss] false es clock), (.sub 0 1 x.p, .iter (some o) clock (U.map ME.born) clock)] ++ L)) (sp := Oid.under x.p) (fun q hq => hall' q (by
          rcases List.mem_append.1 hq with hq | hq
          · exact List.mem_append_left _ (by simp only [List.mem_cons, List.not_mem_nil, or_false] at hq ⊢; rcases hq with h | h | h <;> simp [h])
          · exact List.mem_append_right _ hq)) (fun q hq => by
          rcases List.mem_append.1 hq with hq | hq
          · exact .inl ⟨q, List.mem_append_left _ hq, rfl⟩
          · rcases (hnm q hq).1 with ⟨q', h1, h2⟩ | h
            · exact .inl ⟨q', List.mem_append_right _ h1, h2⟩
            · exact .inr h)
    refine K_ifF rfl rfl ?_
    (repeat (with_reducible (first | refine K_seq ?_ | refine K_next ?_ | refine K_skip ?_ | refine K_bend ?_ | refine K_block ?_ | refine K_exit ?_ | refine X_code ?_ | refine X_lend ?_ | refine X_here ?_ | refine X_on (by decide) ?_ | refine K_lendL ?_)))
    refine K_nil ?_
    exact done_normal _ _ rfl ⟨true, _, L, fun _ => ⟨U, hfull, rfl⟩, hj, hsw.1⟩ hsw.2
end Go.Proofs.YtbpembafoloinaaGreatDoor
