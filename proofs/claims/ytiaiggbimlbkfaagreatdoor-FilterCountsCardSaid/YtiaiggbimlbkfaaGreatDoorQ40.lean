/- Filter: Join and Count of the library; wc of the program. -/
import Derived.Test.YtiaiggbimlbkfaaGreatDoorQ39
import Derived.Test.YtiaiggbimlbkfaaGreatDoorQ16
import Derived.Test.YtiaiggbimlbkfaaGreatDoorQ17
set_option linter.unusedVariables false
set_option linter.unusedSimpArgs false
namespace Go.Proofs.YtiaiggbimlbkfaaGreatDoor
open Go Go.Ab Go.RowKit
set_option maxRecDepth 20000
set_option maxHeartbeats 4000000
theorem words_ok (l : Str) (hl : l.length ≤ 4000000000) (p : Oid) (hp : p.mono = false) : CallOK Tryz.prog 60 [.str l] (Oid.under p) ⟨[], .int .i64 (wordsB true l : Nat), []⟩ :=
  callOK_below (by kernel_rfl) hp fun g args w ha _ => by
    obtain ⟨v, rfl, hv⟩ := ha.one
    obtain ⟨b, rfl, hb⟩ := hv.str_inv
    rw [str_ba hb]
    refine (words_run l hl w).mono ?_
    rintro e w' ⟨rfl, pos, rfl⟩
    exact ⟨_, rfl, .int _ _, (Below.refl _ _).alloc (Nat.le_refl _) _⟩
theorem count_ok (l : Str) (c : UInt8) (sp : Oid → Prop) : CallOK Tryz.prog 59 [.str l, .str [c]] sp ⟨[], .int .i64 (l.count c : Nat), []⟩ :=
  callOK_same (by kernel_rfl) fun g args w ha _ => by
    obtain ⟨v, u, rfl, hv, hu⟩ := ha.two
    obtain ⟨b, rfl, hb⟩ := hv.str_inv
    obtain ⟨d, rfl, hd⟩ := hu.str_inv
    rw [str_ba hb, str_ba hd]
    refine (Tryz.strings_Count_one ⟨l.toArray⟩ c w).mono ?_
    rintro e w' ⟨rfl, rfl⟩
    exact ⟨_, rfl, .int _ _, rfl⟩
theorem join_ok (xs : List Str) (sep : Str) (hn : xs.length ≤ 140737488355328) (hlen : (Lib.join xs sep).length ≤ 140737488355328) (p : Oid) (hp : p.mono = false) :
    CallOK Tryz.prog 53 [.list 1 (xs.map AV.str), .str sep] (Oid.under p) ⟨[], .str (Lib.join xs sep), []⟩ :=
  callOK_below (by kernel_rfl) hp fun g args w ha ht => by
    obtain ⟨v, u, rfl, hv, hu⟩ := ha.two
    obtain ⟨sb, rfl, hsb⟩ := hu.str_inv
    rw [str_ba hsb]
    have none : ∀ a cap, xs = [] → Calls Tryz.prog 53 #[.slice a 0 cap, .string ⟨sep.toArray⟩] w fun en w' => ∃ v, en = .returned v ∧ VR g (.str (Lib.join xs sep)) v ∧ Below w.heap.size w w' := fun a cap h => by
      subst h
      refine (Tryz.strings_Join_none a cap ⟨sep.toArray⟩ w).mono ?_
      rintro e w' ⟨rfl, rfl⟩
      exact ⟨_, rfl, .str _ _ rfl, Below.refl _ _⟩
    rcases hv.list_inv with ⟨h0, h⟩ | ⟨b, o, cap, cs, rfl, hcap, _, hc, hcv⟩
    · have hx : xs = [] := List.map_eq_nil_iff.1 h0
      rcases h with rfl | ⟨a, cap, rfl⟩
      · exact none _ _ hx
      · exact none _ _ hx
    · rw [List.length_map] at hcap hc hcv
      by_cases hx : xs = []
      · have := none (some ⟨b, o, Option.none⟩) cap hx
        rw [List.length_map, hx]
        rw [hx] at this
        exact this
      · have hcell : ∀ j, j < xs.length → w.cell? ⟨b, o + j, Option.none⟩ = some (.string ⟨(xs.getD j []).toArray⟩) := fun j hj => by
          have h1 := hc j 0 hj (by omega)
          have h2 := hcv j 0 hj (by omega)
          have hgd : (xs.map AV.str).getD j .undef = .str (xs.getD j []) := by simp [List.getD_eq_getElem?_getD, List.getElem?_map, List.getElem?_eq_getElem hj]
          rw [hgd] at h2
          simp only [AV.cells, List.getD_cons_zero] at h2
          rw [Nat.mul_one, Nat.add_zero] at h1
          have h3 := ht.com _ _ _ h1
          rw [str_enc.1 h2] at h3
          exact h3
        have hlt : b < w.heap.size := block_lt (hcell 0 (List.length_pos_iff.2 hx))
        have hmap : (xs.map fun t => (⟨t.toArray⟩ : ByteArray)).map (·.data.toList) = xs := by rw [List.map_map]; exact List.map_id'' (fun _ => rfl) xs
        have key := Tryz.strings_Join b o cap (xs.map fun t => (⟨t.toArray⟩ : ByteArray)) ⟨sep.toArray⟩ w (fun j y hy => by
            rw [List.getElem?_map] at hy
            cases hj : xs[j]? with
            | none => rw [hj] at hy; cases hy
            | some t =>
              rw [hj] at hy
              simp only [Option.map_some, Option.some.injEq] at hy
              have hjl := (List.getElem?_eq_some_iff.1 hj).1
              have h5 := hcell j hjl
              rw [List.getD_eq_getElem?_getD, hj] at h5
              rw [← hy]; exact h5) hlt (by rw [List.length_map]; exact hn) (by rw [List.length_map]; exact hcap) (by rw [hmap]; exact hlen)
        rw [List.length_map] at key
        rw [List.length_map]
        refine key.mono ?_
        rintro e w' ⟨rfl, hb⟩
        exact ⟨_, rfl, .str _ _ (by rw [hmap]), hb⟩
/-- What wc tells; none: the arguments may not be. -/
def wcX (args : List Str) (t : Str) : Option Str :=
  match args with
  | [] => some (Lib.decDigits (t.count 10) ++ [32] ++ Lib.decDigits (wordsB true t) ++ [32] ++ Lib.decDigits t.length ++ [10])
  | [a] => if a = [45, 108] then some (Lib.decDigits (t.count 10) ++ [10]) else if a = [45, 119] then some (Lib.decDigits (wordsB true t) ++ [10]) else if a = [45, 99] then some (Lib.decDigits t.length ++ [10]) else none
  | _ => none
theorem joinTail_len (sep : Str) (M : Nat) : ∀ r : List Str, (∀ s ∈ r, s.length ≤ M) → (Lib.joinTail sep r).length ≤ r.length * (sep.length + M)
  | [], _ => by simp [Lib.joinTail]
  | s :: r, h => by
    have ih := joinTail_len sep M r fun t ht => h t (List.mem_cons_of_mem _ ht)
    have h1 := h s List.mem_cons_self
    have e : Lib.joinTail sep (s :: r) = sep ++ s ++ Lib.joinTail sep r := by simp [Lib.joinTail]
    rw [e, List.length_append, List.length_append, List.length_cons, Nat.add_mul, Nat.one_mul]; omega
theorem join_len (xs : List Str) (sep : Str) (M : Nat) (h : ∀ s ∈ xs, s.length ≤ M) : (Lib.join xs sep).length ≤ xs.length * (sep.length + M) := by
  cases xs with
  | nil => simp [Lib.join_nil]
  | cons s r =>
    have h1 := h s List.mem_cons_self
    have ih := joinTail_len sep M r fun t ht => h t (List.mem_cons_of_mem _ ht)
    rw [Lib.join_cons, List.length_append, List.length_cons, Nat.add_mul, Nat.one_mul]; omega
theorem wc_none (t : Str) (htl : t.length ≤ 4000000) (p : Oid) (hp : p.mono = false) :
    CallOK Tryz.prog 32 [.list 1 [], .str t] (Oid.under p) ⟨[], .tuple [(toldR (Lib.decDigits (t.count 10) ++ [32] ++ Lib.decDigits (wordsB true t) ++ [32] ++ Lib.decDigits t.length ++ [10])).av, .bool true], []⟩ := by
  have hc := List.count_le_length (a := (10 : UInt8)) (l := t)
  have hw := wordsB_le t true
  have d1 := decDigits_len (t.count 10) (by omega)
  have d2 := decDigits_len (wordsB true t) (by omega)
  have d3 := decDigits_len t.length (by omega)
  have hj : Lib.join [Lib.decDigits (t.count 10), Lib.decDigits (wordsB true t), Lib.decDigits t.length] [32] = Lib.decDigits (t.count 10) ++ [32] ++ Lib.decDigits (wordsB true t) ++ [32] ++ Lib.decDigits t.length := by simp [Lib.join, List.intercalate, List.intersperse]
  have hJ := fun p hp => join_ok [Lib.decDigits (t.count 10), Lib.decDigits (wordsB true t), Lib.decDigits t.length] [32] (by simp) (by rw [hj]; simp only [List.length_append, List.length_singleton]; omega) p hp
  have hJ0 := fun p hp => join_ok [] [32] (by decide) (by decide) p hp
  have hI := fun p => index_ok (Lib.join [] [32]) [[45, 108], [45, 119], [45, 99]] (by decide) p
  rw [hj] at hJ
  have i1 := fun p hp => itoaN_ok (t.count 10) (by omega) p hp
  have i2 := fun p hp => itoaN_ok (wordsB true t) (by omega) p hp
  have i3 := fun p hp => itoaN_ok t.length (by omega) p hp
  generalize Lib.decDigits (t.count 10) = x1 at d1 i1 hJ ⊢
  generalize Lib.decDigits (wordsB true t) = x2 at d2 i2 hJ ⊢
  generalize Lib.decDigits t.length = x3 at d3 i3 hJ ⊢
  generalize ixF (fun s => decide (Lib.join [] [32] = s)) [[45, 108], [45, 119], [45, 99]] = kk at hI
  simp only [List.map_cons, List.map_nil] at hJ hJ0 hI
  refine fnOK (n := 51) (rs := [.cell 4 32, .tmp 5]) Tryz.func32 rfl rfl (by decide) rfl rfl rfl ?_; rintro x rfl hrd hng
  (repeat (first | (with_reducible (first | refine K_seq ?_ | refine K_next ?_ | refine K_skip ?_ | refine K_bend ?_ | refine K_block ?_ | refine K_exit ?_ | refine X_code ?_ | refine X_lend ?_ | refine X_here ?_ | refine X_on (by decide) ?_ | refine K_lendL ?_)) | (refine K_ifT rfl rfl ?_) | (refine K_ifF rfl rfl ?_) | (refine K_ev nmd [] hng (by kernel_rfl) fun hf C S K hC1 hC hS hK => ?_; simp (disch := first | omega | assumption) only [go_sem, ↓reduceIte, Nat.reduceEqDiff, Nat.reduceAdd, Nat.reduceMul, Nat.reduceLT, Nat.reduceLeDiff, reduceCtorEq, Nat.reduceBEq, Int.reduceToNat, Int.reduceNeg]; (repeat ((first | refine hC1 _ (count_ok t 10 _) (by simp (disch := first | omega | assumption) only [go_sem, ↓reduceIte, Nat.reduceEqDiff, Nat.reduceAdd, Nat.reduceMul, Nat.reduceLT, Nat.reduceLeDiff, reduceCtorEq, Nat.reduceBEq, Int.reduceToNat, Int.reduceNeg]) ?_ | refine hC1 _ (i1 _ (mono_sub' rfl hp)) (by simp (disch := first | omega | assumption) only [go_sem, ↓reduceIte, Nat.reduceEqDiff, Nat.reduceAdd, Nat.reduceMul, Nat.reduceLT, Nat.reduceLeDiff, reduceCtorEq, Nat.reduceBEq, Int.reduceToNat, Int.reduceNeg]) ?_ | refine hC1 _ (words_ok t (by omega) _ (mono_sub' rfl hp)) (by simp (disch := first | omega | assumption) only [go_sem, ↓reduceIte, Nat.reduceEqDiff, Nat.reduceAdd, Nat.reduceMul, Nat.reduceLT, Nat.reduceLeDiff, reduceCtorEq, Nat.reduceBEq, Int.reduceToNat, Int.reduceNeg]) ?_ | refine hC1 _ (i2 _ (mono_sub' rfl hp)) (by simp (disch := first | omega | assumption) only [go_sem, ↓reduceIte, Nat.reduceEqDiff, Nat.reduceAdd, Nat.reduceMul, Nat.reduceLT, Nat.reduceLeDiff, reduceCtorEq, Nat.reduceBEq, Int.reduceToNat, Int.reduceNeg]) ?_ | refine hC1 _ (i3 _ (mono_sub' rfl hp)) (by simp (disch := first | omega | assumption) only [go_sem, ↓reduceIte, Nat.reduceEqDiff, Nat.reduceAdd, Nat.reduceMul, Nat.reduceLT, Nat.reduceLeDiff, reduceCtorEq, Nat.reduceBEq, Int.reduceToNat, Int.reduceNeg]) ?_ | refine hC1 _ (hJ _ (mono_sub' rfl hp)) (by simp (disch := first | omega | assumption) only [go_sem, ↓reduceIte, Nat.reduceEqDiff, Nat.reduceAdd, Nat.reduceMul, Nat.reduceLT, Nat.reduceLeDiff, reduceCtorEq, Nat.reduceBEq, Int.reduceToNat, Int.reduceNeg]) ?_ | refine hC1 _ (hJ0 _ (mono_sub' rfl hp)) (by simp (disch := first | omega | assumption) only [go_sem, ↓reduceIte, Nat.reduceEqDiff, Nat.reduceAdd, Nat.reduceMul, Nat.reduceLT, Nat.reduceLeDiff, reduceCtorEq, Nat.reduceBEq, Int.reduceToNat, Int.reduceNeg]) ?_ | refine hC1 _ (hI _) (by simp (disch := first | omega | assumption) only [go_sem, ↓reduceIte, Nat.reduceEqDiff, Nat.reduceAdd, Nat.reduceMul, Nat.reduceLT, Nat.reduceLeDiff, reduceCtorEq, Nat.reduceBEq, Int.reduceToNat, Int.reduceNeg]) ?_ | refine hC1 _ (told_x (x1 ++ [32] ++ x2 ++ [32] ++ x3 ++ [10]) _) (by simp (disch := first | omega | assumption) only [go_sem, ↓reduceIte, Nat.reduceEqDiff, Nat.reduceAdd, Nat.reduceMul, Nat.reduceLT, Nat.reduceLeDiff, reduceCtorEq, Nat.reduceBEq, Int.reduceToNat, Int.reduceNeg]) ?_); simp (disch := first | omega | assumption) only [go_sem, ↓reduceIte, Nat.reduceEqDiff, Nat.reduceAdd, Nat.reduceMul, Nat.reduceLT, Nat.reduceLeDiff, reduceCtorEq, Nat.reduceBEq, Int.reduceToNat, Int.reduceNeg])); refine hK ?_; clear hK hS hC hC1 K S C hf)))
  exact K_ret (done_plain (by simp (disch := first | omega | assumption) only [go_sem, ↓reduceIte, Nat.reduceEqDiff, Nat.reduceAdd, Nat.reduceMul, Nat.reduceLT, Nat.reduceLeDiff, reduceCtorEq, Nat.reduceBEq, Int.reduceToNat, Int.reduceNeg, Res.av, toldR, badR, usageR]))
theorem wc_l (t : Str) (htl : t.length ≤ 4000000) (p : Oid) (hp : p.mono = false) :
    CallOK Tryz.prog 32 [.list 1 [.str [45, 108]], .str t] (Oid.under p) ⟨[], .tuple [(toldR (Lib.decDigits (t.count 10) ++ [10])).av, .bool true], []⟩ := by
  have hc := List.count_le_length (a := (10 : UInt8)) (l := t)
  have hw := wordsB_le t true
  have d1 := decDigits_len (t.count 10) (by omega)
  have d2 := decDigits_len (wordsB true t) (by omega)
  have d3 := decDigits_len t.length (by omega)
  have i1 := fun p hp => itoaN_ok (t.count 10) (by omega) p hp
  have i2 := fun p hp => itoaN_ok (wordsB true t) (by omega) p hp
  have i3 := fun p hp => itoaN_ok t.length (by omega) p hp
  have hJ0 := fun p hp => join_ok [[45, 108]] [32] (by decide) (by rw [Lib.join_one]; decide) p hp
  rw [Lib.join_one] at hJ0
  have hI := fun p => index_ok [45, 108] [[45, 108], [45, 119], [45, 99]] (by decide) p
  rw [show ixF (fun s => decide (([45, 108] : Str) = s)) [[45, 108], [45, 119], [45, 99]] = 0 by decide] at hI
  generalize Lib.decDigits (t.count 10) = x1 at d1 i1 ⊢
  generalize Lib.decDigits (wordsB true t) = x2 at d2 i2 ⊢
  generalize Lib.decDigits t.length = x3 at d3 i3 ⊢
  simp only [List.map_cons, List.map_nil] at hJ0 hI
  refine fnOK (n := 51) (rs := [.cell 4 32, .tmp 5]) Tryz.func32 rfl rfl (by decide) rfl rfl rfl ?_; rintro x rfl hrd hng
  (repeat (first | (with_reducible (first | refine K_seq ?_ | refine K_next ?_ | refine K_skip ?_ | refine K_bend ?_ | refine K_block ?_ | refine K_exit ?_ | refine X_code ?_ | refine X_lend ?_ | refine X_here ?_ | refine X_on (by decide) ?_ | refine K_lendL ?_)) | (refine K_ifT rfl rfl ?_) | (refine K_ifF rfl rfl ?_) | (refine K_ev nmd [] hng (by kernel_rfl) fun hf C S K hC1 hC hS hK => ?_; simp (disch := first | omega | assumption) only [go_sem, ↓reduceIte, Nat.reduceEqDiff, Nat.reduceAdd, Nat.reduceMul, Nat.reduceLT, Nat.reduceLeDiff, reduceCtorEq, Nat.reduceBEq, Int.reduceToNat, Int.reduceNeg, List.length_map, Int.reduceEq, Int.reduceNe, Int.reduceLT, Int.reduceLE]; (repeat ((first | refine hC1 _ (count_ok t 10 _) (by simp (disch := first | omega | assumption) only [go_sem, ↓reduceIte, Nat.reduceEqDiff, Nat.reduceAdd, Nat.reduceMul, Nat.reduceLT, Nat.reduceLeDiff, reduceCtorEq, Nat.reduceBEq, Int.reduceToNat, Int.reduceNeg]) ?_ | refine hC1 _ (i1 _ (mono_sub' rfl hp)) (by simp (disch := first | omega | assumption) only [go_sem, ↓reduceIte, Nat.reduceEqDiff, Nat.reduceAdd, Nat.reduceMul, Nat.reduceLT, Nat.reduceLeDiff, reduceCtorEq, Nat.reduceBEq, Int.reduceToNat, Int.reduceNeg]) ?_ | refine hC1 _ (words_ok t (by omega) _ (mono_sub' rfl hp)) (by simp (disch := first | omega | assumption) only [go_sem, ↓reduceIte, Nat.reduceEqDiff, Nat.reduceAdd, Nat.reduceMul, Nat.reduceLT, Nat.reduceLeDiff, reduceCtorEq, Nat.reduceBEq, Int.reduceToNat, Int.reduceNeg]) ?_ | refine hC1 _ (i2 _ (mono_sub' rfl hp)) (by simp (disch := first | omega | assumption) only [go_sem, ↓reduceIte, Nat.reduceEqDiff, Nat.reduceAdd, Nat.reduceMul, Nat.reduceLT, Nat.reduceLeDiff, reduceCtorEq, Nat.reduceBEq, Int.reduceToNat, Int.reduceNeg]) ?_ | refine hC1 _ (i3 _ (mono_sub' rfl hp)) (by simp (disch := first | omega | assumption) only [go_sem, ↓reduceIte, Nat.reduceEqDiff, Nat.reduceAdd, Nat.reduceMul, Nat.reduceLT, Nat.reduceLeDiff, reduceCtorEq, Nat.reduceBEq, Int.reduceToNat, Int.reduceNeg]) ?_ | refine hC1 _ (hJ0 _ (mono_sub' rfl hp)) (by simp (disch := first | omega | assumption) only [go_sem, ↓reduceIte, Nat.reduceEqDiff, Nat.reduceAdd, Nat.reduceMul, Nat.reduceLT, Nat.reduceLeDiff, reduceCtorEq, Nat.reduceBEq, Int.reduceToNat, Int.reduceNeg]) ?_ | refine hC1 _ (hI _) (by simp (disch := first | omega | assumption) only [go_sem, ↓reduceIte, Nat.reduceEqDiff, Nat.reduceAdd, Nat.reduceMul, Nat.reduceLT, Nat.reduceLeDiff, reduceCtorEq, Nat.reduceBEq, Int.reduceToNat, Int.reduceNeg]) ?_); simp (disch := first | omega | assumption) only [go_sem, ↓reduceIte, Nat.reduceEqDiff, Nat.reduceAdd, Nat.reduceMul, Nat.reduceLT, Nat.reduceLeDiff, reduceCtorEq, Nat.reduceBEq, Int.reduceToNat, Int.reduceNeg])); refine hK ?_; clear hK hS hC hC1 K S C hf)))
  refine K_ev nmd [(3, 36)] hng (by kernel_rfl) fun hf C S K hC1 hC hS hK => ?_; simp (disch := first | omega | assumption) only [go_sem, ↓reduceIte, Nat.reduceEqDiff, Nat.reduceAdd, Nat.reduceMul, Nat.reduceLT, Nat.reduceLeDiff, reduceCtorEq, Nat.reduceBEq, Int.reduceToNat, Int.reduceNeg, decide_true, decide_false, ne_eq, not_true_eq_false, not_false_eq_true, List.length_map, Int.reduceEq, Int.reduceNe, Int.reduceLT, Int.reduceLE]
  (repeat' (first | (refine evG_split (fun hv => ?_) (fun hv => ?_) <;> (try simp only [decide_eq_true_eq, decide_eq_false_iff_not, Bool.not_eq_true', Bool.not_eq_false', Bool.and_eq_true] at hv) <;> simp (disch := first | omega | assumption) only [go_sem, ↓reduceIte, Nat.reduceEqDiff, Nat.reduceAdd, Nat.reduceMul, Nat.reduceLT, Nat.reduceLeDiff, reduceCtorEq, Nat.reduceBEq, Int.reduceToNat, Int.reduceNeg, hv, decide_true, decide_false, ne_eq, not_true_eq_false, not_false_eq_true, List.length_map, Int.reduceEq, Int.reduceNe, Int.reduceLT, Int.reduceLE]) | (refine hK ?_; clear hK hS hC hC1 K S C hf)))
  all_goals first | contradiction | skip
  (repeat (first | (with_reducible (first | refine K_seq ?_ | refine K_next ?_ | refine K_skip ?_ | refine K_bend ?_ | refine K_block ?_ | refine K_exit ?_ | refine X_code ?_ | refine X_lend ?_ | refine X_here ?_ | refine X_on (by decide) ?_ | refine K_lendL ?_)) | (refine K_ifT rfl rfl ?_) | (refine K_ifF rfl rfl ?_) | (refine K_ev nmd [] hng (by kernel_rfl) fun hf C S K hC1 hC hS hK => ?_; simp (disch := first | omega | assumption) only [go_sem, ↓reduceIte, Nat.reduceEqDiff, Nat.reduceAdd, Nat.reduceMul, Nat.reduceLT, Nat.reduceLeDiff, reduceCtorEq, Nat.reduceBEq, Int.reduceToNat, Int.reduceNeg, List.length_map, Int.reduceEq, Int.reduceNe, Int.reduceLT, Int.reduceLE]; (repeat ((first | refine hC1 _ (told_x (x1 ++ [10]) _) (by simp (disch := first | omega | assumption) only [go_sem, ↓reduceIte, Nat.reduceEqDiff, Nat.reduceAdd, Nat.reduceMul, Nat.reduceLT, Nat.reduceLeDiff, reduceCtorEq, Nat.reduceBEq, Int.reduceToNat, Int.reduceNeg]) ?_); simp (disch := first | omega | assumption) only [go_sem, ↓reduceIte, Nat.reduceEqDiff, Nat.reduceAdd, Nat.reduceMul, Nat.reduceLT, Nat.reduceLeDiff, reduceCtorEq, Nat.reduceBEq, Int.reduceToNat, Int.reduceNeg])); refine hK ?_; clear hK hS hC hC1 K S C hf)))
  exact K_ret (done_plain (by simp (disch := first | omega | assumption) only [go_sem, ↓reduceIte, Nat.reduceEqDiff, Nat.reduceAdd, Nat.reduceMul, Nat.reduceLT, Nat.reduceLeDiff, reduceCtorEq, Nat.reduceBEq, Int.reduceToNat, Int.reduceNeg, Res.av, toldR, badR, usageR]))
theorem wc_w (t : Str) (htl : t.length ≤ 4000000) (p : Oid) (hp : p.mono = false) :
    CallOK Tryz.prog 32 [.list 1 [.str [45, 119]], .str t] (Oid.under p) ⟨[], .tuple [(toldR (Lib.decDigits (wordsB true t) ++ [10])).av, .bool true], []⟩ := by
  have hc := List.count_le_length (a := (10 : UInt8)) (l := t)
  have hw := wordsB_le t true
  have d1 := decDigits_len (t.count 10) (by omega)
  have d2 := decDigits_len (wordsB true t) (by omega)
  have d3 := decDigits_len t.length (by omega)
  have i1 := fun p hp => itoaN_ok (t.count 10) (by omega) p hp
  have i2 := fun p hp => itoaN_ok (wordsB true t) (by omega) p hp
  have i3 := fun p hp => itoaN_ok t.length (by omega) p hp
  have hJ0 := fun p hp => join_ok [[45, 119]] [32] (by decide) (by rw [Lib.join_one]; decide) p hp
  rw [Lib.join_one] at hJ0
  have hI := fun p => index_ok [45, 119] [[45, 108], [45, 119], [45, 99]] (by decide) p
  rw [show ixF (fun s => decide (([45, 119] : Str) = s)) [[45, 108], [45, 119], [45, 99]] = 1 by decide] at hI
  generalize Lib.decDigits (t.count 10) = x1 at d1 i1 ⊢
  generalize Lib.decDigits (wordsB true t) = x2 at d2 i2 ⊢
  generalize Lib.decDigits t.length = x3 at d3 i3 ⊢
  simp only [List.map_cons, List.map_nil] at hJ0 hI
  refine fnOK (n := 51) (rs := [.cell 4 32, .tmp 5]) Tryz.func32 rfl rfl (by decide) rfl rfl rfl ?_; rintro x rfl hrd hng
  (repeat (first | (with_reducible (first | refine K_seq ?_ | refine K_next ?_ | refine K_skip ?_ | refine K_bend ?_ | refine K_block ?_ | refine K_exit ?_ | refine X_code ?_ | refine X_lend ?_ | refine X_here ?_ | refine X_on (by decide) ?_ | refine K_lendL ?_)) | (refine K_ifT rfl rfl ?_) | (refine K_ifF rfl rfl ?_) | (refine K_ev nmd [] hng (by kernel_rfl) fun hf C S K hC1 hC hS hK => ?_; simp (disch := first | omega | assumption) only [go_sem, ↓reduceIte, Nat.reduceEqDiff, Nat.reduceAdd, Nat.reduceMul, Nat.reduceLT, Nat.reduceLeDiff, reduceCtorEq, Nat.reduceBEq, Int.reduceToNat, Int.reduceNeg, List.length_map, Int.reduceEq, Int.reduceNe, Int.reduceLT, Int.reduceLE]; (repeat ((first | refine hC1 _ (count_ok t 10 _) (by simp (disch := first | omega | assumption) only [go_sem, ↓reduceIte, Nat.reduceEqDiff, Nat.reduceAdd, Nat.reduceMul, Nat.reduceLT, Nat.reduceLeDiff, reduceCtorEq, Nat.reduceBEq, Int.reduceToNat, Int.reduceNeg]) ?_ | refine hC1 _ (i1 _ (mono_sub' rfl hp)) (by simp (disch := first | omega | assumption) only [go_sem, ↓reduceIte, Nat.reduceEqDiff, Nat.reduceAdd, Nat.reduceMul, Nat.reduceLT, Nat.reduceLeDiff, reduceCtorEq, Nat.reduceBEq, Int.reduceToNat, Int.reduceNeg]) ?_ | refine hC1 _ (words_ok t (by omega) _ (mono_sub' rfl hp)) (by simp (disch := first | omega | assumption) only [go_sem, ↓reduceIte, Nat.reduceEqDiff, Nat.reduceAdd, Nat.reduceMul, Nat.reduceLT, Nat.reduceLeDiff, reduceCtorEq, Nat.reduceBEq, Int.reduceToNat, Int.reduceNeg]) ?_ | refine hC1 _ (i2 _ (mono_sub' rfl hp)) (by simp (disch := first | omega | assumption) only [go_sem, ↓reduceIte, Nat.reduceEqDiff, Nat.reduceAdd, Nat.reduceMul, Nat.reduceLT, Nat.reduceLeDiff, reduceCtorEq, Nat.reduceBEq, Int.reduceToNat, Int.reduceNeg]) ?_ | refine hC1 _ (i3 _ (mono_sub' rfl hp)) (by simp (disch := first | omega | assumption) only [go_sem, ↓reduceIte, Nat.reduceEqDiff, Nat.reduceAdd, Nat.reduceMul, Nat.reduceLT, Nat.reduceLeDiff, reduceCtorEq, Nat.reduceBEq, Int.reduceToNat, Int.reduceNeg]) ?_ | refine hC1 _ (hJ0 _ (mono_sub' rfl hp)) (by simp (disch := first | omega | assumption) only [go_sem, ↓reduceIte, Nat.reduceEqDiff, Nat.reduceAdd, Nat.reduceMul, Nat.reduceLT, Nat.reduceLeDiff, reduceCtorEq, Nat.reduceBEq, Int.reduceToNat, Int.reduceNeg]) ?_ | refine hC1 _ (hI _) (by simp (disch := first | omega | assumption) only [go_sem, ↓reduceIte, Nat.reduceEqDiff, Nat.reduceAdd, Nat.reduceMul, Nat.reduceLT, Nat.reduceLeDiff, reduceCtorEq, Nat.reduceBEq, Int.reduceToNat, Int.reduceNeg]) ?_); simp (disch := first | omega | assumption) only [go_sem, ↓reduceIte, Nat.reduceEqDiff, Nat.reduceAdd, Nat.reduceMul, Nat.reduceLT, Nat.reduceLeDiff, reduceCtorEq, Nat.reduceBEq, Int.reduceToNat, Int.reduceNeg])); refine hK ?_; clear hK hS hC hC1 K S C hf)))
  refine K_ev nmd [(3, 36)] hng (by kernel_rfl) fun hf C S K hC1 hC hS hK => ?_; simp (disch := first | omega | assumption) only [go_sem, ↓reduceIte, Nat.reduceEqDiff, Nat.reduceAdd, Nat.reduceMul, Nat.reduceLT, Nat.reduceLeDiff, reduceCtorEq, Nat.reduceBEq, Int.reduceToNat, Int.reduceNeg, decide_true, decide_false, ne_eq, not_true_eq_false, not_false_eq_true, List.length_map, Int.reduceEq, Int.reduceNe, Int.reduceLT, Int.reduceLE]
  (repeat' (first | (refine evG_split (fun hv => ?_) (fun hv => ?_) <;> (try simp only [decide_eq_true_eq, decide_eq_false_iff_not, Bool.not_eq_true', Bool.not_eq_false', Bool.and_eq_true] at hv) <;> simp (disch := first | omega | assumption) only [go_sem, ↓reduceIte, Nat.reduceEqDiff, Nat.reduceAdd, Nat.reduceMul, Nat.reduceLT, Nat.reduceLeDiff, reduceCtorEq, Nat.reduceBEq, Int.reduceToNat, Int.reduceNeg, hv, decide_true, decide_false, ne_eq, not_true_eq_false, not_false_eq_true, List.length_map, Int.reduceEq, Int.reduceNe, Int.reduceLT, Int.reduceLE]) | (refine hK ?_; clear hK hS hC hC1 K S C hf)))
  all_goals first | contradiction | skip
  (repeat (first | (with_reducible (first | refine K_seq ?_ | refine K_next ?_ | refine K_skip ?_ | refine K_bend ?_ | refine K_block ?_ | refine K_exit ?_ | refine X_code ?_ | refine X_lend ?_ | refine X_here ?_ | refine X_on (by decide) ?_ | refine K_lendL ?_)) | (refine K_ifT rfl rfl ?_) | (refine K_ifF rfl rfl ?_) | (refine K_ev nmd [] hng (by kernel_rfl) fun hf C S K hC1 hC hS hK => ?_; simp (disch := first | omega | assumption) only [go_sem, ↓reduceIte, Nat.reduceEqDiff, Nat.reduceAdd, Nat.reduceMul, Nat.reduceLT, Nat.reduceLeDiff, reduceCtorEq, Nat.reduceBEq, Int.reduceToNat, Int.reduceNeg, List.length_map, Int.reduceEq, Int.reduceNe, Int.reduceLT, Int.reduceLE]; (repeat ((first | refine hC1 _ (told_x (x2 ++ [10]) _) (by simp (disch := first | omega | assumption) only [go_sem, ↓reduceIte, Nat.reduceEqDiff, Nat.reduceAdd, Nat.reduceMul, Nat.reduceLT, Nat.reduceLeDiff, reduceCtorEq, Nat.reduceBEq, Int.reduceToNat, Int.reduceNeg]) ?_); simp (disch := first | omega | assumption) only [go_sem, ↓reduceIte, Nat.reduceEqDiff, Nat.reduceAdd, Nat.reduceMul, Nat.reduceLT, Nat.reduceLeDiff, reduceCtorEq, Nat.reduceBEq, Int.reduceToNat, Int.reduceNeg])); refine hK ?_; clear hK hS hC hC1 K S C hf)))
  exact K_ret (done_plain (by simp (disch := first | omega | assumption) only [go_sem, ↓reduceIte, Nat.reduceEqDiff, Nat.reduceAdd, Nat.reduceMul, Nat.reduceLT, Nat.reduceLeDiff, reduceCtorEq, Nat.reduceBEq, Int.reduceToNat, Int.reduceNeg, Res.av, toldR, badR, usageR]))
theorem wc_c (t : Str) (htl : t.length ≤ 4000000) (p : Oid) (hp : p.mono = false) :
    CallOK Tryz.prog 32 [.list 1 [.str [45, 99]], .str t] (Oid.under p) ⟨[], .tuple [(toldR (Lib.decDigits t.length ++ [10])).av, .bool true], []⟩ := by
  have hc := List.count_le_length (a := (10 : UInt8)) (l := t)
  have hw := wordsB_le t true
  have d1 := decDigits_len (t.count 10) (by omega)
  have d2 := decDigits_len (wordsB true t) (by omega)
  have d3 := decDigits_len t.length (by omega)
  have i1 := fun p hp => itoaN_ok (t.count 10) (by omega) p hp
  have i2 := fun p hp => itoaN_ok (wordsB true t) (by omega) p hp
  have i3 := fun p hp => itoaN_ok t.length (by omega) p hp
  have hJ0 := fun p hp => join_ok [[45, 99]] [32] (by decide) (by rw [Lib.join_one]; decide) p hp
  rw [Lib.join_one] at hJ0
  have hI := fun p => index_ok [45, 99] [[45, 108], [45, 119], [45, 99]] (by decide) p
  rw [show ixF (fun s => decide (([45, 99] : Str) = s)) [[45, 108], [45, 119], [45, 99]] = 2 by decide] at hI
  generalize Lib.decDigits (t.count 10) = x1 at d1 i1 ⊢
  generalize Lib.decDigits (wordsB true t) = x2 at d2 i2 ⊢
  generalize Lib.decDigits t.length = x3 at d3 i3 ⊢
  simp only [List.map_cons, List.map_nil] at hJ0 hI
  refine fnOK (n := 51) (rs := [.cell 4 32, .tmp 5]) Tryz.func32 rfl rfl (by decide) rfl rfl rfl ?_; rintro x rfl hrd hng
  (repeat (first | (with_reducible (first | refine K_seq ?_ | refine K_next ?_ | refine K_skip ?_ | refine K_bend ?_ | refine K_block ?_ | refine K_exit ?_ | refine X_code ?_ | refine X_lend ?_ | refine X_here ?_ | refine X_on (by decide) ?_ | refine K_lendL ?_)) | (refine K_ifT rfl rfl ?_) | (refine K_ifF rfl rfl ?_) | (refine K_ev nmd [] hng (by kernel_rfl) fun hf C S K hC1 hC hS hK => ?_; simp (disch := first | omega | assumption) only [go_sem, ↓reduceIte, Nat.reduceEqDiff, Nat.reduceAdd, Nat.reduceMul, Nat.reduceLT, Nat.reduceLeDiff, reduceCtorEq, Nat.reduceBEq, Int.reduceToNat, Int.reduceNeg, List.length_map, Int.reduceEq, Int.reduceNe, Int.reduceLT, Int.reduceLE]; (repeat ((first | refine hC1 _ (count_ok t 10 _) (by simp (disch := first | omega | assumption) only [go_sem, ↓reduceIte, Nat.reduceEqDiff, Nat.reduceAdd, Nat.reduceMul, Nat.reduceLT, Nat.reduceLeDiff, reduceCtorEq, Nat.reduceBEq, Int.reduceToNat, Int.reduceNeg]) ?_ | refine hC1 _ (i1 _ (mono_sub' rfl hp)) (by simp (disch := first | omega | assumption) only [go_sem, ↓reduceIte, Nat.reduceEqDiff, Nat.reduceAdd, Nat.reduceMul, Nat.reduceLT, Nat.reduceLeDiff, reduceCtorEq, Nat.reduceBEq, Int.reduceToNat, Int.reduceNeg]) ?_ | refine hC1 _ (words_ok t (by omega) _ (mono_sub' rfl hp)) (by simp (disch := first | omega | assumption) only [go_sem, ↓reduceIte, Nat.reduceEqDiff, Nat.reduceAdd, Nat.reduceMul, Nat.reduceLT, Nat.reduceLeDiff, reduceCtorEq, Nat.reduceBEq, Int.reduceToNat, Int.reduceNeg]) ?_ | refine hC1 _ (i2 _ (mono_sub' rfl hp)) (by simp (disch := first | omega | assumption) only [go_sem, ↓reduceIte, Nat.reduceEqDiff, Nat.reduceAdd, Nat.reduceMul, Nat.reduceLT, Nat.reduceLeDiff, reduceCtorEq, Nat.reduceBEq, Int.reduceToNat, Int.reduceNeg]) ?_ | refine hC1 _ (i3 _ (mono_sub' rfl hp)) (by simp (disch := first | omega | assumption) only [go_sem, ↓reduceIte, Nat.reduceEqDiff, Nat.reduceAdd, Nat.reduceMul, Nat.reduceLT, Nat.reduceLeDiff, reduceCtorEq, Nat.reduceBEq, Int.reduceToNat, Int.reduceNeg]) ?_ | refine hC1 _ (hJ0 _ (mono_sub' rfl hp)) (by simp (disch := first | omega | assumption) only [go_sem, ↓reduceIte, Nat.reduceEqDiff, Nat.reduceAdd, Nat.reduceMul, Nat.reduceLT, Nat.reduceLeDiff, reduceCtorEq, Nat.reduceBEq, Int.reduceToNat, Int.reduceNeg]) ?_ | refine hC1 _ (hI _) (by simp (disch := first | omega | assumption) only [go_sem, ↓reduceIte, Nat.reduceEqDiff, Nat.reduceAdd, Nat.reduceMul, Nat.reduceLT, Nat.reduceLeDiff, reduceCtorEq, Nat.reduceBEq, Int.reduceToNat, Int.reduceNeg]) ?_); simp (disch := first | omega | assumption) only [go_sem, ↓reduceIte, Nat.reduceEqDiff, Nat.reduceAdd, Nat.reduceMul, Nat.reduceLT, Nat.reduceLeDiff, reduceCtorEq, Nat.reduceBEq, Int.reduceToNat, Int.reduceNeg])); refine hK ?_; clear hK hS hC hC1 K S C hf)))
  refine K_ev nmd [(3, 36)] hng (by kernel_rfl) fun hf C S K hC1 hC hS hK => ?_; simp (disch := first | omega | assumption) only [go_sem, ↓reduceIte, Nat.reduceEqDiff, Nat.reduceAdd, Nat.reduceMul, Nat.reduceLT, Nat.reduceLeDiff, reduceCtorEq, Nat.reduceBEq, Int.reduceToNat, Int.reduceNeg, decide_true, decide_false, ne_eq, not_true_eq_false, not_false_eq_true, List.length_map, Int.reduceEq, Int.reduceNe, Int.reduceLT, Int.reduceLE]
  (repeat' (first | (refine evG_split (fun hv => ?_) (fun hv => ?_) <;> (try simp only [decide_eq_true_eq, decide_eq_false_iff_not, Bool.not_eq_true', Bool.not_eq_false', Bool.and_eq_true] at hv) <;> simp (disch := first | omega | assumption) only [go_sem, ↓reduceIte, Nat.reduceEqDiff, Nat.reduceAdd, Nat.reduceMul, Nat.reduceLT, Nat.reduceLeDiff, reduceCtorEq, Nat.reduceBEq, Int.reduceToNat, Int.reduceNeg, hv, decide_true, decide_false, ne_eq, not_true_eq_false, not_false_eq_true, List.length_map, Int.reduceEq, Int.reduceNe, Int.reduceLT, Int.reduceLE]) | (refine hK ?_; clear hK hS hC hC1 K S C hf)))
  all_goals first | contradiction | skip
  (repeat (first | (with_reducible (first | refine K_seq ?_ | refine K_next ?_ | refine K_skip ?_ | refine K_bend ?_ | refine K_block ?_ | refine K_exit ?_ | refine X_code ?_ | refine X_lend ?_ | refine X_here ?_ | refine X_on (by decide) ?_ | refine K_lendL ?_)) | (refine K_ifT rfl rfl ?_) | (refine K_ifF rfl rfl ?_) | (refine K_ev nmd [] hng (by kernel_rfl) fun hf C S K hC1 hC hS hK => ?_; simp (disch := first | omega | assumption) only [go_sem, ↓reduceIte, Nat.reduceEqDiff, Nat.reduceAdd, Nat.reduceMul, Nat.reduceLT, Nat.reduceLeDiff, reduceCtorEq, Nat.reduceBEq, Int.reduceToNat, Int.reduceNeg, List.length_map, Int.reduceEq, Int.reduceNe, Int.reduceLT, Int.reduceLE]; (repeat ((first | refine hC1 _ (told_x (x3 ++ [10]) _) (by simp (disch := first | omega | assumption) only [go_sem, ↓reduceIte, Nat.reduceEqDiff, Nat.reduceAdd, Nat.reduceMul, Nat.reduceLT, Nat.reduceLeDiff, reduceCtorEq, Nat.reduceBEq, Int.reduceToNat, Int.reduceNeg]) ?_); simp (disch := first | omega | assumption) only [go_sem, ↓reduceIte, Nat.reduceEqDiff, Nat.reduceAdd, Nat.reduceMul, Nat.reduceLT, Nat.reduceLeDiff, reduceCtorEq, Nat.reduceBEq, Int.reduceToNat, Int.reduceNeg])); refine hK ?_; clear hK hS hC hC1 K S C hf)))
  exact K_ret (done_plain (by simp (disch := first | omega | assumption) only [go_sem, ↓reduceIte, Nat.reduceEqDiff, Nat.reduceAdd, Nat.reduceMul, Nat.reduceLT, Nat.reduceLeDiff, reduceCtorEq, Nat.reduceBEq, Int.reduceToNat, Int.reduceNeg, Res.av, toldR, badR, usageR]))
theorem wc_odd (a t : Str) (ha : a.length ≤ 4000000) (h1 : ¬ a = [45, 108]) (h2 : ¬ a = [45, 119]) (h3 : ¬ a = [45, 99]) (htl : t.length ≤ 4000000) (p : Oid) (hp : p.mono = false) :
    CallOK Tryz.prog 32 [.list 1 [.str a], .str t] (Oid.under p) ⟨[], .tuple [badR.av, .bool false], []⟩ := by
  have hc := List.count_le_length (a := (10 : UInt8)) (l := t)
  have hw := wordsB_le t true
  have d1 := decDigits_len (t.count 10) (by omega)
  have d2 := decDigits_len (wordsB true t) (by omega)
  have d3 := decDigits_len t.length (by omega)
  have i1 := fun p hp => itoaN_ok (t.count 10) (by omega) p hp
  have i2 := fun p hp => itoaN_ok (wordsB true t) (by omega) p hp
  have i3 := fun p hp => itoaN_ok t.length (by omega) p hp
  have hJ0 := fun p hp => join_ok [a] [32] (by simp) (by rw [Lib.join_one]; omega) p hp
  rw [Lib.join_one] at hJ0
  have hI := fun p => index_ok a [[45, 108], [45, 119], [45, 99]] (by decide) p
  rw [show ixF (fun s => decide (a = s)) [[45, 108], [45, 119], [45, 99]] = -1 by simp [ixF, h1, h2, h3]] at hI
  simp only [List.map_cons, List.map_nil] at hJ0 hI
  refine fnOK (n := 51) (rs := [.cell 4 32, .tmp 5]) Tryz.func32 rfl rfl (by decide) rfl rfl rfl ?_; rintro x rfl hrd hng
  (repeat (first | (with_reducible (first | refine K_seq ?_ | refine K_next ?_ | refine K_skip ?_ | refine K_bend ?_ | refine K_block ?_ | refine K_exit ?_ | refine X_code ?_ | refine X_lend ?_ | refine X_here ?_ | refine X_on (by decide) ?_ | refine K_lendL ?_)) | (refine K_ifT rfl rfl ?_) | (refine K_ifF rfl rfl ?_) | (refine K_ev nmd [] hng (by kernel_rfl) fun hf C S K hC1 hC hS hK => ?_; simp (disch := first | omega | assumption) only [go_sem, ↓reduceIte, Nat.reduceEqDiff, Nat.reduceAdd, Nat.reduceMul, Nat.reduceLT, Nat.reduceLeDiff, reduceCtorEq, Nat.reduceBEq, Int.reduceToNat, Int.reduceNeg, List.length_map, Int.reduceEq, Int.reduceNe, Int.reduceLT, Int.reduceLE]; (repeat ((first | refine hC1 _ (count_ok t 10 _) (by simp (disch := first | omega | assumption) only [go_sem, ↓reduceIte, Nat.reduceEqDiff, Nat.reduceAdd, Nat.reduceMul, Nat.reduceLT, Nat.reduceLeDiff, reduceCtorEq, Nat.reduceBEq, Int.reduceToNat, Int.reduceNeg]) ?_ | refine hC1 _ (i1 _ (mono_sub' rfl hp)) (by simp (disch := first | omega | assumption) only [go_sem, ↓reduceIte, Nat.reduceEqDiff, Nat.reduceAdd, Nat.reduceMul, Nat.reduceLT, Nat.reduceLeDiff, reduceCtorEq, Nat.reduceBEq, Int.reduceToNat, Int.reduceNeg]) ?_ | refine hC1 _ (words_ok t (by omega) _ (mono_sub' rfl hp)) (by simp (disch := first | omega | assumption) only [go_sem, ↓reduceIte, Nat.reduceEqDiff, Nat.reduceAdd, Nat.reduceMul, Nat.reduceLT, Nat.reduceLeDiff, reduceCtorEq, Nat.reduceBEq, Int.reduceToNat, Int.reduceNeg]) ?_ | refine hC1 _ (i2 _ (mono_sub' rfl hp)) (by simp (disch := first | omega | assumption) only [go_sem, ↓reduceIte, Nat.reduceEqDiff, Nat.reduceAdd, Nat.reduceMul, Nat.reduceLT, Nat.reduceLeDiff, reduceCtorEq, Nat.reduceBEq, Int.reduceToNat, Int.reduceNeg]) ?_ | refine hC1 _ (i3 _ (mono_sub' rfl hp)) (by simp (disch := first | omega | assumption) only [go_sem, ↓reduceIte, Nat.reduceEqDiff, Nat.reduceAdd, Nat.reduceMul, Nat.reduceLT, Nat.reduceLeDiff, reduceCtorEq, Nat.reduceBEq, Int.reduceToNat, Int.reduceNeg]) ?_ | refine hC1 _ (hJ0 _ (mono_sub' rfl hp)) (by simp (disch := first | omega | assumption) only [go_sem, ↓reduceIte, Nat.reduceEqDiff, Nat.reduceAdd, Nat.reduceMul, Nat.reduceLT, Nat.reduceLeDiff, reduceCtorEq, Nat.reduceBEq, Int.reduceToNat, Int.reduceNeg]) ?_ | refine hC1 _ (hI _) (by simp (disch := first | omega | assumption) only [go_sem, ↓reduceIte, Nat.reduceEqDiff, Nat.reduceAdd, Nat.reduceMul, Nat.reduceLT, Nat.reduceLeDiff, reduceCtorEq, Nat.reduceBEq, Int.reduceToNat, Int.reduceNeg]) ?_); simp (disch := first | omega | assumption) only [go_sem, ↓reduceIte, Nat.reduceEqDiff, Nat.reduceAdd, Nat.reduceMul, Nat.reduceLT, Nat.reduceLeDiff, reduceCtorEq, Nat.reduceBEq, Int.reduceToNat, Int.reduceNeg])); refine hK ?_; clear hK hS hC hC1 K S C hf)))
  refine K_ev nmd [(3, 36)] hng (by kernel_rfl) fun hf C S K hC1 hC hS hK => ?_; simp (disch := first | omega | assumption) only [go_sem, ↓reduceIte, Nat.reduceEqDiff, Nat.reduceAdd, Nat.reduceMul, Nat.reduceLT, Nat.reduceLeDiff, reduceCtorEq, Nat.reduceBEq, Int.reduceToNat, Int.reduceNeg, decide_true, decide_false, ne_eq, not_true_eq_false, not_false_eq_true, List.length_map, Int.reduceEq, Int.reduceNe, Int.reduceLT, Int.reduceLE]
  (repeat' (first | (refine evG_split (fun hv => ?_) (fun hv => ?_) <;> (try simp only [decide_eq_true_eq, decide_eq_false_iff_not, Bool.not_eq_true', Bool.not_eq_false', Bool.and_eq_true] at hv) <;> simp (disch := first | omega | assumption) only [go_sem, ↓reduceIte, Nat.reduceEqDiff, Nat.reduceAdd, Nat.reduceMul, Nat.reduceLT, Nat.reduceLeDiff, reduceCtorEq, Nat.reduceBEq, Int.reduceToNat, Int.reduceNeg, hv, decide_true, decide_false, ne_eq, not_true_eq_false, not_false_eq_true, List.length_map, Int.reduceEq, Int.reduceNe, Int.reduceLT, Int.reduceLE]) | (refine hK ?_; clear hK hS hC hC1 K S C hf)))
  all_goals first | contradiction | skip
  (repeat (first | (with_reducible (first | refine K_seq ?_ | refine K_next ?_ | refine K_skip ?_ | refine K_bend ?_ | refine K_block ?_ | refine K_exit ?_ | refine X_code ?_ | refine X_lend ?_ | refine X_here ?_ | refine X_on (by decide) ?_ | refine K_lendL ?_)) | (refine K_ifT rfl rfl ?_) | (refine K_ifF rfl rfl ?_) | (refine K_ev nmd [] hng (by kernel_rfl) fun hf C S K hC1 hC hS hK => ?_; simp (disch := first | omega | assumption) only [go_sem, ↓reduceIte, Nat.reduceEqDiff, Nat.reduceAdd, Nat.reduceMul, Nat.reduceLT, Nat.reduceLeDiff, reduceCtorEq, Nat.reduceBEq, Int.reduceToNat, Int.reduceNeg, List.length_map, Int.reduceEq, Int.reduceNe, Int.reduceLT, Int.reduceLE]; (repeat ((first | refine hC1 _ (bad_x _) (by simp (disch := first | omega | assumption) only [go_sem, ↓reduceIte, Nat.reduceEqDiff, Nat.reduceAdd, Nat.reduceMul, Nat.reduceLT, Nat.reduceLeDiff, reduceCtorEq, Nat.reduceBEq, Int.reduceToNat, Int.reduceNeg]) ?_); simp (disch := first | omega | assumption) only [go_sem, ↓reduceIte, Nat.reduceEqDiff, Nat.reduceAdd, Nat.reduceMul, Nat.reduceLT, Nat.reduceLeDiff, reduceCtorEq, Nat.reduceBEq, Int.reduceToNat, Int.reduceNeg])); refine hK ?_; clear hK hS hC hC1 K S C hf)))
  exact K_ret (done_plain (by simp (disch := first | omega | assumption) only [go_sem, ↓reduceIte, Nat.reduceEqDiff, Nat.reduceAdd, Nat.reduceMul, Nat.reduceLT, Nat.reduceLeDiff, reduceCtorEq, Nat.reduceBEq, Int.reduceToNat, Int.reduceNeg, Res.av, badR]))
theorem wc_many (args : List Str) (ha : ∀ s ∈ args, s.length ≤ 4000000) (hal : args.length ≤ 4000000) (h0 : ¬ args.length = 0) (h1 : ¬ args.length = 1) (t : Str) (htl : t.length ≤ 4000000) (p : Oid) (hp : p.mono = false) :
    CallOK Tryz.prog 32 [.list 1 (args.map AV.str), .str t] (Oid.under p) ⟨[], .tuple [badR.av, .bool false], []⟩ := by
  have hc := List.count_le_length (a := (10 : UInt8)) (l := t)
  have hw := wordsB_le t true
  have d1 := decDigits_len (t.count 10) (by omega)
  have d2 := decDigits_len (wordsB true t) (by omega)
  have d3 := decDigits_len t.length (by omega)
  have i1 := fun p hp => itoaN_ok (t.count 10) (by omega) p hp
  have i2 := fun p hp => itoaN_ok (wordsB true t) (by omega) p hp
  have i3 := fun p hp => itoaN_ok t.length (by omega) p hp
  have hjl := join_len args [32] 4000000 ha
  have hjm : args.length * (([32] : Str).length + 4000000) ≤ 140737488355328 := by
    rw [List.length_singleton]; omega
  have hJ0 := fun p hp => join_ok args [32] (by omega) (by omega) p hp
  have hI := fun p => index_ok (Lib.join args [32]) [[45, 108], [45, 119], [45, 99]] (by decide) p
  generalize Lib.join args [32] = x0 at hJ0 hI
  generalize ixF (fun s => decide (x0 = s)) [[45, 108], [45, 119], [45, 99]] = kk at hI
  simp only [List.map_cons, List.map_nil] at hI
  have hz0 : ((args.length : Int) = 0) = False := eq_false (by omega)
  have hz1 : ((args.length : Int) = 1) = False := eq_false (by omega)
  refine fnOK (n := 51) (rs := [.cell 4 32, .tmp 5]) Tryz.func32 rfl rfl (by decide) rfl rfl rfl ?_; rintro x rfl hrd hng
  (repeat (first | (with_reducible (first | refine K_seq ?_ | refine K_next ?_ | refine K_skip ?_ | refine K_bend ?_ | refine K_block ?_ | refine K_exit ?_ | refine X_code ?_ | refine X_lend ?_ | refine X_here ?_ | refine X_on (by decide) ?_ | refine K_lendL ?_)) | (refine K_ifT rfl rfl ?_) | (refine K_ifF rfl rfl ?_) | (refine K_ev nmd [] hng (by kernel_rfl) fun hf C S K hC1 hC hS hK => ?_; simp (disch := first | omega | assumption) only [go_sem, ↓reduceIte, Nat.reduceEqDiff, Nat.reduceAdd, Nat.reduceMul, Nat.reduceLT, Nat.reduceLeDiff, reduceCtorEq, Nat.reduceBEq, Int.reduceToNat, Int.reduceNeg, List.length_map, Int.reduceEq, Int.reduceNe, Int.reduceLT, Int.reduceLE, hz0, decide_true, decide_false, ne_eq, not_true_eq_false, not_false_eq_true]; (repeat ((first | refine hC1 _ (count_ok t 10 _) (by simp (disch := first | omega | assumption) only [go_sem, ↓reduceIte, Nat.reduceEqDiff, Nat.reduceAdd, Nat.reduceMul, Nat.reduceLT, Nat.reduceLeDiff, reduceCtorEq, Nat.reduceBEq, Int.reduceToNat, Int.reduceNeg]) ?_ | refine hC1 _ (i1 _ (mono_sub' rfl hp)) (by simp (disch := first | omega | assumption) only [go_sem, ↓reduceIte, Nat.reduceEqDiff, Nat.reduceAdd, Nat.reduceMul, Nat.reduceLT, Nat.reduceLeDiff, reduceCtorEq, Nat.reduceBEq, Int.reduceToNat, Int.reduceNeg]) ?_ | refine hC1 _ (words_ok t (by omega) _ (mono_sub' rfl hp)) (by simp (disch := first | omega | assumption) only [go_sem, ↓reduceIte, Nat.reduceEqDiff, Nat.reduceAdd, Nat.reduceMul, Nat.reduceLT, Nat.reduceLeDiff, reduceCtorEq, Nat.reduceBEq, Int.reduceToNat, Int.reduceNeg]) ?_ | refine hC1 _ (i2 _ (mono_sub' rfl hp)) (by simp (disch := first | omega | assumption) only [go_sem, ↓reduceIte, Nat.reduceEqDiff, Nat.reduceAdd, Nat.reduceMul, Nat.reduceLT, Nat.reduceLeDiff, reduceCtorEq, Nat.reduceBEq, Int.reduceToNat, Int.reduceNeg]) ?_ | refine hC1 _ (i3 _ (mono_sub' rfl hp)) (by simp (disch := first | omega | assumption) only [go_sem, ↓reduceIte, Nat.reduceEqDiff, Nat.reduceAdd, Nat.reduceMul, Nat.reduceLT, Nat.reduceLeDiff, reduceCtorEq, Nat.reduceBEq, Int.reduceToNat, Int.reduceNeg]) ?_ | refine hC1 _ (hJ0 _ (mono_sub' rfl hp)) (by simp (disch := first | omega | assumption) only [go_sem, ↓reduceIte, Nat.reduceEqDiff, Nat.reduceAdd, Nat.reduceMul, Nat.reduceLT, Nat.reduceLeDiff, reduceCtorEq, Nat.reduceBEq, Int.reduceToNat, Int.reduceNeg]) ?_ | refine hC1 _ (hI _) (by simp (disch := first | omega | assumption) only [go_sem, ↓reduceIte, Nat.reduceEqDiff, Nat.reduceAdd, Nat.reduceMul, Nat.reduceLT, Nat.reduceLeDiff, reduceCtorEq, Nat.reduceBEq, Int.reduceToNat, Int.reduceNeg]) ?_); simp (disch := first | omega | assumption) only [go_sem, ↓reduceIte, Nat.reduceEqDiff, Nat.reduceAdd, Nat.reduceMul, Nat.reduceLT, Nat.reduceLeDiff, reduceCtorEq, Nat.reduceBEq, Int.reduceToNat, Int.reduceNeg])); refine hK ?_; clear hK hS hC hC1 K S C hf)))
  refine K_ev nmd [(3, 36)] hng (by kernel_rfl) fun hf C S K hC1 hC hS hK => ?_; simp (disch := first | omega | assumption) only [go_sem, ↓reduceIte, Nat.reduceEqDiff, Nat.reduceAdd, Nat.reduceMul, Nat.reduceLT, Nat.reduceLeDiff, reduceCtorEq, Nat.reduceBEq, Int.reduceToNat, Int.reduceNeg, decide_true, decide_false, ne_eq, not_true_eq_false, not_false_eq_true, List.length_map, Int.reduceEq, Int.reduceNe, Int.reduceLT, Int.reduceLE, hz1]
  (repeat' (first | (refine evG_split (fun hv => ?_) (fun hv => ?_) <;> (try simp only [decide_eq_true_eq, decide_eq_false_iff_not, Bool.not_eq_true', Bool.not_eq_false', Bool.and_eq_true] at hv) <;> simp (disch := first | omega | assumption) only [go_sem, ↓reduceIte, Nat.reduceEqDiff, Nat.reduceAdd, Nat.reduceMul, Nat.reduceLT, Nat.reduceLeDiff, reduceCtorEq, Nat.reduceBEq, Int.reduceToNat, Int.reduceNeg, hv, decide_true, decide_false, ne_eq, not_true_eq_false, not_false_eq_true, List.length_map, Int.reduceEq, Int.reduceNe, Int.reduceLT, Int.reduceLE, hz1]) | (refine hK ?_; clear hK hS hC hC1 K S C hf)))
  all_goals first | contradiction | skip
  (repeat (first | (with_reducible (first | refine K_seq ?_ | refine K_next ?_ | refine K_skip ?_ | refine K_bend ?_ | refine K_block ?_ | refine K_exit ?_ | refine X_code ?_ | refine X_lend ?_ | refine X_here ?_ | refine X_on (by decide) ?_ | refine K_lendL ?_)) | (refine K_ifT rfl rfl ?_) | (refine K_ifF rfl rfl ?_) | (refine K_ev nmd [] hng (by kernel_rfl) fun hf C S K hC1 hC hS hK => ?_; simp (disch := first | omega | assumption) only [go_sem, ↓reduceIte, Nat.reduceEqDiff, Nat.reduceAdd, Nat.reduceMul, Nat.reduceLT, Nat.reduceLeDiff, reduceCtorEq, Nat.reduceBEq, Int.reduceToNat, Int.reduceNeg, List.length_map, Int.reduceEq, Int.reduceNe, Int.reduceLT, Int.reduceLE]; (repeat ((first | refine hC1 _ (bad_x _) (by simp (disch := first | omega | assumption) only [go_sem, ↓reduceIte, Nat.reduceEqDiff, Nat.reduceAdd, Nat.reduceMul, Nat.reduceLT, Nat.reduceLeDiff, reduceCtorEq, Nat.reduceBEq, Int.reduceToNat, Int.reduceNeg]) ?_); simp (disch := first | omega | assumption) only [go_sem, ↓reduceIte, Nat.reduceEqDiff, Nat.reduceAdd, Nat.reduceMul, Nat.reduceLT, Nat.reduceLeDiff, reduceCtorEq, Nat.reduceBEq, Int.reduceToNat, Int.reduceNeg])); refine hK ?_; clear hK hS hC hC1 K S C hf)))
  exact K_ret (done_plain (by simp (disch := first | omega | assumption) only [go_sem, ↓reduceIte, Nat.reduceEqDiff, Nat.reduceAdd, Nat.reduceMul, Nat.reduceLT, Nat.reduceLeDiff, reduceCtorEq, Nat.reduceBEq, Int.reduceToNat, Int.reduceNeg, Res.av, badR]))
end Go.Proofs.YtiaiggbimlbkfaaGreatDoor
