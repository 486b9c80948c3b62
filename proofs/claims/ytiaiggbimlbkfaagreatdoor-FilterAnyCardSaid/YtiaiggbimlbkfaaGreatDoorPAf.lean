/- A part of the proof: the texts Q40, Q41, Q42, Q44, Q45, Q46, one behind the other. -/
import Derived.Test.YtiaiggbimlbkfaaGreatDoorPAe
set_option linter.unusedVariables false
set_option linter.unusedSimpArgs false
set_option linter.unusedSectionVars false
namespace Go.Proofs.YtiaiggbimlbkfaaGreatDoor
open Go Go.Ab Go.RowKit
set_option maxRecDepth 20000
set_option maxHeartbeats 4000000
theorem words_ok (l : Str) (hl : l.length ≤ 4000000000) (p : Oid) (hp : p.mono = false) : CallOK Tryz.prog 60 [.str l] (Oid.under p) ⟨[], .int .i64 (wordsB true l : Nat), []⟩ :=
  callOK_below (by kernel_rfl) hp fun g args w ha _ => by
    obtain ⟨v, rfl, hv⟩ := ha.one
    obtain ⟨b, rfl, hb⟩ := hv.str_inv
    rw [str_ba hb]
    refine (words_run l hl w).mono ?_
    rintro e w' ⟨rfl, pos, rfl⟩
    exact ⟨_, rfl, .int _ _, (Below.refl _ _).alloc (Nat.le_refl _) _⟩
theorem count_ok (l : Str) (c : UInt8) (sp : Oid → Prop) : CallOK Tryz.prog 59 [.str l, .str [c]] sp ⟨[], .int .i64 (l.count c : Nat), []⟩ :=
  callOK_same (by kernel_rfl) fun g args w ha _ => by
    obtain ⟨v, u, rfl, hv, hu⟩ := ha.two
    obtain ⟨b, rfl, hb⟩ := hv.str_inv
    obtain ⟨d, rfl, hd⟩ := hu.str_inv
    rw [str_ba hb, str_ba hd]
    refine (Tryz.strings_Count_one ⟨l.toArray⟩ c w).mono ?_
    rintro e w' ⟨rfl, rfl⟩
    exact ⟨_, rfl, .int _ _, rfl⟩
theorem join_ok (xs : List Str) (sep : Str) (hn : xs.length ≤ 140737488355328) (hlen : (Lib.join xs sep).length ≤ 140737488355328) (p : Oid) (hp : p.mono = false) :
    CallOK Tryz.prog 53 [.list 1 (xs.map AV.str), .str sep] (Oid.under p) ⟨[], .str (Lib.join xs sep), []⟩ :=
  callOK_below (by kernel_rfl) hp fun g args w ha ht => by
    obtain ⟨v, u, rfl, hv, hu⟩ := ha.two
    obtain ⟨sb, rfl, hsb⟩ := hu.str_inv
    rw [str_ba hsb]
    have none : ∀ a cap, xs = [] → Calls Tryz.prog 53 #[.slice a 0 cap, .string ⟨sep.toArray⟩] w fun en w' => ∃ v, en = .returned v ∧ VR g (.str (Lib.join xs sep)) v ∧ Below w.heap.size w w' := fun a cap h => by
      subst h
      refine (Tryz.strings_Join_none a cap ⟨sep.toArray⟩ w).mono ?_
      rintro e w' ⟨rfl, rfl⟩
      exact ⟨_, rfl, .str _ _ rfl, Below.refl _ _⟩
    rcases hv.list_inv with ⟨h0, h⟩ | ⟨b, o, cap, cs, rfl, hcap, _, hc, hcv⟩
    · have hx : xs = [] := List.map_eq_nil_iff.1 h0
      rcases h with rfl | ⟨a, cap, rfl⟩
      · exact none _ _ hx
      · exact none _ _ hx
    · rw [List.length_map] at hcap hc hcv
      by_cases hx : xs = []
      · have := none (some ⟨b, o, Option.none⟩) cap hx
        rw [List.length_map, hx]
        rw [hx] at this
        exact this
      · have hcell : ∀ j, j < xs.length → w.cell? ⟨b, o + j, Option.none⟩ = some (.string ⟨(xs.getD j []).toArray⟩) := fun j hj => by
          have h1 := hc j 0 hj (by omega)
          have h2 := hcv j 0 hj (by omega)
          have hgd : (xs.map AV.str).getD j .undef = .str (xs.getD j []) := by simp [List.getD_eq_getElem?_getD, List.getElem?_map, List.getElem?_eq_getElem hj]
          rw [hgd] at h2
          simp only [AV.cells, List.getD_cons_zero] at h2
          rw [Nat.mul_one, Nat.add_zero] at h1
          have h3 := ht.com _ _ _ h1
          rw [str_enc.1 h2] at h3
          exact h3
        have hlt : b < w.heap.size := block_lt (hcell 0 (List.length_pos_iff.2 hx))
        have hmap : (xs.map fun t => (⟨t.toArray⟩ : ByteArray)).map (·.data.toList) = xs := by rw [List.map_map]; exact List.map_id'' (fun _ => rfl) xs
        have key := Tryz.strings_Join b o cap (xs.map fun t => (⟨t.toArray⟩ : ByteArray)) ⟨sep.toArray⟩ w (fun j y hy => by
            rw [List.getElem?_map] at hy
            cases hj : xs[j]? with
            | none => rw [hj] at hy; cases hy
            | some t =>
              rw [hj] at hy
              simp only [Option.map_some, Option.some.injEq] at hy
              have hjl := (List.getElem?_eq_some_iff.1 hj).1
              have h5 := hcell j hjl
              rw [List.getD_eq_getElem?_getD, hj] at h5
              rw [← hy]; exact h5) hlt (by rw [List.length_map]; exact hn) (by rw [List.length_map]; exact hcap) (by rw [hmap]; exact hlen)
        rw [List.length_map] at key
        rw [List.length_map]
        refine key.mono ?_
        rintro e w' ⟨rfl, hb⟩
        exact ⟨_, rfl, .str _ _ (by rw [hmap]), hb⟩
/-- What wc tells; none: the arguments may not be. -/
def wcX (args : List Str) (t : Str) : Option Str :=
  match args with
  | [] => some (Lib.decDigits (t.count 10) ++ [32] ++ Lib.decDigits (wordsB true t) ++ [32] ++ Lib.decDigits t.length ++ [10])
  | [a] => if a = [45, 108] then some (Lib.decDigits (t.count 10) ++ [10]) else if a = [45, 119] then some (Lib.decDigits (wordsB true t) ++ [10]) else if a = [45, 99] then some (Lib.decDigits t.length ++ [10]) else none
  | _ => none
theorem joinTail_len (sep : Str) (M : Nat) : ∀ r : List Str, (∀ s ∈ r, s.length ≤ M) → (Lib.joinTail sep r).length ≤ r.length * (sep.length + M)
  | [], _ => by simp [Lib.joinTail]
  | s :: r, h => by
    have ih := joinTail_len sep M r fun t ht => h t (List.mem_cons_of_mem _ ht)
    have h1 := h s List.mem_cons_self
    have e : Lib.joinTail sep (s :: r) = sep ++ s ++ Lib.joinTail sep r := by simp [Lib.joinTail]
    rw [e, List.length_append, List.length_append, List.length_cons, Nat.add_mul, Nat.one_mul]; omega
theorem join_len (xs : List Str) (sep : Str) (M : Nat) (h : ∀ s ∈ xs, s.length ≤ M) : (Lib.join xs sep).length ≤ xs.length * (sep.length + M) := by
  cases xs with
  | nil => simp [Lib.join_nil]
  | cons s r =>
    have h1 := h s List.mem_cons_self
    have ih := joinTail_len sep M r fun t ht => h t (List.mem_cons_of_mem _ ht)
    rw [Lib.join_cons, List.length_append, List.length_cons, Nat.add_mul, Nat.one_mul]; omega
theorem wc_none (t : Str) (htl : t.length ≤ 4000000) (p : Oid) (hp : p.mono = false) :
    CallOK Tryz.prog 32 [.list 1 [], .str t] (Oid.under p) ⟨[], .tuple [(toldR (Lib.decDigits (t.count 10) ++ [32] ++ Lib.decDigits (wordsB true t) ++ [32] ++ Lib.decDigits t.length ++ [10])).av, .bool true], []⟩ := by
  have hc := List.count_le_length (a := (10 : UInt8)) (l := t)
  have hw := wordsB_le t true
  have d1 := decDigits_len (t.count 10) (by omega)
  have d2 := decDigits_len (wordsB true t) (by omega)
  have d3 := decDigits_len t.length (by omega)
  have hj : Lib.join [Lib.decDigits (t.count 10), Lib.decDigits (wordsB true t), Lib.decDigits t.length] [32] = Lib.decDigits (t.count 10) ++ [32] ++ Lib.decDigits (wordsB true t) ++ [32] ++ Lib.decDigits t.length := by simp [Lib.join, List.intercalate, List.intersperse]
  have hJ := fun p hp => join_ok [Lib.decDigits (t.count 10), Lib.decDigits (wordsB true t), Lib.decDigits t.length] [32] (by simp) (by rw [hj]; simp only [List.length_append, List.length_singleton]; omega) p hp
  have hJ0 := fun p hp => join_ok [] [32] (by decide) (by decide) p hp
  have hI := fun p => index_ok (Lib.join [] [32]) [[45, 108], [45, 119], [45, 99]] (by decide) p
  rw [hj] at hJ
  have i1 := fun p hp => itoaN_ok (t.count 10) (by omega) p hp
  have i2 := fun p hp => itoaN_ok (wordsB true t) (by omega) p hp
  have i3 := fun p hp => itoaN_ok t.length (by omega) p hp
  generalize Lib.decDigits (t.count 10) = x1 at d1 i1 hJ ⊢
  generalize Lib.decDigits (wordsB true t) = x2 at d2 i2 hJ ⊢
  generalize Lib.decDigits t.length = x3 at d3 i3 hJ ⊢
  generalize ixF (fun s => decide (Lib.join [] [32] = s)) [[45, 108], [45, 119], [45, 99]] = kk at hI
  simp only [List.map_cons, List.map_nil] at hJ hJ0 hI
  refine fnOK (n := 51) (rs := [.cell 4 32, .tmp 5]) Tryz.func32 rfl rfl (by decide) rfl rfl rfl ?_; rintro x rfl hrd hng
  (repeat (first | (refine K_ifT rfl rfl ?_) | (refine K_ifF rfl rfl ?_) | (refine K_ev nmd [] hng (by kernel_rfl) fun hf C S K hC1 hC hS hK => ?_; simp (disch := first | omega | assumption) only [go_sem]; (repeat ((first | refine hC1 _ (count_ok t 10 _) (by simp (disch := first | omega | assumption) only [go_sem]) ?_ | refine hC1 _ (i1 _ (mono_sub' rfl hp)) (by simp (disch := first | omega | assumption) only [go_sem]) ?_ | refine hC1 _ (words_ok t (by omega) _ (mono_sub' rfl hp)) (by simp (disch := first | omega | assumption) only [go_sem]) ?_ | refine hC1 _ (i2 _ (mono_sub' rfl hp)) (by simp (disch := first | omega | assumption) only [go_sem]) ?_ | refine hC1 _ (i3 _ (mono_sub' rfl hp)) (by simp (disch := first | omega | assumption) only [go_sem]) ?_ | refine hC1 _ (hJ _ (mono_sub' rfl hp)) (by simp (disch := first | omega | assumption) only [go_sem]) ?_ | refine hC1 _ (hJ0 _ (mono_sub' rfl hp)) (by simp (disch := first | omega | assumption) only [go_sem]) ?_ | refine hC1 _ (hI _) (by simp (disch := first | omega | assumption) only [go_sem]) ?_ | refine hC1 _ (told_x (x1 ++ [32] ++ x2 ++ [32] ++ x3 ++ [10]) _) (by simp (disch := first | omega | assumption) only [go_sem]) ?_); simp (disch := first | omega | assumption) only [go_sem])); refine hK ?_; clear hK hS hC hC1 K S C hf) | ((first | refine zk ?_ | refine zn ?_ | refine ze ?_); with_reducible (constructor; repeat constructor); try refine zl ?_)))
  exact K_ret (done_plain (by simp (disch := first | omega | assumption) only [go_sem, Res.av, toldR, badR, usageR]))
theorem wc_l (t : Str) (htl : t.length ≤ 4000000) (p : Oid) (hp : p.mono = false) :
    CallOK Tryz.prog 32 [.list 1 [.str [45, 108]], .str t] (Oid.under p) ⟨[], .tuple [(toldR (Lib.decDigits (t.count 10) ++ [10])).av, .bool true], []⟩ := by
  have hc := List.count_le_length (a := (10 : UInt8)) (l := t)
  have hw := wordsB_le t true
  have d1 := decDigits_len (t.count 10) (by omega)
  have d2 := decDigits_len (wordsB true t) (by omega)
  have d3 := decDigits_len t.length (by omega)
  have i1 := fun p hp => itoaN_ok (t.count 10) (by omega) p hp
  have i2 := fun p hp => itoaN_ok (wordsB true t) (by omega) p hp
  have i3 := fun p hp => itoaN_ok t.length (by omega) p hp
  have hJ0 := fun p hp => join_ok [[45, 108]] [32] (by decide) (by rw [Lib.join_one]; decide) p hp
  rw [Lib.join_one] at hJ0
  have hI := fun p => index_ok [45, 108] [[45, 108], [45, 119], [45, 99]] (by decide) p
  rw [show ixF (fun s => decide (([45, 108] : Str) = s)) [[45, 108], [45, 119], [45, 99]] = 0 by decide] at hI
  generalize Lib.decDigits (t.count 10) = x1 at d1 i1 ⊢
  generalize Lib.decDigits (wordsB true t) = x2 at d2 i2 ⊢
  generalize Lib.decDigits t.length = x3 at d3 i3 ⊢
  simp only [List.map_cons, List.map_nil] at hJ0 hI
  refine fnOK (n := 51) (rs := [.cell 4 32, .tmp 5]) Tryz.func32 rfl rfl (by decide) rfl rfl rfl ?_; rintro x rfl hrd hng
  (repeat (first | (refine K_ifT rfl rfl ?_) | (refine K_ifF rfl rfl ?_) | (refine K_ev nmd [] hng (by kernel_rfl) fun hf C S K hC1 hC hS hK => ?_; simp (disch := first | omega | assumption) only [go_sem, List.length_map, Int.reduceEq, Int.reduceNe, Int.reduceLT, Int.reduceLE]; (repeat ((first | refine hC1 _ (count_ok t 10 _) (by simp (disch := first | omega | assumption) only [go_sem]) ?_ | refine hC1 _ (i1 _ (mono_sub' rfl hp)) (by simp (disch := first | omega | assumption) only [go_sem]) ?_ | refine hC1 _ (words_ok t (by omega) _ (mono_sub' rfl hp)) (by simp (disch := first | omega | assumption) only [go_sem]) ?_ | refine hC1 _ (i2 _ (mono_sub' rfl hp)) (by simp (disch := first | omega | assumption) only [go_sem]) ?_ | refine hC1 _ (i3 _ (mono_sub' rfl hp)) (by simp (disch := first | omega | assumption) only [go_sem]) ?_ | refine hC1 _ (hJ0 _ (mono_sub' rfl hp)) (by simp (disch := first | omega | assumption) only [go_sem]) ?_ | refine hC1 _ (hI _) (by simp (disch := first | omega | assumption) only [go_sem]) ?_); simp (disch := first | omega | assumption) only [go_sem])); refine hK ?_; clear hK hS hC hC1 K S C hf) | ((first | refine zk ?_ | refine zn ?_ | refine ze ?_); with_reducible (constructor; repeat constructor); try refine zl ?_)))
  refine K_ev nmd [(3, 36)] hng (by kernel_rfl) fun hf C S K hC1 hC hS hK => ?_; simp (disch := first | omega | assumption) only [go_sem, decide_true, decide_false, ne_eq, not_true_eq_false, not_false_eq_true, List.length_map, Int.reduceEq, Int.reduceNe, Int.reduceLT, Int.reduceLE]
  (repeat' (first | (refine evG_split (fun hv => ?_) (fun hv => ?_) <;> (try simp only [zb1, zb2, zb3, zb4, zb5] at hv) <;> simp (disch := first | omega | assumption) only [go_sem, hv, decide_true, decide_false, ne_eq, not_true_eq_false, not_false_eq_true, List.length_map, Int.reduceEq, Int.reduceNe, Int.reduceLT, Int.reduceLE]) | (refine hK ?_; clear hK hS hC hC1 K S C hf)))
  all_goals first | contradiction | skip
  (repeat (first | (refine K_ifT rfl rfl ?_) | (refine K_ifF rfl rfl ?_) | (refine K_ev nmd [] hng (by kernel_rfl) fun hf C S K hC1 hC hS hK => ?_; simp (disch := first | omega | assumption) only [go_sem, List.length_map, Int.reduceEq, Int.reduceNe, Int.reduceLT, Int.reduceLE]; (repeat ((first | refine hC1 _ (told_x (x1 ++ [10]) _) (by simp (disch := first | omega | assumption) only [go_sem]) ?_); simp (disch := first | omega | assumption) only [go_sem])); refine hK ?_; clear hK hS hC hC1 K S C hf) | ((first | refine zk ?_ | refine zn ?_ | refine ze ?_); with_reducible (constructor; repeat constructor); try refine zl ?_)))
  exact K_ret (done_plain (by simp (disch := first | omega | assumption) only [go_sem, Res.av, toldR, badR, usageR]))
theorem wc_w (t : Str) (htl : t.length ≤ 4000000) (p : Oid) (hp : p.mono = false) :
    CallOK Tryz.prog 32 [.list 1 [.str [45, 119]], .str t] (Oid.under p) ⟨[], .tuple [(toldR (Lib.decDigits (wordsB true t) ++ [10])).av, .bool true], []⟩ := by
  have hc := List.count_le_length (a := (10 : UInt8)) (l := t)
  have hw := wordsB_le t true
  have d1 := decDigits_len (t.count 10) (by omega)
  have d2 := decDigits_len (wordsB true t) (by omega)
  have d3 := decDigits_len t.length (by omega)
  have i1 := fun p hp => itoaN_ok (t.count 10) (by omega) p hp
  have i2 := fun p hp => itoaN_ok (wordsB true t) (by omega) p hp
  have i3 := fun p hp => itoaN_ok t.length (by omega) p hp
  have hJ0 := fun p hp => join_ok [[45, 119]] [32] (by decide) (by rw [Lib.join_one]; decide) p hp
  rw [Lib.join_one] at hJ0
  have hI := fun p => index_ok [45, 119] [[45, 108], [45, 119], [45, 99]] (by decide) p
  rw [show ixF (fun s => decide (([45, 119] : Str) = s)) [[45, 108], [45, 119], [45, 99]] = 1 by decide] at hI
  generalize Lib.decDigits (t.count 10) = x1 at d1 i1 ⊢
  generalize Lib.decDigits (wordsB true t) = x2 at d2 i2 ⊢
  generalize Lib.decDigits t.length = x3 at d3 i3 ⊢
  simp only [List.map_cons, List.map_nil] at hJ0 hI
  refine fnOK (n := 51) (rs := [.cell 4 32, .tmp 5]) Tryz.func32 rfl rfl (by decide) rfl rfl rfl ?_; rintro x rfl hrd hng
  (repeat (first | (refine K_ifT rfl rfl ?_) | (refine K_ifF rfl rfl ?_) | (refine K_ev nmd [] hng (by kernel_rfl) fun hf C S K hC1 hC hS hK => ?_; simp (disch := first | omega | assumption) only [go_sem, List.length_map, Int.reduceEq, Int.reduceNe, Int.reduceLT, Int.reduceLE]; (repeat ((first | refine hC1 _ (count_ok t 10 _) (by simp (disch := first | omega | assumption) only [go_sem]) ?_ | refine hC1 _ (i1 _ (mono_sub' rfl hp)) (by simp (disch := first | omega | assumption) only [go_sem]) ?_ | refine hC1 _ (words_ok t (by omega) _ (mono_sub' rfl hp)) (by simp (disch := first | omega | assumption) only [go_sem]) ?_ | refine hC1 _ (i2 _ (mono_sub' rfl hp)) (by simp (disch := first | omega | assumption) only [go_sem]) ?_ | refine hC1 _ (i3 _ (mono_sub' rfl hp)) (by simp (disch := first | omega | assumption) only [go_sem]) ?_ | refine hC1 _ (hJ0 _ (mono_sub' rfl hp)) (by simp (disch := first | omega | assumption) only [go_sem]) ?_ | refine hC1 _ (hI _) (by simp (disch := first | omega | assumption) only [go_sem]) ?_); simp (disch := first | omega | assumption) only [go_sem])); refine hK ?_; clear hK hS hC hC1 K S C hf) | ((first | refine zk ?_ | refine zn ?_ | refine ze ?_); with_reducible (constructor; repeat constructor); try refine zl ?_)))
  refine K_ev nmd [(3, 36)] hng (by kernel_rfl) fun hf C S K hC1 hC hS hK => ?_; simp (disch := first | omega | assumption) only [go_sem, decide_true, decide_false, ne_eq, not_true_eq_false, not_false_eq_true, List.length_map, Int.reduceEq, Int.reduceNe, Int.reduceLT, Int.reduceLE]
  (repeat' (first | (refine evG_split (fun hv => ?_) (fun hv => ?_) <;> (try simp only [zb1, zb2, zb3, zb4, zb5] at hv) <;> simp (disch := first | omega | assumption) only [go_sem, hv, decide_true, decide_false, ne_eq, not_true_eq_false, not_false_eq_true, List.length_map, Int.reduceEq, Int.reduceNe, Int.reduceLT, Int.reduceLE]) | (refine hK ?_; clear hK hS hC hC1 K S C hf)))
  all_goals first | contradiction | skip
  (repeat (first | (refine K_ifT rfl rfl ?_) | (refine K_ifF rfl rfl ?_) | (refine K_ev nmd [] hng (by kernel_rfl) fun hf C S K hC1 hC hS hK => ?_; simp (disch := first | omega | assumption) only [go_sem, List.length_map, Int.reduceEq, Int.reduceNe, Int.reduceLT, Int.reduceLE]; (repeat ((first | refine hC1 _ (told_x (x2 ++ [10]) _) (by simp (disch := first | omega | assumption) only [go_sem]) ?_); simp (disch := first | omega | assumption) only [go_sem])); refine hK ?_; clear hK hS hC hC1 K S C hf) | ((first | refine zk ?_ | refine zn ?_ | refine ze ?_); with_reducible (constructor; repeat constructor); try refine zl ?_)))
  exact K_ret (done_plain (by simp (disch := first | omega | assumption) only [go_sem, Res.av, toldR, badR, usageR]))
theorem wc_c (t : Str) (htl : t.length ≤ 4000000) (p : Oid) (hp : p.mono = false) :
    CallOK Tryz.prog 32 [.list 1 [.str [45, 99]], .str t] (Oid.under p) ⟨[], .tuple [(toldR (Lib.decDigits t.length ++ [10])).av, .bool true], []⟩ := by
  have hc := List.count_le_length (a := (10 : UInt8)) (l := t)
  have hw := wordsB_le t true
  have d1 := decDigits_len (t.count 10) (by omega)
  have d2 := decDigits_len (wordsB true t) (by omega)
  have d3 := decDigits_len t.length (by omega)
  have i1 := fun p hp => itoaN_ok (t.count 10) (by omega) p hp
  have i2 := fun p hp => itoaN_ok (wordsB true t) (by omega) p hp
  have i3 := fun p hp => itoaN_ok t.length (by omega) p hp
  have hJ0 := fun p hp => join_ok [[45, 99]] [32] (by decide) (by rw [Lib.join_one]; decide) p hp
  rw [Lib.join_one] at hJ0
  have hI := fun p => index_ok [45, 99] [[45, 108], [45, 119], [45, 99]] (by decide) p
  rw [show ixF (fun s => decide (([45, 99] : Str) = s)) [[45, 108], [45, 119], [45, 99]] = 2 by decide] at hI
  generalize Lib.decDigits (t.count 10) = x1 at d1 i1 ⊢
  generalize Lib.decDigits (wordsB true t) = x2 at d2 i2 ⊢
  generalize Lib.decDigits t.length = x3 at d3 i3 ⊢
  simp only [List.map_cons, List.map_nil] at hJ0 hI
  refine fnOK (n := 51) (rs := [.cell 4 32, .tmp 5]) Tryz.func32 rfl rfl (by decide) rfl rfl rfl ?_; rintro x rfl hrd hng
  (repeat (first | (refine K_ifT rfl rfl ?_) | (refine K_ifF rfl rfl ?_) | (refine K_ev nmd [] hng (by kernel_rfl) fun hf C S K hC1 hC hS hK => ?_; simp (disch := first | omega | assumption) only [go_sem, List.length_map, Int.reduceEq, Int.reduceNe, Int.reduceLT, Int.reduceLE]; (repeat ((first | refine hC1 _ (count_ok t 10 _) (by simp (disch := first | omega | assumption) only [go_sem]) ?_ | refine hC1 _ (i1 _ (mono_sub' rfl hp)) (by simp (disch := first | omega | assumption) only [go_sem]) ?_ | refine hC1 _ (words_ok t (by omega) _ (mono_sub' rfl hp)) (by simp (disch := first | omega | assumption) only [go_sem]) ?_ | refine hC1 _ (i2 _ (mono_sub' rfl hp)) (by simp (disch := first | omega | assumption) only [go_sem]) ?_ | refine hC1 _ (i3 _ (mono_sub' rfl hp)) (by simp (disch := first | omega | assumption) only [go_sem]) ?_ | refine hC1 _ (hJ0 _ (mono_sub' rfl hp)) (by simp (disch := first | omega | assumption) only [go_sem]) ?_ | refine hC1 _ (hI _) (by simp (disch := first | omega | assumption) only [go_sem]) ?_); simp (disch := first | omega | assumption) only [go_sem])); refine hK ?_; clear hK hS hC hC1 K S C hf) | ((first | refine zk ?_ | refine zn ?_ | refine ze ?_); with_reducible (constructor; repeat constructor); try refine zl ?_)))
  refine K_ev nmd [(3, 36)] hng (by kernel_rfl) fun hf C S K hC1 hC hS hK => ?_; simp (disch := first | omega | assumption) only [go_sem, decide_true, decide_false, ne_eq, not_true_eq_false, not_false_eq_true, List.length_map, Int.reduceEq, Int.reduceNe, Int.reduceLT, Int.reduceLE]
  (repeat' (first | (refine evG_split (fun hv => ?_) (fun hv => ?_) <;> (try simp only [zb1, zb2, zb3, zb4, zb5] at hv) <;> simp (disch := first | omega | assumption) only [go_sem, hv, decide_true, decide_false, ne_eq, not_true_eq_false, not_false_eq_true, List.length_map, Int.reduceEq, Int.reduceNe, Int.reduceLT, Int.reduceLE]) | (refine hK ?_; clear hK hS hC hC1 K S C hf)))
  all_goals first | contradiction | skip
  (repeat (first | (refine K_ifT rfl rfl ?_) | (refine K_ifF rfl rfl ?_) | (refine K_ev nmd [] hng (by kernel_rfl) fun hf C S K hC1 hC hS hK => ?_; simp (disch := first | omega | assumption) only [go_sem, List.length_map, Int.reduceEq, Int.reduceNe, Int.reduceLT, Int.reduceLE]; (repeat ((first | refine hC1 _ (told_x (x3 ++ [10]) _) (by simp (disch := first | omega | assumption) only [go_sem]) ?_); simp (disch := first | omega | assumption) only [go_sem])); refine hK ?_; clear hK hS hC hC1 K S C hf) | ((first | refine zk ?_ | refine zn ?_ | refine ze ?_); with_reducible (constructor; repeat constructor); try refine zl ?_)))
  exact K_ret (done_plain (by simp (disch := first | omega | assumption) only [go_sem, Res.av, toldR, badR, usageR]))
theorem wc_odd (a t : Str) (ha : a.length ≤ 4000000) (h1 : ¬ a = [45, 108]) (h2 : ¬ a = [45, 119]) (h3 : ¬ a = [45, 99]) (htl : t.length ≤ 4000000) (p : Oid) (hp : p.mono = false) :
    CallOK Tryz.prog 32 [.list 1 [.str a], .str t] (Oid.under p) ⟨[], .tuple [badR.av, .bool false], []⟩ := by
  have hc := List.count_le_length (a := (10 : UInt8)) (l := t)
  have hw := wordsB_le t true
  have d1 := decDigits_len (t.count 10) (by omega)
  have d2 := decDigits_len (wordsB true t) (by omega)
  have d3 := decDigits_len t.length (by omega)
  have i1 := fun p hp => itoaN_ok (t.count 10) (by omega) p hp
  have i2 := fun p hp => itoaN_ok (wordsB true t) (by omega) p hp
  have i3 := fun p hp => itoaN_ok t.length (by omega) p hp
  have hJ0 := fun p hp => join_ok [a] [32] (by simp) (by rw [Lib.join_one]; omega) p hp
  rw [Lib.join_one] at hJ0
  have hI := fun p => index_ok a [[45, 108], [45, 119], [45, 99]] (by decide) p
  rw [show ixF (fun s => decide (a = s)) [[45, 108], [45, 119], [45, 99]] = -1 by simp [ixF, h1, h2, h3]] at hI
  simp only [List.map_cons, List.map_nil] at hJ0 hI
  refine fnOK (n := 51) (rs := [.cell 4 32, .tmp 5]) Tryz.func32 rfl rfl (by decide) rfl rfl rfl ?_; rintro x rfl hrd hng
  (repeat (first | (refine K_ifT rfl rfl ?_) | (refine K_ifF rfl rfl ?_) | (refine K_ev nmd [] hng (by kernel_rfl) fun hf C S K hC1 hC hS hK => ?_; simp (disch := first | omega | assumption) only [go_sem, List.length_map, Int.reduceEq, Int.reduceNe, Int.reduceLT, Int.reduceLE]; (repeat ((first | refine hC1 _ (count_ok t 10 _) (by simp (disch := first | omega | assumption) only [go_sem]) ?_ | refine hC1 _ (i1 _ (mono_sub' rfl hp)) (by simp (disch := first | omega | assumption) only [go_sem]) ?_ | refine hC1 _ (words_ok t (by omega) _ (mono_sub' rfl hp)) (by simp (disch := first | omega | assumption) only [go_sem]) ?_ | refine hC1 _ (i2 _ (mono_sub' rfl hp)) (by simp (disch := first | omega | assumption) only [go_sem]) ?_ | refine hC1 _ (i3 _ (mono_sub' rfl hp)) (by simp (disch := first | omega | assumption) only [go_sem]) ?_ | refine hC1 _ (hJ0 _ (mono_sub' rfl hp)) (by simp (disch := first | omega | assumption) only [go_sem]) ?_ | refine hC1 _ (hI _) (by simp (disch := first | omega | assumption) only [go_sem]) ?_); simp (disch := first | omega | assumption) only [go_sem])); refine hK ?_; clear hK hS hC hC1 K S C hf) | ((first | refine zk ?_ | refine zn ?_ | refine ze ?_); with_reducible (constructor; repeat constructor); try refine zl ?_)))
  refine K_ev nmd [(3, 36)] hng (by kernel_rfl) fun hf C S K hC1 hC hS hK => ?_; simp (disch := first | omega | assumption) only [go_sem, decide_true, decide_false, ne_eq, not_true_eq_false, not_false_eq_true, List.length_map, Int.reduceEq, Int.reduceNe, Int.reduceLT, Int.reduceLE]
  (repeat' (first | (refine evG_split (fun hv => ?_) (fun hv => ?_) <;> (try simp only [zb1, zb2, zb3, zb4, zb5] at hv) <;> simp (disch := first | omega | assumption) only [go_sem, hv, decide_true, decide_false, ne_eq, not_true_eq_false, not_false_eq_true, List.length_map, Int.reduceEq, Int.reduceNe, Int.reduceLT, Int.reduceLE]) | (refine hK ?_; clear hK hS hC hC1 K S C hf)))
  all_goals first | contradiction | skip
  (repeat (first | (refine K_ifT rfl rfl ?_) | (refine K_ifF rfl rfl ?_) | (refine K_ev nmd [] hng (by kernel_rfl) fun hf C S K hC1 hC hS hK => ?_; simp (disch := first | omega | assumption) only [go_sem, List.length_map, Int.reduceEq, Int.reduceNe, Int.reduceLT, Int.reduceLE]; (repeat ((first | refine hC1 _ (bad_x _) (by simp (disch := first | omega | assumption) only [go_sem]) ?_); simp (disch := first | omega | assumption) only [go_sem])); refine hK ?_; clear hK hS hC hC1 K S C hf) | ((first | refine zk ?_ | refine zn ?_ | refine ze ?_); with_reducible (constructor; repeat constructor); try refine zl ?_)))
  exact K_ret (done_plain (by simp (disch := first | omega | assumption) only [go_sem, Res.av, badR]))
theorem wc_many (args : List Str) (ha : ∀ s ∈ args, s.length ≤ 4000000) (hal : args.length ≤ 4000000) (h0 : ¬ args.length = 0) (h1 : ¬ args.length = 1) (t : Str) (htl : t.length ≤ 4000000) (p : Oid) (hp : p.mono = false) :
    CallOK Tryz.prog 32 [.list 1 (args.map AV.str), .str t] (Oid.under p) ⟨[], .tuple [badR.av, .bool false], []⟩ := by
  have hc := List.count_le_length (a := (10 : UInt8)) (l := t)
  have hw := wordsB_le t true
  have d1 := decDigits_len (t.count 10) (by omega)
  have d2 := decDigits_len (wordsB true t) (by omega)
  have d3 := decDigits_len t.length (by omega)
  have i1 := fun p hp => itoaN_ok (t.count 10) (by omega) p hp
  have i2 := fun p hp => itoaN_ok (wordsB true t) (by omega) p hp
  have i3 := fun p hp => itoaN_ok t.length (by omega) p hp
  have hjl := join_len args [32] 4000000 ha
  have hjm : args.length * (([32] : Str).length + 4000000) ≤ 140737488355328 := by
    rw [List.length_singleton]; omega
  have hJ0 := fun p hp => join_ok args [32] (by omega) (by omega) p hp
  have hI := fun p => index_ok (Lib.join args [32]) [[45, 108], [45, 119], [45, 99]] (by decide) p
  generalize Lib.join args [32] = x0 at hJ0 hI
  generalize ixF (fun s => decide (x0 = s)) [[45, 108], [45, 119], [45, 99]] = kk at hI
  simp only [List.map_cons, List.map_nil] at hI
  have hz0 : ((args.length : Int) = 0) = False := eq_false (by omega)
  have hz1 : ((args.length : Int) = 1) = False := eq_false (by omega)
  refine fnOK (n := 51) (rs := [.cell 4 32, .tmp 5]) Tryz.func32 rfl rfl (by decide) rfl rfl rfl ?_; rintro x rfl hrd hng
  (repeat (first | (refine K_ifT rfl rfl ?_) | (refine K_ifF rfl rfl ?_) | (refine K_ev nmd [] hng (by kernel_rfl) fun hf C S K hC1 hC hS hK => ?_; simp (disch := first | omega | assumption) only [go_sem, List.length_map, Int.reduceEq, Int.reduceNe, Int.reduceLT, Int.reduceLE, hz0, decide_true, decide_false, ne_eq, not_true_eq_false, not_false_eq_true]; (repeat ((first | refine hC1 _ (count_ok t 10 _) (by simp (disch := first | omega | assumption) only [go_sem]) ?_ | refine hC1 _ (i1 _ (mono_sub' rfl hp)) (by simp (disch := first | omega | assumption) only [go_sem]) ?_ | refine hC1 _ (words_ok t (by omega) _ (mono_sub' rfl hp)) (by simp (disch := first | omega | assumption) only [go_sem]) ?_ | refine hC1 _ (i2 _ (mono_sub' rfl hp)) (by simp (disch := first | omega | assumption) only [go_sem]) ?_ | refine hC1 _ (i3 _ (mono_sub' rfl hp)) (by simp (disch := first | omega | assumption) only [go_sem]) ?_ | refine hC1 _ (hJ0 _ (mono_sub' rfl hp)) (by simp (disch := first | omega | assumption) only [go_sem]) ?_ | refine hC1 _ (hI _) (by simp (disch := first | omega | assumption) only [go_sem]) ?_); simp (disch := first | omega | assumption) only [go_sem])); refine hK ?_; clear hK hS hC hC1 K S C hf) | ((first | refine zk ?_ | refine zn ?_ | refine ze ?_); with_reducible (constructor; repeat constructor); try refine zl ?_)))
  refine K_ev nmd [(3, 36)] hng (by kernel_rfl) fun hf C S K hC1 hC hS hK => ?_; simp (disch := first | omega | assumption) only [go_sem, decide_true, decide_false, ne_eq, not_true_eq_false, not_false_eq_true, List.length_map, Int.reduceEq, Int.reduceNe, Int.reduceLT, Int.reduceLE, hz1]
  (repeat' (first | (refine evG_split (fun hv => ?_) (fun hv => ?_) <;> (try simp only [zb1, zb2, zb3, zb4, zb5] at hv) <;> simp (disch := first | omega | assumption) only [go_sem, hv, decide_true, decide_false, ne_eq, not_true_eq_false, not_false_eq_true, List.length_map, Int.reduceEq, Int.reduceNe, Int.reduceLT, Int.reduceLE, hz1]) | (refine hK ?_; clear hK hS hC hC1 K S C hf)))
  all_goals first | contradiction | skip
  (repeat (first | (refine K_ifT rfl rfl ?_) | (refine K_ifF rfl rfl ?_) | (refine K_ev nmd [] hng (by kernel_rfl) fun hf C S K hC1 hC hS hK => ?_; simp (disch := first | omega | assumption) only [go_sem, List.length_map, Int.reduceEq, Int.reduceNe, Int.reduceLT, Int.reduceLE]; (repeat ((first | refine hC1 _ (bad_x _) (by simp (disch := first | omega | assumption) only [go_sem]) ?_); simp (disch := first | omega | assumption) only [go_sem])); refine hK ?_; clear hK hS hC hC1 K S C hf) | ((first | refine zk ?_ | refine zn ?_ | refine ze ?_); with_reducible (constructor; repeat constructor); try refine zl ?_)))
  exact K_ret (done_plain (by simp (disch := first | omega | assumption) only [go_sem, Res.av, badR]))
end Go.Proofs.YtiaiggbimlbkfaaGreatDoor
namespace Go.Proofs.YtiaiggbimlbkfaaGreatDoor
open Go Go.Ab
set_option maxRecDepth 20000
set_option maxHeartbeats 4000000
theorem blankB_int (b : UInt8) : blankB b = (decide ((b.toNat : Int) = 32) || decide ((b.toNat : Int) = 9) || decide ((b.toNat : Int) = 10)) := by
  unfold blankB
  congr 1
  · congr 1
    · exact decide_eq_decide.2 (by omega)
    · exact decide_eq_decide.2 (by omega)
  · exact decide_eq_decide.2 (by omega)
theorem count_take_succ {t : Str} {i : Nat} (h : i < t.length) : (t.take (i + 1)).count 10 = (t.take i).count 10 + if t.getD i 0 = 10 then 1 else 0 := by
  rw [List.take_add_one, List.count_append, List.getElem?_eq_getElem h, List.getD_eq_getElem?_getD, List.getElem?_eq_getElem h]
  simp only [Option.toList, Option.getD_some, List.count_singleton, beq_iff_eq]
theorem countRef_ok (args : List Str) (t : Str) (htl : t.length ≤ 4000000) (p : Oid) :
    CallOK Tryz.prog 43 [.list 1 (args.map AV.str), .str t] (Oid.under p) ⟨[], (match wcX args t with | some o => toldR o | none => usageR [119, 99]).av, []⟩ := by
  have hu := fun p => usageR_ok [119, 99] (by decide) p
  simp only [Res.av, usageR] at hu
  have hc := List.count_le_length (a := (10 : UInt8)) (l := t)
  have hw := wordsB_le t true
  have d1 := decDigits_len (t.count 10) (by omega)
  have d2 := decDigits_len (wordsB true t) (by omega)
  have d3 := decDigits_len t.length (by omega)
  have i1 := fun p => digits13_ok (t.count 10) (by omega) p
  have i2 := fun p => digits13_ok (wordsB true t) (by omega) p
  have i3 := fun p => digits13_ok t.length (by omega) p
  refine fnOK (n := 111) (rs := [.cell 4 32]) Tryz.func43 rfl rfl (by decide) rfl rfl rfl ?_; rintro x rfl hrd hng
  (repeat (first | (refine K_ifT rfl rfl ?_) | (refine K_ifF rfl rfl ?_) | (refine K_ev nmd [] hng (by kernel_rfl) fun hf C S K hC1 hC hS hK => ?_; simp (disch := first | omega | assumption) only [go_sem]; refine hK ?_; clear hK hS hC hC1 K S C hf) | ((first | refine zk ?_ | refine zn ?_ | refine ze ?_); with_reducible (constructor; repeat constructor); try refine zl ?_)))
  refine K_loop [0, 1, 4, 5, 6, 7, 8] (fun k s' => ∃ (i w c : Nat) (had : Bool), k = t.length - i ∧ i ≤ t.length ∧ w + wordsB (!had) (t.drop i) = wordsB true t ∧
    s' = ⟨[(0, .list 1 (args.map AV.str)), (1, .str t), (4, .ptr (.sub 0 0 x.p) 0), (5, .int .i64 ((t.take i).count 10 : Nat)), (6, .int .i64 (w : Int)), (7, .bool had), (8, .int .i64 i)], Mem.of [(.sub 0 0 x.p, .cells [.int .i64 0, .str [], .str []])], c, []⟩) _ ⟨0, 0, _, false, rfl, Nat.zero_le _, by simp, rfl⟩ ?_
  rintro k s' ⟨i, w, c, had, rfl, hi, hwd, rfl⟩
  (repeat (first | (refine K_ifT rfl rfl ?_) | (refine K_ifF rfl rfl ?_) | (refine K_ev nmd [] hng (by kernel_rfl) fun hf C S K hC1 hC hS hK => ?_; simp (disch := first | omega | assumption) only [go_sem]; refine hK ?_; clear hK hS hC hC1 K S C hf) | ((first | refine zk ?_ | refine zn ?_ | refine ze ?_); with_reducible (constructor; repeat constructor); try refine zl ?_)))
  refine K_ifd rfl rfl (fun hb => ?_) (fun hb => ?_)
  · have hlt : i < t.length := by omega
    have hct := count_take_succ hlt
    have hcl : (t.take i).count 10 ≤ i := Nat.le_trans List.count_le_length (by rw [List.length_take]; omega)
    have hd : t.drop i = t.getD i 0 :: t.drop (i + 1) := drop_cons0 hlt
    rw [hd, wordsB] at hwd
    have hbi := blankB_int (t.getD i 0)
    have h10 : ((t.getD i 0).toNat : Int) = 10 ↔ t.getD i 0 = 10 := ⟨fun h => UInt8.toNat_inj.1 (by have : (10 : UInt8).toNat = 10 := rfl; omega), fun h => by rw [h]; rfl⟩
    generalize hcn : (t.take i).count 10 = cn at hct hcl
    generalize hb0 : t.getD i 0 = b at hct hwd hbi h10 hd ⊢
    (try ((first | refine zk ?_ | refine zn ?_ | refine ze ?_); with_reducible (constructor; repeat constructor)); try refine zl ?_)
    refine K_cut [0, 1, 4, 5, 6, 7, 8, 9] (fun s' => ∃ (v : Bool) (c' : Nat), s' = ⟨[(0, .list 1 (args.map AV.str)), (1, .str t), (4, .ptr (.sub 0 0 x.p) 0), (5, .int .i64 (cn : Int)), (6, .int .i64 (w : Int)), (7, .bool had), (8, .int .i64 i), (9, .bool v)], Mem.of [(.sub 0 0 x.p, .cells [.int .i64 0, .str [], .str []])], c', []⟩ ∧ v = blankB b) ?_ ?_
    · rw [hbi]
      refine K_ev nmd [(4, 23), (10, 29)] hng (by kernel_rfl) fun hf C S K hC1 hC hS hK => ?_; simp (disch := first | omega | assumption) only [go_sem, hb0, decide_true, decide_false, ne_eq, not_true_eq_false, not_false_eq_true]
      (repeat' (first | (refine evG_split (fun hv => ?_) (fun hv => ?_) <;> (try simp only [zb1, zb2, zb3, zb4, zb5] at hv) <;> simp (disch := first | omega | assumption) only [go_sem, hv, hb0, decide_true, decide_false, ne_eq, not_true_eq_false, not_false_eq_true]) | (refine hK ?_; clear hK hS hC hC1 K S C hf)))
      · rename_i h1
        exact K_cutN ⟨_, _, rfl, by rw [decide_eq_false h1, decide_eq_false hv, Bool.false_or, Bool.false_or]⟩
      · rename_i h1
        exact K_cutN ⟨_, _, rfl, by rw [decide_eq_false h1, decide_eq_true hv]; rfl⟩
      · exact K_cutN ⟨_, _, rfl, by rw [decide_eq_true hv]; rfl⟩
    rintro s' ⟨v, c', rfl, hv⟩
    rw [← hv] at hwd
    clear hv hbi
    cases v <;> cases had <;> simp only [Bool.not_true, Bool.not_false, Bool.true_eq_false, Bool.false_eq_true, and_self, and_true, and_false, false_and, if_true, if_false, Nat.zero_add] at hwd
    · (repeat (first | (refine K_ifT rfl rfl ?_) | (refine K_ifF rfl rfl ?_) | (refine K_ev nmd [] hng (by kernel_rfl) fun hf C S K hC1 hC hS hK => ?_; simp (disch := first | omega | assumption) only [go_sem, hb0]; (repeat ((first | refine hC1 _ () (by simp (disch := first | omega | assumption) only [go_sem]) ?_); simp (disch := first | omega | assumption) only [go_sem])); refine hK ?_; clear hK hS hC hC1 K S C hf) | ((first | refine zk ?_ | refine zn ?_ | refine ze ?_); with_reducible (constructor; repeat constructor); try refine zl ?_)))
      refine K_ifd rfl rfl (fun hb => ?_) (fun hb => ?_)
      · rw [if_pos (h10.1 hb)] at hct
        (repeat (first | (refine K_ifT rfl rfl ?_) | (refine K_ifF rfl rfl ?_) | (refine K_ev nmd [] hng (by kernel_rfl) fun hf C S K hC1 hC hS hK => ?_; simp (disch := first | omega | assumption) only [go_sem]; refine hK ?_; clear hK hS hC hC1 K S C hf) | ((first | refine zk ?_ | refine zn ?_ | refine ze ?_); with_reducible (constructor; repeat constructor); try refine zl ?_)))
        refine K_ev nmd [(2, 43)] hng (by kernel_rfl) fun hf C S K hC1 hC hS hK => ?_; simp (disch := first | omega | assumption) only [go_sem, decide_true, decide_false, ne_eq, not_true_eq_false, not_false_eq_true, Bool.not_true, Bool.not_false]
        refine hK ?_; clear hK hS hC hC1 K S C hf
        (repeat (first | (refine K_ifT rfl rfl ?_) | (refine K_ifF rfl rfl ?_) | (refine K_ev nmd [] hng (by kernel_rfl) fun hf C S K hC1 hC hS hK => ?_; simp (disch := first | omega | assumption) only [go_sem, Bool.not_true, Bool.not_false]; (repeat ((first | refine hC1 _ () (by simp (disch := first | omega | assumption) only [go_sem]) ?_); simp (disch := first | omega | assumption) only [go_sem])); refine hK ?_; clear hK hS hC hC1 K S C hf) | ((first | refine zk ?_ | refine zn ?_ | refine ze ?_); with_reducible (constructor; repeat constructor); try refine zl ?_)))
        refine ⟨_, _, ?_, fun _ _ h => h, i + 1, w + 1, c' + 1 + 1 + 1 + 1 + 1 + 1, true, rfl, by omega, by simp only [Bool.not_true, Bool.not_false]; omega, ?_⟩
        · omega
        · rw [hct]; rfl
      · rw [if_neg (fun e => hb (h10.2 e))] at hct
        (repeat (first | (refine K_ifT rfl rfl ?_) | (refine K_ifF rfl rfl ?_) | (refine K_ev nmd [] hng (by kernel_rfl) fun hf C S K hC1 hC hS hK => ?_; simp (disch := first | omega | assumption) only [go_sem]; refine hK ?_; clear hK hS hC hC1 K S C hf) | ((first | refine zk ?_ | refine zn ?_ | refine ze ?_); with_reducible (constructor; repeat constructor); try refine zl ?_)))
        refine K_ev nmd [(2, 43)] hng (by kernel_rfl) fun hf C S K hC1 hC hS hK => ?_; simp (disch := first | omega | assumption) only [go_sem, decide_true, decide_false, ne_eq, not_true_eq_false, not_false_eq_true, Bool.not_true, Bool.not_false]
        refine hK ?_; clear hK hS hC hC1 K S C hf
        (repeat (first | (refine K_ifT rfl rfl ?_) | (refine K_ifF rfl rfl ?_) | (refine K_ev nmd [] hng (by kernel_rfl) fun hf C S K hC1 hC hS hK => ?_; simp (disch := first | omega | assumption) only [go_sem, Bool.not_true, Bool.not_false]; (repeat ((first | refine hC1 _ () (by simp (disch := first | omega | assumption) only [go_sem]) ?_); simp (disch := first | omega | assumption) only [go_sem])); refine hK ?_; clear hK hS hC hC1 K S C hf) | ((first | refine zk ?_ | refine zn ?_ | refine ze ?_); with_reducible (constructor; repeat constructor); try refine zl ?_)))
        refine ⟨_, _, ?_, fun _ _ h => h, i + 1, w + 1, c' + 1 + 1 + 1 + 1 + 1, true, rfl, by omega, by simp only [Bool.not_true, Bool.not_false]; omega, ?_⟩
        · omega
        · rw [hct]; rfl
    · (repeat (first | (refine K_ifT rfl rfl ?_) | (refine K_ifF rfl rfl ?_) | (refine K_ev nmd [] hng (by kernel_rfl) fun hf C S K hC1 hC hS hK => ?_; simp (disch := first | omega | assumption) only [go_sem, hb0]; (repeat ((first | refine hC1 _ () (by simp (disch := first | omega | assumption) only [go_sem]) ?_); simp (disch := first | omega | assumption) only [go_sem])); refine hK ?_; clear hK hS hC hC1 K S C hf) | ((first | refine zk ?_ | refine zn ?_ | refine ze ?_); with_reducible (constructor; repeat constructor); try refine zl ?_)))
      refine K_ifd rfl rfl (fun hb => ?_) (fun hb => ?_)
      · rw [if_pos (h10.1 hb)] at hct
        (repeat (first | (refine K_ifT rfl rfl ?_) | (refine K_ifF rfl rfl ?_) | (refine K_ev nmd [] hng (by kernel_rfl) fun hf C S K hC1 hC hS hK => ?_; simp (disch := first | omega | assumption) only [go_sem]; refine hK ?_; clear hK hS hC hC1 K S C hf) | ((first | refine zk ?_ | refine zn ?_ | refine ze ?_); with_reducible (constructor; repeat constructor); try refine zl ?_)))
        refine K_ev nmd [(2, 43)] hng (by kernel_rfl) fun hf C S K hC1 hC hS hK => ?_; simp (disch := first | omega | assumption) only [go_sem, decide_true, decide_false, ne_eq, not_true_eq_false, not_false_eq_true, Bool.not_true, Bool.not_false]
        refine hK ?_; clear hK hS hC hC1 K S C hf
        (repeat (first | (refine K_ifT rfl rfl ?_) | (refine K_ifF rfl rfl ?_) | (refine K_ev nmd [] hng (by kernel_rfl) fun hf C S K hC1 hC hS hK => ?_; simp (disch := first | omega | assumption) only [go_sem, Bool.not_true, Bool.not_false]; (repeat ((first | refine hC1 _ () (by simp (disch := first | omega | assumption) only [go_sem]) ?_); simp (disch := first | omega | assumption) only [go_sem])); refine hK ?_; clear hK hS hC hC1 K S C hf) | ((first | refine zk ?_ | refine zn ?_ | refine ze ?_); with_reducible (constructor; repeat constructor); try refine zl ?_)))
        refine ⟨_, _, ?_, fun _ _ h => h, i + 1, w, c' + 1 + 1 + 1 + 1 + 1, true, rfl, by omega, by simp only [Bool.not_true, Bool.not_false]; omega, ?_⟩
        · omega
        · rw [hct]; rfl
      · rw [if_neg (fun e => hb (h10.2 e))] at hct
        (repeat (first | (refine K_ifT rfl rfl ?_) | (refine K_ifF rfl rfl ?_) | (refine K_ev nmd [] hng (by kernel_rfl) fun hf C S K hC1 hC hS hK => ?_; simp (disch := first | omega | assumption) only [go_sem]; refine hK ?_; clear hK hS hC hC1 K S C hf) | ((first | refine zk ?_ | refine zn ?_ | refine ze ?_); with_reducible (constructor; repeat constructor); try refine zl ?_)))
        refine K_ev nmd [(2, 43)] hng (by kernel_rfl) fun hf C S K hC1 hC hS hK => ?_; simp (disch := first | omega | assumption) only [go_sem, decide_true, decide_false, ne_eq, not_true_eq_false, not_false_eq_true, Bool.not_true, Bool.not_false]
        refine hK ?_; clear hK hS hC hC1 K S C hf
        (repeat (first | (refine K_ifT rfl rfl ?_) | (refine K_ifF rfl rfl ?_) | (refine K_ev nmd [] hng (by kernel_rfl) fun hf C S K hC1 hC hS hK => ?_; simp (disch := first | omega | assumption) only [go_sem, Bool.not_true, Bool.not_false]; (repeat ((first | refine hC1 _ () (by simp (disch := first | omega | assumption) only [go_sem]) ?_); simp (disch := first | omega | assumption) only [go_sem])); refine hK ?_; clear hK hS hC hC1 K S C hf) | ((first | refine zk ?_ | refine zn ?_ | refine ze ?_); with_reducible (constructor; repeat constructor); try refine zl ?_)))
        refine ⟨_, _, ?_, fun _ _ h => h, i + 1, w, c' + 1 + 1 + 1 + 1, true, rfl, by omega, by simp only [Bool.not_true, Bool.not_false]; omega, ?_⟩
        · omega
        · rw [hct]; rfl
    · (repeat (first | (refine K_ifT rfl rfl ?_) | (refine K_ifF rfl rfl ?_) | (refine K_ev nmd [] hng (by kernel_rfl) fun hf C S K hC1 hC hS hK => ?_; simp (disch := first | omega | assumption) only [go_sem, hb0]; (repeat ((first | refine hC1 _ () (by simp (disch := first | omega | assumption) only [go_sem]) ?_); simp (disch := first | omega | assumption) only [go_sem])); refine hK ?_; clear hK hS hC hC1 K S C hf) | ((first | refine zk ?_ | refine zn ?_ | refine ze ?_); with_reducible (constructor; repeat constructor); try refine zl ?_)))
      refine K_ifd rfl rfl (fun hb => ?_) (fun hb => ?_)
      · rw [if_pos (h10.1 hb)] at hct
        (repeat (first | (refine K_ifT rfl rfl ?_) | (refine K_ifF rfl rfl ?_) | (refine K_ev nmd [] hng (by kernel_rfl) fun hf C S K hC1 hC hS hK => ?_; simp (disch := first | omega | assumption) only [go_sem]; refine hK ?_; clear hK hS hC hC1 K S C hf) | ((first | refine zk ?_ | refine zn ?_ | refine ze ?_); with_reducible (constructor; repeat constructor); try refine zl ?_)))
        refine K_ev nmd [(2, 43)] hng (by kernel_rfl) fun hf C S K hC1 hC hS hK => ?_; simp (disch := first | omega | assumption) only [go_sem, decide_true, decide_false, ne_eq, not_true_eq_false, not_false_eq_true, Bool.not_true, Bool.not_false]
        refine hK ?_; clear hK hS hC hC1 K S C hf
        (repeat (first | (refine K_ifT rfl rfl ?_) | (refine K_ifF rfl rfl ?_) | (refine K_ev nmd [] hng (by kernel_rfl) fun hf C S K hC1 hC hS hK => ?_; simp (disch := first | omega | assumption) only [go_sem, Bool.not_true, Bool.not_false]; (repeat ((first | refine hC1 _ () (by simp (disch := first | omega | assumption) only [go_sem]) ?_); simp (disch := first | omega | assumption) only [go_sem])); refine hK ?_; clear hK hS hC hC1 K S C hf) | ((first | refine zk ?_ | refine zn ?_ | refine ze ?_); with_reducible (constructor; repeat constructor); try refine zl ?_)))
        refine ⟨_, _, ?_, fun _ _ h => h, i + 1, w, c' + 1 + 1 + 1 + 1 + 1, false, rfl, by omega, by simp only [Bool.not_true, Bool.not_false]; omega, ?_⟩
        · omega
        · rw [hct]; rfl
      · rw [if_neg (fun e => hb (h10.2 e))] at hct
        (repeat (first | (refine K_ifT rfl rfl ?_) | (refine K_ifF rfl rfl ?_) | (refine K_ev nmd [] hng (by kernel_rfl) fun hf C S K hC1 hC hS hK => ?_; simp (disch := first | omega | assumption) only [go_sem]; refine hK ?_; clear hK hS hC hC1 K S C hf) | ((first | refine zk ?_ | refine zn ?_ | refine ze ?_); with_reducible (constructor; repeat constructor); try refine zl ?_)))
        refine K_ev nmd [(2, 43)] hng (by kernel_rfl) fun hf C S K hC1 hC hS hK => ?_; simp (disch := first | omega | assumption) only [go_sem, decide_true, decide_false, ne_eq, not_true_eq_false, not_false_eq_true, Bool.not_true, Bool.not_false]
        refine hK ?_; clear hK hS hC hC1 K S C hf
        (repeat (first | (refine K_ifT rfl rfl ?_) | (refine K_ifF rfl rfl ?_) | (refine K_ev nmd [] hng (by kernel_rfl) fun hf C S K hC1 hC hS hK => ?_; simp (disch := first | omega | assumption) only [go_sem, Bool.not_true, Bool.not_false]; (repeat ((first | refine hC1 _ () (by simp (disch := first | omega | assumption) only [go_sem]) ?_); simp (disch := first | omega | assumption) only [go_sem])); refine hK ?_; clear hK hS hC hC1 K S C hf) | ((first | refine zk ?_ | refine zn ?_ | refine ze ?_); with_reducible (constructor; repeat constructor); try refine zl ?_)))
        refine ⟨_, _, ?_, fun _ _ h => h, i + 1, w, c' + 1 + 1 + 1 + 1, false, rfl, by omega, by simp only [Bool.not_true, Bool.not_false]; omega, ?_⟩
        · omega
        · rw [hct]; rfl
    · (repeat (first | (refine K_ifT rfl rfl ?_) | (refine K_ifF rfl rfl ?_) | (refine K_ev nmd [] hng (by kernel_rfl) fun hf C S K hC1 hC hS hK => ?_; simp (disch := first | omega | assumption) only [go_sem, hb0]; (repeat ((first | refine hC1 _ () (by simp (disch := first | omega | assumption) only [go_sem]) ?_); simp (disch := first | omega | assumption) only [go_sem])); refine hK ?_; clear hK hS hC hC1 K S C hf) | ((first | refine zk ?_ | refine zn ?_ | refine ze ?_); with_reducible (constructor; repeat constructor); try refine zl ?_)))
      refine K_ifd rfl rfl (fun hb => ?_) (fun hb => ?_)
      · rw [if_pos (h10.1 hb)] at hct
        (repeat (first | (refine K_ifT rfl rfl ?_) | (refine K_ifF rfl rfl ?_) | (refine K_ev nmd [] hng (by kernel_rfl) fun hf C S K hC1 hC hS hK => ?_; simp (disch := first | omega | assumption) only [go_sem]; refine hK ?_; clear hK hS hC hC1 K S C hf) | ((first | refine zk ?_ | refine zn ?_ | refine ze ?_); with_reducible (constructor; repeat constructor); try refine zl ?_)))
        refine K_ev nmd [(2, 43)] hng (by kernel_rfl) fun hf C S K hC1 hC hS hK => ?_; simp (disch := first | omega | assumption) only [go_sem, decide_true, decide_false, ne_eq, not_true_eq_false, not_false_eq_true, Bool.not_true, Bool.not_false]
        refine hK ?_; clear hK hS hC hC1 K S C hf
        (repeat (first | (refine K_ifT rfl rfl ?_) | (refine K_ifF rfl rfl ?_) | (refine K_ev nmd [] hng (by kernel_rfl) fun hf C S K hC1 hC hS hK => ?_; simp (disch := first | omega | assumption) only [go_sem, Bool.not_true, Bool.not_false]; (repeat ((first | refine hC1 _ () (by simp (disch := first | omega | assumption) only [go_sem]) ?_); simp (disch := first | omega | assumption) only [go_sem])); refine hK ?_; clear hK hS hC hC1 K S C hf) | ((first | refine zk ?_ | refine zn ?_ | refine ze ?_); with_reducible (constructor; repeat constructor); try refine zl ?_)))
        refine ⟨_, _, ?_, fun _ _ h => h, i + 1, w, c' + 1 + 1 + 1 + 1 + 1, false, rfl, by omega, by simp only [Bool.not_true, Bool.not_false]; omega, ?_⟩
        · omega
        · rw [hct]; rfl
      · rw [if_neg (fun e => hb (h10.2 e))] at hct
        (repeat (first | (refine K_ifT rfl rfl ?_) | (refine K_ifF rfl rfl ?_) | (refine K_ev nmd [] hng (by kernel_rfl) fun hf C S K hC1 hC hS hK => ?_; simp (disch := first | omega | assumption) only [go_sem]; refine hK ?_; clear hK hS hC hC1 K S C hf) | ((first | refine zk ?_ | refine zn ?_ | refine ze ?_); with_reducible (constructor; repeat constructor); try refine zl ?_)))
        refine K_ev nmd [(2, 43)] hng (by kernel_rfl) fun hf C S K hC1 hC hS hK => ?_; simp (disch := first | omega | assumption) only [go_sem, decide_true, decide_false, ne_eq, not_true_eq_false, not_false_eq_true, Bool.not_true, Bool.not_false]
        refine hK ?_; clear hK hS hC hC1 K S C hf
        (repeat (first | (refine K_ifT rfl rfl ?_) | (refine K_ifF rfl rfl ?_) | (refine K_ev nmd [] hng (by kernel_rfl) fun hf C S K hC1 hC hS hK => ?_; simp (disch := first | omega | assumption) only [go_sem, Bool.not_true, Bool.not_false]; (repeat ((first | refine hC1 _ () (by simp (disch := first | omega | assumption) only [go_sem]) ?_); simp (disch := first | omega | assumption) only [go_sem])); refine hK ?_; clear hK hS hC hC1 K S C hf) | ((first | refine zk ?_ | refine zn ?_ | refine ze ?_); with_reducible (constructor; repeat constructor); try refine zl ?_)))
        refine ⟨_, _, ?_, fun _ _ h => h, i + 1, w, c' + 1 + 1 + 1 + 1, false, rfl, by omega, by simp only [Bool.not_true, Bool.not_false]; omega, ?_⟩
        · omega
        · rw [hct]; rfl
  · obtain rfl : i = t.length := by omega
    rw [List.drop_length] at hwd
    simp only [wordsB, Nat.add_zero] at hwd
    subst hwd
    rw [List.take_length]
    rcases args with _ | ⟨a, _ | ⟨b, r⟩⟩
    · rw [show wcX [] t = some (Lib.decDigits (t.count 10) ++ [32] ++ Lib.decDigits (wordsB true t) ++ [32] ++ Lib.decDigits t.length ++ [10]) from rfl]
      generalize Lib.decDigits (t.count 10) = x1 at d1 i1 ⊢
      generalize Lib.decDigits (wordsB true t) = x2 at d2 i2 ⊢
      generalize Lib.decDigits t.length = x3 at d3 i3 ⊢
      (repeat (first | (refine K_ifT rfl rfl ?_) | (refine K_ifF rfl rfl ?_) | (refine K_ev nmd [] hng (by kernel_rfl) fun hf C S K hC1 hC hS hK => ?_; simp (disch := first | omega | assumption) only [go_sem, List.length_map, Int.reduceEq, Int.reduceNe, Int.reduceLT, Int.reduceLE]; (repeat ((first | refine hC1 _ (i1 _) (by simp (disch := first | omega | assumption) only [go_sem]) ?_ | refine hC1 _ (i2 _) (by simp (disch := first | omega | assumption) only [go_sem]) ?_ | refine hC1 _ (i3 _) (by simp (disch := first | omega | assumption) only [go_sem]) ?_ | refine hC1 _ (hu _) (by simp (disch := first | omega | assumption) only [go_sem]) ?_); simp (disch := first | omega | assumption) only [go_sem])); refine hK ?_; clear hK hS hC hC1 K S C hf) | ((first | refine zk ?_ | refine zn ?_ | refine ze ?_); with_reducible (constructor; repeat constructor); try refine zl ?_)))
      exact K_ret (done_plain (by simp (disch := first | omega | assumption) only [go_sem, Res.av, toldR, badR, usageR]))
    · by_cases h1 : a = [45, 108]
      · rw [show wcX [a] t = some (Lib.decDigits (t.count 10) ++ [10]) by rw [wcX, if_pos h1]]
        subst h1
        generalize Lib.decDigits (t.count 10) = x1 at d1 i1 ⊢
        generalize Lib.decDigits (wordsB true t) = x2 at d2 i2 ⊢
        generalize Lib.decDigits t.length = x3 at d3 i3 ⊢
        (repeat (first | (refine K_ifT rfl rfl ?_) | (refine K_ifF rfl rfl ?_) | (refine K_ev nmd [] hng (by kernel_rfl) fun hf C S K hC1 hC hS hK => ?_; simp (disch := first | omega | assumption) only [go_sem, List.length_map, Int.reduceEq, Int.reduceNe, Int.reduceLT, Int.reduceLE]; (repeat ((first | refine hC1 _ (i1 _) (by simp (disch := first | omega | assumption) only [go_sem]) ?_ | refine hC1 _ (i2 _) (by simp (disch := first | omega | assumption) only [go_sem]) ?_ | refine hC1 _ (i3 _) (by simp (disch := first | omega | assumption) only [go_sem]) ?_ | refine hC1 _ (hu _) (by simp (disch := first | omega | assumption) only [go_sem]) ?_); simp (disch := first | omega | assumption) only [go_sem])); refine hK ?_; clear hK hS hC hC1 K S C hf) | ((first | refine zk ?_ | refine zn ?_ | refine ze ?_); with_reducible (constructor; repeat constructor); try refine zl ?_)))
        refine K_ev nmd [(3, 75)] hng (by kernel_rfl) fun hf C S K hC1 hC hS hK => ?_; simp (disch := first | omega | assumption) only [go_sem, decide_true, decide_false, ne_eq, not_true_eq_false, not_false_eq_true, List.length_map, Int.reduceEq, Int.reduceNe, Int.reduceLT, Int.reduceLE]
        (repeat' (first | (refine evG_split (fun hv => ?_) (fun hv => ?_) <;> (try simp only [zb1, zb2, zb3, zb4, zb5] at hv) <;> simp (disch := first | omega | assumption) only [go_sem, hv, decide_true, decide_false, ne_eq, not_true_eq_false, not_false_eq_true, List.length_map, Int.reduceEq, Int.reduceNe, Int.reduceLT, Int.reduceLE]) | (refine hK ?_; clear hK hS hC hC1 K S C hf)))
        all_goals first | contradiction | exact absurd rfl hv | skip
        (repeat (first | (refine K_ifT rfl rfl ?_) | (refine K_ifF rfl rfl ?_) | (refine K_ev nmd [] hng (by kernel_rfl) fun hf C S K hC1 hC hS hK => ?_; simp (disch := first | omega | assumption) only [go_sem, List.length_map, Int.reduceEq, Int.reduceNe, Int.reduceLT, Int.reduceLE]; (repeat ((first | refine hC1 _ (hu _) (by simp (disch := first | omega | assumption) only [go_sem]) ?_); simp (disch := first | omega | assumption) only [go_sem])); refine hK ?_; clear hK hS hC hC1 K S C hf) | ((first | refine zk ?_ | refine zn ?_ | refine ze ?_); with_reducible (constructor; repeat constructor); try refine zl ?_)))
        exact K_ret (done_plain (by simp (disch := first | omega | assumption) only [go_sem, Res.av, toldR, badR, usageR]))
      · have z1 : (a = [45, 108]) = False := eq_false h1
        by_cases h2 : a = [45, 119]
        · rw [show wcX [a] t = some (Lib.decDigits (wordsB true t) ++ [10]) by rw [wcX, if_neg h1, if_pos h2]]
          subst h2
          generalize Lib.decDigits (t.count 10) = x1 at d1 i1 ⊢
          generalize Lib.decDigits (wordsB true t) = x2 at d2 i2 ⊢
          generalize Lib.decDigits t.length = x3 at d3 i3 ⊢
          (repeat (first | (refine K_ifT rfl rfl ?_) | (refine K_ifF rfl rfl ?_) | (refine K_ev nmd [] hng (by kernel_rfl) fun hf C S K hC1 hC hS hK => ?_; simp (disch := first | omega | assumption) only [go_sem, List.length_map, Int.reduceEq, Int.reduceNe, Int.reduceLT, Int.reduceLE]; (repeat ((first | refine hC1 _ (i1 _) (by simp (disch := first | omega | assumption) only [go_sem]) ?_ | refine hC1 _ (i2 _) (by simp (disch := first | omega | assumption) only [go_sem]) ?_ | refine hC1 _ (i3 _) (by simp (disch := first | omega | assumption) only [go_sem]) ?_ | refine hC1 _ (hu _) (by simp (disch := first | omega | assumption) only [go_sem]) ?_); simp (disch := first | omega | assumption) only [go_sem])); refine hK ?_; clear hK hS hC hC1 K S C hf) | ((first | refine zk ?_ | refine zn ?_ | refine ze ?_); with_reducible (constructor; repeat constructor); try refine zl ?_)))
          refine K_ev nmd [(3, 75)] hng (by kernel_rfl) fun hf C S K hC1 hC hS hK => ?_; simp (disch := first | omega | assumption) only [go_sem, decide_true, decide_false, ne_eq, not_true_eq_false, not_false_eq_true, List.length_map, Int.reduceEq, Int.reduceNe, Int.reduceLT, Int.reduceLE]
          (repeat' (first | (refine evG_split (fun hv => ?_) (fun hv => ?_) <;> (try simp only [zb1, zb2, zb3, zb4, zb5] at hv) <;> simp (disch := first | omega | assumption) only [go_sem, hv, decide_true, decide_false, ne_eq, not_true_eq_false, not_false_eq_true, List.length_map, Int.reduceEq, Int.reduceNe, Int.reduceLT, Int.reduceLE]) | (refine hK ?_; clear hK hS hC hC1 K S C hf)))
          all_goals first | contradiction | exact absurd rfl hv | skip
          (repeat (first | (refine K_ifT rfl rfl ?_) | (refine K_ifF rfl rfl ?_) | (refine K_ev nmd [] hng (by kernel_rfl) fun hf C S K hC1 hC hS hK => ?_; simp (disch := first | omega | assumption) only [go_sem, List.length_map, Int.reduceEq, Int.reduceNe, Int.reduceLT, Int.reduceLE]; (repeat ((first | refine hC1 _ (hu _) (by simp (disch := first | omega | assumption) only [go_sem]) ?_); simp (disch := first | omega | assumption) only [go_sem])); refine hK ?_; clear hK hS hC hC1 K S C hf) | ((first | refine zk ?_ | refine zn ?_ | refine ze ?_); with_reducible (constructor; repeat constructor); try refine zl ?_)))
          refine K_ev nmd [(3, 88)] hng (by kernel_rfl) fun hf C S K hC1 hC hS hK => ?_; simp (disch := first | omega | assumption) only [go_sem, decide_true, decide_false, ne_eq, not_true_eq_false, not_false_eq_true, List.length_map, Int.reduceEq, Int.reduceNe, Int.reduceLT, Int.reduceLE]
          (repeat' (first | (refine evG_split (fun hv => ?_) (fun hv => ?_) <;> (try simp only [zb1, zb2, zb3, zb4, zb5] at hv) <;> simp (disch := first | omega | assumption) only [go_sem, hv, decide_true, decide_false, ne_eq, not_true_eq_false, not_false_eq_true, List.length_map, Int.reduceEq, Int.reduceNe, Int.reduceLT, Int.reduceLE]) | (refine hK ?_; clear hK hS hC hC1 K S C hf)))
          all_goals first | contradiction | exact absurd rfl hv | skip
          (repeat (first | (refine K_ifT rfl rfl ?_) | (refine K_ifF rfl rfl ?_) | (refine K_ev nmd [] hng (by kernel_rfl) fun hf C S K hC1 hC hS hK => ?_; simp (disch := first | omega | assumption) only [go_sem, List.length_map, Int.reduceEq, Int.reduceNe, Int.reduceLT, Int.reduceLE]; (repeat ((first | refine hC1 _ (hu _) (by simp (disch := first | omega | assumption) only [go_sem]) ?_); simp (disch := first | omega | assumption) only [go_sem])); refine hK ?_; clear hK hS hC hC1 K S C hf) | ((first | refine zk ?_ | refine zn ?_ | refine ze ?_); with_reducible (constructor; repeat constructor); try refine zl ?_)))
          exact K_ret (done_plain (by simp (disch := first | omega | assumption) only [go_sem, Res.av, toldR, badR, usageR]))
        · have z2 : (a = [45, 119]) = False := eq_false h2
          by_cases h3 : a = [45, 99]
          · rw [show wcX [a] t = some (Lib.decDigits t.length ++ [10]) by rw [wcX, if_neg h1, if_neg h2, if_pos h3]]
            subst h3
            generalize Lib.decDigits (t.count 10) = x1 at d1 i1 ⊢
            generalize Lib.decDigits (wordsB true t) = x2 at d2 i2 ⊢
            generalize Lib.decDigits t.length = x3 at d3 i3 ⊢
            (repeat (first | (refine K_ifT rfl rfl ?_) | (refine K_ifF rfl rfl ?_) | (refine K_ev nmd [] hng (by kernel_rfl) fun hf C S K hC1 hC hS hK => ?_; simp (disch := first | omega | assumption) only [go_sem, List.length_map, Int.reduceEq, Int.reduceNe, Int.reduceLT, Int.reduceLE]; (repeat ((first | refine hC1 _ (i1 _) (by simp (disch := first | omega | assumption) only [go_sem]) ?_ | refine hC1 _ (i2 _) (by simp (disch := first | omega | assumption) only [go_sem]) ?_ | refine hC1 _ (i3 _) (by simp (disch := first | omega | assumption) only [go_sem]) ?_ | refine hC1 _ (hu _) (by simp (disch := first | omega | assumption) only [go_sem]) ?_); simp (disch := first | omega | assumption) only [go_sem])); refine hK ?_; clear hK hS hC hC1 K S C hf) | ((first | refine zk ?_ | refine zn ?_ | refine ze ?_); with_reducible (constructor; repeat constructor); try refine zl ?_)))
            refine K_ev nmd [(3, 75)] hng (by kernel_rfl) fun hf C S K hC1 hC hS hK => ?_; simp (disch := first | omega | assumption) only [go_sem, decide_true, decide_false, ne_eq, not_true_eq_false, not_false_eq_true, List.length_map, Int.reduceEq, Int.reduceNe, Int.reduceLT, Int.reduceLE]
            (repeat' (first | (refine evG_split (fun hv => ?_) (fun hv => ?_) <;> (try simp only [zb1, zb2, zb3, zb4, zb5] at hv) <;> simp (disch := first | omega | assumption) only [go_sem, hv, decide_true, decide_false, ne_eq, not_true_eq_false, not_false_eq_true, List.length_map, Int.reduceEq, Int.reduceNe, Int.reduceLT, Int.reduceLE]) | (refine hK ?_; clear hK hS hC hC1 K S C hf)))
            all_goals first | contradiction | exact absurd rfl hv | skip
            (repeat (first | (refine K_ifT rfl rfl ?_) | (refine K_ifF rfl rfl ?_) | (refine K_ev nmd [] hng (by kernel_rfl) fun hf C S K hC1 hC hS hK => ?_; simp (disch := first | omega | assumption) only [go_sem, List.length_map, Int.reduceEq, Int.reduceNe, Int.reduceLT, Int.reduceLE]; (repeat ((first | refine hC1 _ (hu _) (by simp (disch := first | omega | assumption) only [go_sem]) ?_); simp (disch := first | omega | assumption) only [go_sem])); refine hK ?_; clear hK hS hC hC1 K S C hf) | ((first | refine zk ?_ | refine zn ?_ | refine ze ?_); with_reducible (constructor; repeat constructor); try refine zl ?_)))
            refine K_ev nmd [(3, 88)] hng (by kernel_rfl) fun hf C S K hC1 hC hS hK => ?_; simp (disch := first | omega | assumption) only [go_sem, decide_true, decide_false, ne_eq, not_true_eq_false, not_false_eq_true, List.length_map, Int.reduceEq, Int.reduceNe, Int.reduceLT, Int.reduceLE]
            (repeat' (first | (refine evG_split (fun hv => ?_) (fun hv => ?_) <;> (try simp only [zb1, zb2, zb3, zb4, zb5] at hv) <;> simp (disch := first | omega | assumption) only [go_sem, hv, decide_true, decide_false, ne_eq, not_true_eq_false, not_false_eq_true, List.length_map, Int.reduceEq, Int.reduceNe, Int.reduceLT, Int.reduceLE]) | (refine hK ?_; clear hK hS hC hC1 K S C hf)))
            all_goals first | contradiction | exact absurd rfl hv | skip
            (repeat (first | (refine K_ifT rfl rfl ?_) | (refine K_ifF rfl rfl ?_) | (refine K_ev nmd [] hng (by kernel_rfl) fun hf C S K hC1 hC hS hK => ?_; simp (disch := first | omega | assumption) only [go_sem, List.length_map, Int.reduceEq, Int.reduceNe, Int.reduceLT, Int.reduceLE]; (repeat ((first | refine hC1 _ (hu _) (by simp (disch := first | omega | assumption) only [go_sem]) ?_); simp (disch := first | omega | assumption) only [go_sem])); refine hK ?_; clear hK hS hC hC1 K S C hf) | ((first | refine zk ?_ | refine zn ?_ | refine ze ?_); with_reducible (constructor; repeat constructor); try refine zl ?_)))
            refine K_ev nmd [(3, 101)] hng (by kernel_rfl) fun hf C S K hC1 hC hS hK => ?_; simp (disch := first | omega | assumption) only [go_sem, decide_true, decide_false, ne_eq, not_true_eq_false, not_false_eq_true, List.length_map, Int.reduceEq, Int.reduceNe, Int.reduceLT, Int.reduceLE]
            (repeat' (first | (refine evG_split (fun hv => ?_) (fun hv => ?_) <;> (try simp only [zb1, zb2, zb3, zb4, zb5] at hv) <;> simp (disch := first | omega | assumption) only [go_sem, hv, decide_true, decide_false, ne_eq, not_true_eq_false, not_false_eq_true, List.length_map, Int.reduceEq, Int.reduceNe, Int.reduceLT, Int.reduceLE]) | (refine hK ?_; clear hK hS hC hC1 K S C hf)))
            all_goals first | contradiction | exact absurd rfl hv | skip
            (repeat (first | (refine K_ifT rfl rfl ?_) | (refine K_ifF rfl rfl ?_) | (refine K_ev nmd [] hng (by kernel_rfl) fun hf C S K hC1 hC hS hK => ?_; simp (disch := first | omega | assumption) only [go_sem, List.length_map, Int.reduceEq, Int.reduceNe, Int.reduceLT, Int.reduceLE]; (repeat ((first | refine hC1 _ (hu _) (by simp (disch := first | omega | assumption) only [go_sem]) ?_); simp (disch := first | omega | assumption) only [go_sem])); refine hK ?_; clear hK hS hC hC1 K S C hf) | ((first | refine zk ?_ | refine zn ?_ | refine ze ?_); with_reducible (constructor; repeat constructor); try refine zl ?_)))
            exact K_ret (done_plain (by simp (disch := first | omega | assumption) only [go_sem, Res.av, toldR, badR, usageR]))
          · have z3 : (a = [45, 99]) = False := eq_false h3
            rw [show wcX [a] t = none by rw [wcX, if_neg h1, if_neg h2, if_neg h3]]
            generalize Lib.decDigits (t.count 10) = x1 at d1 i1 ⊢
            generalize Lib.decDigits (wordsB true t) = x2 at d2 i2 ⊢
            generalize Lib.decDigits t.length = x3 at d3 i3 ⊢
            (repeat (first | (refine K_ifT rfl rfl ?_) | (refine K_ifF rfl rfl ?_) | (refine K_ev nmd [] hng (by kernel_rfl) fun hf C S K hC1 hC hS hK => ?_; simp (disch := first | omega | assumption) only [go_sem, List.length_map, Int.reduceEq, Int.reduceNe, Int.reduceLT, Int.reduceLE]; (repeat ((first | refine hC1 _ (i1 _) (by simp (disch := first | omega | assumption) only [go_sem]) ?_ | refine hC1 _ (i2 _) (by simp (disch := first | omega | assumption) only [go_sem]) ?_ | refine hC1 _ (i3 _) (by simp (disch := first | omega | assumption) only [go_sem]) ?_ | refine hC1 _ (hu _) (by simp (disch := first | omega | assumption) only [go_sem]) ?_); simp (disch := first | omega | assumption) only [go_sem])); refine hK ?_; clear hK hS hC hC1 K S C hf) | ((first | refine zk ?_ | refine zn ?_ | refine ze ?_); with_reducible (constructor; repeat constructor); try refine zl ?_)))
            refine K_ev nmd [(3, 75)] hng (by kernel_rfl) fun hf C S K hC1 hC hS hK => ?_; simp (disch := first | omega | assumption) only [go_sem, z1, decide_true, decide_false, ne_eq, not_true_eq_false, not_false_eq_true, List.length_map, Int.reduceEq, Int.reduceNe, Int.reduceLT, Int.reduceLE]
            (repeat' (first | (refine evG_split (fun hv => ?_) (fun hv => ?_) <;> (try simp only [zb1, zb2, zb3, zb4, zb5] at hv) <;> simp (disch := first | omega | assumption) only [go_sem, hv, z1, decide_true, decide_false, ne_eq, not_true_eq_false, not_false_eq_true, List.length_map, Int.reduceEq, Int.reduceNe, Int.reduceLT, Int.reduceLE]) | (refine hK ?_; clear hK hS hC hC1 K S C hf)))
            all_goals first | contradiction | exact absurd rfl hv | skip
            (repeat (first | (refine K_ifT rfl rfl ?_) | (refine K_ifF rfl rfl ?_) | (refine K_ev nmd [] hng (by kernel_rfl) fun hf C S K hC1 hC hS hK => ?_; simp (disch := first | omega | assumption) only [go_sem, List.length_map, Int.reduceEq, Int.reduceNe, Int.reduceLT, Int.reduceLE]; (repeat ((first | refine hC1 _ (hu _) (by simp (disch := first | omega | assumption) only [go_sem]) ?_); simp (disch := first | omega | assumption) only [go_sem])); refine hK ?_; clear hK hS hC hC1 K S C hf) | ((first | refine zk ?_ | refine zn ?_ | refine ze ?_); with_reducible (constructor; repeat constructor); try refine zl ?_)))
            refine K_ev nmd [(3, 88)] hng (by kernel_rfl) fun hf C S K hC1 hC hS hK => ?_; simp (disch := first | omega | assumption) only [go_sem, z2, decide_true, decide_false, ne_eq, not_true_eq_false, not_false_eq_true, List.length_map, Int.reduceEq, Int.reduceNe, Int.reduceLT, Int.reduceLE]
            (repeat' (first | (refine evG_split (fun hv => ?_) (fun hv => ?_) <;> (try simp only [zb1, zb2, zb3, zb4, zb5] at hv) <;> simp (disch := first | omega | assumption) only [go_sem, hv, z2, decide_true, decide_false, ne_eq, not_true_eq_false, not_false_eq_true, List.length_map, Int.reduceEq, Int.reduceNe, Int.reduceLT, Int.reduceLE]) | (refine hK ?_; clear hK hS hC hC1 K S C hf)))
            all_goals first | contradiction | exact absurd rfl hv | skip
            (repeat (first | (refine K_ifT rfl rfl ?_) | (refine K_ifF rfl rfl ?_) | (refine K_ev nmd [] hng (by kernel_rfl) fun hf C S K hC1 hC hS hK => ?_; simp (disch := first | omega | assumption) only [go_sem, List.length_map, Int.reduceEq, Int.reduceNe, Int.reduceLT, Int.reduceLE]; (repeat ((first | refine hC1 _ (hu _) (by simp (disch := first | omega | assumption) only [go_sem]) ?_); simp (disch := first | omega | assumption) only [go_sem])); refine hK ?_; clear hK hS hC hC1 K S C hf) | ((first | refine zk ?_ | refine zn ?_ | refine ze ?_); with_reducible (constructor; repeat constructor); try refine zl ?_)))
            refine K_ev nmd [(3, 101)] hng (by kernel_rfl) fun hf C S K hC1 hC hS hK => ?_; simp (disch := first | omega | assumption) only [go_sem, z3, decide_true, decide_false, ne_eq, not_true_eq_false, not_false_eq_true, List.length_map, Int.reduceEq, Int.reduceNe, Int.reduceLT, Int.reduceLE]
            (repeat' (first | (refine evG_split (fun hv => ?_) (fun hv => ?_) <;> (try simp only [zb1, zb2, zb3, zb4, zb5] at hv) <;> simp (disch := first | omega | assumption) only [go_sem, hv, z3, decide_true, decide_false, ne_eq, not_true_eq_false, not_false_eq_true, List.length_map, Int.reduceEq, Int.reduceNe, Int.reduceLT, Int.reduceLE]) | (refine hK ?_; clear hK hS hC hC1 K S C hf)))
            all_goals first | contradiction | exact absurd rfl hv | skip
            (repeat (first | (refine K_ifT rfl rfl ?_) | (refine K_ifF rfl rfl ?_) | (refine K_ev nmd [] hng (by kernel_rfl) fun hf C S K hC1 hC hS hK => ?_; simp (disch := first | omega | assumption) only [go_sem, List.length_map, Int.reduceEq, Int.reduceNe, Int.reduceLT, Int.reduceLE]; (repeat ((first | refine hC1 _ (hu _) (by simp (disch := first | omega | assumption) only [go_sem]) ?_); simp (disch := first | omega | assumption) only [go_sem])); refine hK ?_; clear hK hS hC hC1 K S C hf) | ((first | refine zk ?_ | refine zn ?_ | refine ze ?_); with_reducible (constructor; repeat constructor); try refine zl ?_)))
            exact K_ret (done_plain (by simp (disch := first | omega | assumption) only [go_sem, Res.av, toldR, badR, usageR]))
    · rw [show wcX (a :: b :: r) t = none from rfl]
      have z0 : (((a :: b :: r).length : Int) = 0) = False := eq_false (by simp only [List.length_cons]; omega)
      have z1 : (((a :: b :: r).length : Int) = 1) = False := eq_false (by simp only [List.length_cons]; omega)
      generalize hg : a :: b :: r = args at z0 z1
      generalize Lib.decDigits (t.count 10) = x1 at d1 i1 ⊢
      generalize Lib.decDigits (wordsB true t) = x2 at d2 i2 ⊢
      generalize Lib.decDigits t.length = x3 at d3 i3 ⊢
      (repeat (first | (refine K_ifT rfl rfl ?_) | (refine K_ifF rfl rfl ?_) | (refine K_ev nmd [] hng (by kernel_rfl) fun hf C S K hC1 hC hS hK => ?_; simp (disch := first | omega | assumption) only [go_sem, List.length_map, Int.reduceEq, Int.reduceNe, Int.reduceLT, Int.reduceLE, z0, decide_true, decide_false, ne_eq, not_true_eq_false, not_false_eq_true]; (repeat ((first | refine hC1 _ (i1 _) (by simp (disch := first | omega | assumption) only [go_sem]) ?_ | refine hC1 _ (i2 _) (by simp (disch := first | omega | assumption) only [go_sem]) ?_ | refine hC1 _ (i3 _) (by simp (disch := first | omega | assumption) only [go_sem]) ?_ | refine hC1 _ (hu _) (by simp (disch := first | omega | assumption) only [go_sem]) ?_); simp (disch := first | omega | assumption) only [go_sem])); refine hK ?_; clear hK hS hC hC1 K S C hf) | ((first | refine zk ?_ | refine zn ?_ | refine ze ?_); with_reducible (constructor; repeat constructor); try refine zl ?_)))
      refine K_ev nmd [(3, 75)] hng (by kernel_rfl) fun hf C S K hC1 hC hS hK => ?_; simp (disch := first | omega | assumption) only [go_sem, z1, decide_true, decide_false, ne_eq, not_true_eq_false, not_false_eq_true, List.length_map, Int.reduceEq, Int.reduceNe, Int.reduceLT, Int.reduceLE]
      (repeat' (first | (refine evG_split (fun hv => ?_) (fun hv => ?_) <;> (try simp only [zb1, zb2, zb3, zb4, zb5] at hv) <;> simp (disch := first | omega | assumption) only [go_sem, hv, z1, decide_true, decide_false, ne_eq, not_true_eq_false, not_false_eq_true, List.length_map, Int.reduceEq, Int.reduceNe, Int.reduceLT, Int.reduceLE]) | (refine hK ?_; clear hK hS hC hC1 K S C hf)))
      all_goals first | contradiction | exact absurd rfl hv | skip
      (repeat (first | (refine K_ifT rfl rfl ?_) | (refine K_ifF rfl rfl ?_) | (refine K_ev nmd [] hng (by kernel_rfl) fun hf C S K hC1 hC hS hK => ?_; simp (disch := first | omega | assumption) only [go_sem, List.length_map, Int.reduceEq, Int.reduceNe, Int.reduceLT, Int.reduceLE]; (repeat ((first | refine hC1 _ (hu _) (by simp (disch := first | omega | assumption) only [go_sem]) ?_); simp (disch := first | omega | assumption) only [go_sem])); refine hK ?_; clear hK hS hC hC1 K S C hf) | ((first | refine zk ?_ | refine zn ?_ | refine ze ?_); with_reducible (constructor; repeat constructor); try refine zl ?_)))
      refine K_ev nmd [(3, 88)] hng (by kernel_rfl) fun hf C S K hC1 hC hS hK => ?_; simp (disch := first | omega | assumption) only [go_sem, z1, decide_true, decide_false, ne_eq, not_true_eq_false, not_false_eq_true, List.length_map, Int.reduceEq, Int.reduceNe, Int.reduceLT, Int.reduceLE]
      (repeat' (first | (refine evG_split (fun hv => ?_) (fun hv => ?_) <;> (try simp only [zb1, zb2, zb3, zb4, zb5] at hv) <;> simp (disch := first | omega | assumption) only [go_sem, hv, z1, decide_true, decide_false, ne_eq, not_true_eq_false, not_false_eq_true, List.length_map, Int.reduceEq, Int.reduceNe, Int.reduceLT, Int.reduceLE]) | (refine hK ?_; clear hK hS hC hC1 K S C hf)))
      all_goals first | contradiction | exact absurd rfl hv | skip
      (repeat (first | (refine K_ifT rfl rfl ?_) | (refine K_ifF rfl rfl ?_) | (refine K_ev nmd [] hng (by kernel_rfl) fun hf C S K hC1 hC hS hK => ?_; simp (disch := first | omega | assumption) only [go_sem, List.length_map, Int.reduceEq, Int.reduceNe, Int.reduceLT, Int.reduceLE]; (repeat ((first | refine hC1 _ (hu _) (by simp (disch := first | omega | assumption) only [go_sem]) ?_); simp (disch := first | omega | assumption) only [go_sem])); refine hK ?_; clear hK hS hC hC1 K S C hf) | ((first | refine zk ?_ | refine zn ?_ | refine ze ?_); with_reducible (constructor; repeat constructor); try refine zl ?_)))
      refine K_ev nmd [(3, 101)] hng (by kernel_rfl) fun hf C S K hC1 hC hS hK => ?_; simp (disch := first | omega | assumption) only [go_sem, z1, decide_true, decide_false, ne_eq, not_true_eq_false, not_false_eq_true, List.length_map, Int.reduceEq, Int.reduceNe, Int.reduceLT, Int.reduceLE]
      (repeat' (first | (refine evG_split (fun hv => ?_) (fun hv => ?_) <;> (try simp only [zb1, zb2, zb3, zb4, zb5] at hv) <;> simp (disch := first | omega | assumption) only [go_sem, hv, z1, decide_true, decide_false, ne_eq, not_true_eq_false, not_false_eq_true, List.length_map, Int.reduceEq, Int.reduceNe, Int.reduceLT, Int.reduceLE]) | (refine hK ?_; clear hK hS hC hC1 K S C hf)))
      all_goals first | contradiction | exact absurd rfl hv | skip
      (repeat (first | (refine K_ifT rfl rfl ?_) | (refine K_ifF rfl rfl ?_) | (refine K_ev nmd [] hng (by kernel_rfl) fun hf C S K hC1 hC hS hK => ?_; simp (disch := first | omega | assumption) only [go_sem, List.length_map, Int.reduceEq, Int.reduceNe, Int.reduceLT, Int.reduceLE]; (repeat ((first | refine hC1 _ (hu _) (by simp (disch := first | omega | assumption) only [go_sem]) ?_); simp (disch := first | omega | assumption) only [go_sem])); refine hK ?_; clear hK hS hC hC1 K S C hf) | ((first | refine zk ?_ | refine zn ?_ | refine ze ?_); with_reducible (constructor; repeat constructor); try refine zl ?_)))
      exact K_ret (done_plain (by simp (disch := first | omega | assumption) only [go_sem, Res.av, toldR, badR, usageR]))
end Go.Proofs.YtiaiggbimlbkfaaGreatDoor
namespace Go.Proofs.YtiaiggbimlbkfaaGreatDoor
open Go Go.Ab
set_option maxRecDepth 20000
set_option maxHeartbeats 4000000
theorem runR_wc (args : List Str) (t : Str) (r : Res) (hU : ∀ p, CallOK Tryz.prog 43 [.list 1 (args.map AV.str), .str t] (Oid.under p) ⟨[], r.av, []⟩) (p : Oid) :
    CallOK Tryz.prog 26 [.list 1 ((([119, 99] : Str) :: args).map AV.str), .str t] (Oid.under p) ⟨[], .tuple [r.av, .bool true], []⟩ := by
  obtain ⟨st, out, err⟩ := r
  simp only [Res.av] at hU
  refine fnOK (n := 90) (rs := [.cell 4 32, .tmp 5]) Tryz.func26 rfl rfl (by decide) rfl rfl rfl ?_; rintro x rfl hrd hng
  (repeat (first | (refine K_ifT rfl rfl ?_) | (refine K_ifF rfl rfl ?_) | (refine K_ev nmd [] hng (by kernel_rfl) fun hf C S K hC1 hC hS hK => ?_; simp (disch := first | omega | assumption) only [go_sem]; refine hK ?_; clear hK hS hC hC1 K S C hf) | ((first | refine zk ?_ | refine zn ?_ | refine ze ?_); with_reducible (constructor; repeat constructor); try refine zl ?_)))
  refine K_evd nmd [] [] mixed hng (by kernel_rfl) [1, 4, 6, 7] fun hf C S K hC hS hK => ?_; simp (disch := first | omega | assumption) only [go_sem]
  (first | refine hK (dynN_quiet rfl) ?_ | refine hK (by simp (disch := first | omega | assumption) only [go_sem, List.reverse_cons, List.reverse_nil, ne_eq, not_false_eq_true, implies_true]) ?_); clear hK hS hC K S C hf
  (repeat (first | (refine K_ifT rfl rfl ?_) | (refine K_ifF rfl rfl ?_) | (refine K_ev nmd [] hng (by kernel_rfl) fun hf C S K hC1 hC hS hK => ?_; simp (disch := first | omega | assumption) only [go_sem]; (repeat ((first | refine hC1 _ (hU _) (by simp (disch := first | omega | assumption) only [go_sem]) ?_); simp (disch := first | omega | assumption) only [go_sem])); refine hK ?_; clear hK hS hC hC1 K S C hf) | ((first | refine zk ?_ | refine zn ?_ | refine ze ?_); with_reducible (constructor; repeat constructor); try refine zl ?_)))
  exact K_ret (done_plain (by simp (disch := first | omega | assumption) only [go_sem, Res.av, toldR, badR, usageR]))
theorem wc_valid {args : List Str} {t o : Str} (h : wcX args t = some o) (htl : t.length ≤ 4000000) (p : Oid) (hp : p.mono = false) :
    CallOK Tryz.prog 32 [.list 1 (args.map AV.str), .str t] (Oid.under p) ⟨[], .tuple [(toldR o).av, .bool true], []⟩ := by
  rcases args with _ | ⟨a, _ | ⟨b, r⟩⟩
  · obtain rfl := Option.some.inj h
    exact wc_none t htl p hp
  · rw [wcX] at h
    by_cases h1 : a = [45, 108]
    · rw [if_pos h1] at h
      obtain rfl := Option.some.inj h
      subst h1
      exact wc_l t htl p hp
    · rw [if_neg h1] at h
      by_cases h2 : a = [45, 119]
      · rw [if_pos h2] at h
        obtain rfl := Option.some.inj h
        subst h2
        exact wc_w t htl p hp
      · rw [if_neg h2] at h
        by_cases h3 : a = [45, 99]
        · rw [if_pos h3] at h
          obtain rfl := Option.some.inj h
          subst h3
          exact wc_c t htl p hp
        · rw [if_neg h3] at h; cases h
  · cases h
theorem wc_bad {args : List Str} {t : Str} (h : wcX args t = none) (ha : ∀ s ∈ args, s.length ≤ 4000000) (hal : args.length ≤ 4000000) (htl : t.length ≤ 4000000) (p : Oid) (hp : p.mono = false) :
    CallOK Tryz.prog 32 [.list 1 (args.map AV.str), .str t] (Oid.under p) ⟨[], .tuple [badR.av, .bool false], []⟩ := by
  rcases args with _ | ⟨a, _ | ⟨b, r⟩⟩
  · cases h
  · rw [wcX] at h
    by_cases h1 : a = [45, 108]
    · rw [if_pos h1] at h; cases h
    · rw [if_neg h1] at h
      by_cases h2 : a = [45, 119]
      · rw [if_pos h2] at h; cases h
      · rw [if_neg h2] at h
        by_cases h3 : a = [45, 99]
        · rw [if_pos h3] at h; cases h
        · exact wc_odd a t (ha a (by simp)) h1 h2 h3 htl p hp
  · exact wc_many (a :: b :: r) ha hal (by simp) (by simp) t htl p hp
theorem same_wc (args : List Str) (ha : ∀ s ∈ args, s.length ≤ 4000000) (hal : args.length ≤ 4000000) (t : Str) (ht : t.length ≤ 4000000) (p : Oid) (hp : p.mono = false) :
    CallOK Tryz.prog 17 [.list 1 ((([119, 99] : Str) :: args).map AV.str), .str t] (Oid.under p) ⟨[], .bool true, []⟩ := by
  have hr := fun p => countRef_ok args t ht p
  cases h : wcX args t with
  | some o =>
    rw [h] at hr
    exact same_of _ t _ true (fun p hp => run_any ([119, 99] : Str) (by decide) args t 32 (by kernel_rfl) (by kernel_rfl) (toldR o) true p (fun p hp => wc_valid h ht p hp) hp)
      (fun p => runR_wc args t _ hr p) p hp
  | none =>
    rw [h] at hr
    exact same_of _ t _ true (fun p hp => run_any ([119, 99] : Str) (by decide) args t 32 (by kernel_rfl) (by kernel_rfl) badR false p (fun p hp => wc_bad h ha hal ht p hp) hp)
      (fun p => runR_wc args t _ hr p) p hp
end Go.Proofs.YtiaiggbimlbkfaaGreatDoor
namespace Go.Proofs.YtiaiggbimlbkfaaGreatDoor
open Go Go.Ab
set_option maxRecDepth 20000
set_option maxHeartbeats 4000000
theorem yes_ok (args : List Str) (t : Str) (p : Oid) : CallOK Tryz.prog 27 [.list 1 (args.map AV.str), .str t] (Oid.under p) ⟨[], .tuple [(toldR []).av, .bool true], []⟩ := by
  refine fnOK (n := 9) (rs := [.cell 4 32, .tmp 5]) Tryz.func27 rfl rfl (by decide) rfl rfl rfl ?_; rintro x rfl hrd hng
  (repeat (first | (refine K_ifT rfl rfl ?_) | (refine K_ifF rfl rfl ?_) | (refine K_ev nmd [] hng (by kernel_rfl) fun hf C S K hC1 hC hS hK => ?_; simp (disch := first | omega | assumption) only [go_sem]; (repeat ((first | refine hC1 _ (told_x [] _) (by simp (disch := first | omega | assumption) only [go_sem]) ?_); simp (disch := first | omega | assumption) only [go_sem])); refine hK ?_; clear hK hS hC hC1 K S C hf) | ((first | refine zk ?_ | refine zn ?_ | refine ze ?_); with_reducible (constructor; repeat constructor); try refine zl ?_)))
  exact K_ret (done_plain (by simp (disch := first | omega | assumption) only [go_sem, Res.av, toldR, badR, usageR]))
theorem no_ok (args : List Str) (t : Str) (p : Oid) : CallOK Tryz.prog 28 [.list 1 (args.map AV.str), .str t] (Oid.under p) ⟨[], .tuple [(⟨1, [], []⟩ : Res).av, .bool true], []⟩ := by
  refine fnOK (n := 7) (rs := [.cell 4 32, .tmp 5]) Tryz.func28 rfl rfl (by decide) rfl rfl rfl ?_; rintro x rfl hrd hng
  (repeat (first | (refine K_ifT rfl rfl ?_) | (refine K_ifF rfl rfl ?_) | (refine K_ev nmd [] hng (by kernel_rfl) fun hf C S K hC1 hC hS hK => ?_; simp (disch := first | omega | assumption) only [go_sem]; refine hK ?_; clear hK hS hC hC1 K S C hf) | ((first | refine zk ?_ | refine zn ?_ | refine ze ?_); with_reducible (constructor; repeat constructor); try refine zl ?_)))
  exact K_ret (done_plain (by simp (disch := first | omega | assumption) only [go_sem, Res.av, toldR, badR, usageR]))
theorem echo_ok (args : List Str) (ha : ∀ s ∈ args, s.length ≤ 4000000) (hal : args.length ≤ 4000000) (t : Str) (p : Oid) (hp : p.mono = false) :
    CallOK Tryz.prog 29 [.list 1 (args.map AV.str), .str t] (Oid.under p) ⟨[], .tuple [(toldR (Lib.join args [32] ++ [10])).av, .bool true], []⟩ := by
  have hjl := join_len args [32] 4000000 ha
  have hjm : args.length * (([32] : Str).length + 4000000) ≤ 100000000000000 := by
    rw [List.length_singleton]; omega
  have hJ := fun p hp => join_ok args [32] (by omega) (by omega) p hp
  have hxl := Nat.le_trans hjl hjm
  generalize Lib.join args [32] = x0 at hxl hJ ⊢
  clear hjm hjl
  refine fnOK (n := 12) (rs := [.cell 4 32, .tmp 5]) Tryz.func29 rfl rfl (by decide) rfl rfl rfl ?_; rintro x rfl hrd hng
  (repeat (first | (refine K_ifT rfl rfl ?_) | (refine K_ifF rfl rfl ?_) | (refine K_ev nmd [] hng (by kernel_rfl) fun hf C S K hC1 hC hS hK => ?_; simp (disch := first | omega | assumption) only [go_sem]; (repeat ((first | refine hC1 _ (hJ _ (mono_sub' rfl hp)) (by simp (disch := first | omega | assumption) only [go_sem]) ?_ | refine hC1 _ (told_x (x0 ++ [10]) _) (by simp (disch := first | omega | assumption) only [go_sem]) ?_); simp (disch := first | omega | assumption) only [go_sem])); refine hK ?_; clear hK hS hC hC1 K S C hf) | ((first | refine zk ?_ | refine zn ?_ | refine ze ?_); with_reducible (constructor; repeat constructor); try refine zl ?_)))
  exact K_ret (done_plain (by simp (disch := first | omega | assumption) only [go_sem, Res.av, toldR, badR, usageR]))
theorem join_take_succ {l : List Str} {i : Nat} (h : i < l.length) : Lib.join (l.take (i + 1)) [32] = (if 0 < i then Lib.join (l.take i) [32] ++ [32] else []) ++ l.getD i default := by
  cases l with
  | nil => simp at h
  | cons x r =>
    cases i with
    | zero => simp [Lib.join_one]
    | succ i =>
      have hr : i < r.length := by simpa using h
      rw [List.take_succ_cons, List.take_succ_cons, Lib.join_cons, Lib.join_cons, if_pos (Nat.succ_pos _), List.take_add_one, List.getElem?_eq_getElem hr]
      have hg : (x :: r).getD (i + 1) default = r[i] := by rw [List.getD_cons_succ, List.getD_eq_getElem?_getD, List.getElem?_eq_getElem hr]; rfl
      rw [hg, Lib.joinTail, Lib.joinTail, List.map_append, List.flatten_append]
      simp
theorem wordsJ_ok (l : List Str) (ha : ∀ s ∈ l, s.length ≤ 4000000) (hal : l.length ≤ 4000000) (p : Oid) :
    CallOK Tryz.prog 41 [.list 1 (l.map AV.str)] (Oid.under p) ⟨[], .str (Lib.join l [32]), []⟩ := by
  refine fnOK (n := 22) (rs := [.tmp 2]) Tryz.func41 rfl rfl (by decide) rfl rfl rfl ?_; rintro x rfl hrd hng
  (repeat (first | (refine K_ifT rfl rfl ?_) | (refine K_ifF rfl rfl ?_) | (refine K_ev nmd [] hng (by kernel_rfl) fun hf C S K hC1 hC hS hK => ?_; simp (disch := first | omega | assumption) only [go_sem]; refine hK ?_; clear hK hS hC hC1 K S C hf) | ((first | refine zk ?_ | refine zn ?_ | refine ze ?_); with_reducible (constructor; repeat constructor); try refine zl ?_)))
  refine K_loop [0, 3, 4] (fun k s' => ∃ i c : Nat, k = l.length - i ∧ i ≤ l.length ∧ s' = ⟨[(0, .list 1 (l.map AV.str)), (3, .str (Lib.join (l.take i) [32])), (4, .int .i64 i)], Mem.of [], c, []⟩) _ ⟨0, _, rfl, Nat.zero_le _, rfl⟩ ?_
  rintro k s' ⟨i, c, rfl, hi, rfl⟩
  (repeat (first | (refine K_ifT rfl rfl ?_) | (refine K_ifF rfl rfl ?_) | (refine K_ev nmd [] hng (by kernel_rfl) fun hf C S K hC1 hC hS hK => ?_; simp (disch := first | omega | assumption) only [go_sem, List.length_map]; (repeat ((first | refine hC1 _ () (by simp (disch := first | omega | assumption) only [go_sem]) ?_); simp (disch := first | omega | assumption) only [go_sem])); refine hK ?_; clear hK hS hC hC1 K S C hf) | ((first | refine zk ?_ | refine zn ?_ | refine ze ?_); with_reducible (constructor; repeat constructor); try refine zl ?_)))
  refine K_ifd rfl rfl (fun hb => ?_) (fun hb => ?_)
  · have hlt : i < l.length := by omega
    have hst := join_take_succ hlt
    have hjl := join_len (l.take i) [32] 4000000 fun s hs => ha s (List.mem_of_mem_take hs)
    have hjm : (l.take i).length * (([32] : Str).length + 4000000) ≤ 100000000000000 := by
      rw [List.length_singleton, List.length_take]
      have := Nat.mul_le_mul_right 4000001 (Nat.le_trans (Nat.min_le_right i l.length) hal)
      omega
    have hql : (l.getD i default).length ≤ 4000000 := by
      rw [List.getD_eq_getElem?_getD, List.getElem?_eq_getElem hlt]
      exact ha _ (List.getElem_mem hlt)
    have hjj := Nat.le_trans hjl hjm
    have hx0 : i = 0 → Lib.join (l.take i) [32] = [] := fun e => by rw [e]; rfl
    generalize Lib.join (l.take i) [32] = x at hjj hst hx0 ⊢
    generalize hq : l.getD i default = q at hst hql
    clear hjl hjm
    (repeat (first | (refine K_ifT rfl rfl ?_) | (refine K_ifF rfl rfl ?_) | (refine K_ev nmd [] hng (by kernel_rfl) fun hf C S K hC1 hC hS hK => ?_; simp (disch := first | omega | assumption) only [go_sem]; refine hK ?_; clear hK hS hC hC1 K S C hf) | ((first | refine zk ?_ | refine zn ?_ | refine ze ?_); with_reducible (constructor; repeat constructor); try refine zl ?_)))
    refine K_ifd rfl rfl (fun hb => ?_) (fun hb => ?_)
    · rw [if_pos (by omega)] at hst
      (repeat (first | (refine K_ifT rfl rfl ?_) | (refine K_ifF rfl rfl ?_) | (refine K_ev nmd [] hng (by kernel_rfl) fun hf C S K hC1 hC hS hK => ?_; simp (disch := first | omega | assumption) only [go_sem, List.length_map, hq]; (repeat ((first | refine hC1 _ () (by simp (disch := first | omega | assumption) only [go_sem]) ?_); simp (disch := first | omega | assumption) only [go_sem])); refine hK ?_; clear hK hS hC hC1 K S C hf) | ((first | refine zk ?_ | refine zn ?_ | refine ze ?_); with_reducible (constructor; repeat constructor); try refine zl ?_)))
      exact ⟨_, _, by omega, fun _ _ h => h, i + 1, _, rfl, by omega, by rw [hst]; rfl⟩
    · obtain rfl : i = 0 := by omega
      rw [if_neg (by omega), List.nil_append] at hst
      obtain rfl := hx0 rfl
      (repeat (first | (refine K_ifT rfl rfl ?_) | (refine K_ifF rfl rfl ?_) | (refine K_ev nmd [] hng (by kernel_rfl) fun hf C S K hC1 hC hS hK => ?_; simp (disch := first | omega | assumption) only [go_sem, List.length_map, hq]; (repeat ((first | refine hC1 _ () (by simp (disch := first | omega | assumption) only [go_sem]) ?_); simp (disch := first | omega | assumption) only [go_sem])); refine hK ?_; clear hK hS hC hC1 K S C hf) | ((first | refine zk ?_ | refine zn ?_ | refine ze ?_); with_reducible (constructor; repeat constructor); try refine zl ?_)))
      exact ⟨_, _, by omega, fun _ _ h => h, 1, _, rfl, by omega, by rw [hst]; rfl⟩
  · obtain rfl : i = l.length := by omega
    rw [List.take_length]
    (repeat (first | (refine K_ifT rfl rfl ?_) | (refine K_ifF rfl rfl ?_) | (refine K_ev nmd [] hng (by kernel_rfl) fun hf C S K hC1 hC hS hK => ?_; simp (disch := first | omega | assumption) only [go_sem]; refine hK ?_; clear hK hS hC hC1 K S C hf) | ((first | refine zk ?_ | refine zn ?_ | refine ze ?_); with_reducible (constructor; repeat constructor); try refine zl ?_)))
    exact K_ret (done1 rfl)
theorem runR_true (args : List Str) (t : Str) (p : Oid) : CallOK Tryz.prog 26 [.list 1 ((([116, 114, 117, 101] : Str) :: args).map AV.str), .str t] (Oid.under p) ⟨[], .tuple [(toldR []).av, .bool true], []⟩ := by
  refine fnOK (n := 90) (rs := [.cell 4 32, .tmp 5]) Tryz.func26 rfl rfl (by decide) rfl rfl rfl ?_; rintro x rfl hrd hng
  (repeat (first | (refine K_ifT rfl rfl ?_) | (refine K_ifF rfl rfl ?_) | (refine K_ev nmd [] hng (by kernel_rfl) fun hf C S K hC1 hC hS hK => ?_; simp (disch := first | omega | assumption) only [go_sem]; refine hK ?_; clear hK hS hC hC1 K S C hf) | ((first | refine zk ?_ | refine zn ?_ | refine ze ?_); with_reducible (constructor; repeat constructor); try refine zl ?_)))
  refine K_evd nmd [] [] mixed hng (by kernel_rfl) [1, 4, 6, 7] fun hf C S K hC hS hK => ?_; simp (disch := first | omega | assumption) only [go_sem]
  (first | refine hK (dynN_quiet rfl) ?_ | refine hK (by simp (disch := first | omega | assumption) only [go_sem, List.reverse_cons, List.reverse_nil, ne_eq, not_false_eq_true, implies_true]) ?_); clear hK hS hC K S C hf
  (repeat (first | (refine K_ifT rfl rfl ?_) | (refine K_ifF rfl rfl ?_) | (refine K_ev nmd [] hng (by kernel_rfl) fun hf C S K hC1 hC hS hK => ?_; simp (disch := first | omega | assumption) only [go_sem]; refine hK ?_; clear hK hS hC hC1 K S C hf) | ((first | refine zk ?_ | refine zn ?_ | refine ze ?_); with_reducible (constructor; repeat constructor); try refine zl ?_)))
  exact K_ret (done_plain (by simp (disch := first | omega | assumption) only [go_sem, Res.av, toldR, badR, usageR]))
theorem runR_false (args : List Str) (t : Str) (p : Oid) : CallOK Tryz.prog 26 [.list 1 ((([102, 97, 108, 115, 101] : Str) :: args).map AV.str), .str t] (Oid.under p) ⟨[], .tuple [(⟨1, [], []⟩ : Res).av, .bool true], []⟩ := by
  refine fnOK (n := 90) (rs := [.cell 4 32, .tmp 5]) Tryz.func26 rfl rfl (by decide) rfl rfl rfl ?_; rintro x rfl hrd hng
  (repeat (first | (refine K_ifT rfl rfl ?_) | (refine K_ifF rfl rfl ?_) | (refine K_ev nmd [] hng (by kernel_rfl) fun hf C S K hC1 hC hS hK => ?_; simp (disch := first | omega | assumption) only [go_sem]; refine hK ?_; clear hK hS hC hC1 K S C hf) | ((first | refine zk ?_ | refine zn ?_ | refine ze ?_); with_reducible (constructor; repeat constructor); try refine zl ?_)))
  refine K_evd nmd [] [] mixed hng (by kernel_rfl) [1, 4, 6, 7] fun hf C S K hC hS hK => ?_; simp (disch := first | omega | assumption) only [go_sem]
  (first | refine hK (dynN_quiet rfl) ?_ | refine hK (by simp (disch := first | omega | assumption) only [go_sem, List.reverse_cons, List.reverse_nil, ne_eq, not_false_eq_true, implies_true]) ?_); clear hK hS hC K S C hf
  (repeat (first | (refine K_ifT rfl rfl ?_) | (refine K_ifF rfl rfl ?_) | (refine K_ev nmd [] hng (by kernel_rfl) fun hf C S K hC1 hC hS hK => ?_; simp (disch := first | omega | assumption) only [go_sem]; refine hK ?_; clear hK hS hC hC1 K S C hf) | ((first | refine zk ?_ | refine zn ?_ | refine ze ?_); with_reducible (constructor; repeat constructor); try refine zl ?_)))
  exact K_ret (done_plain (by simp (disch := first | omega | assumption) only [go_sem, Res.av, toldR, badR, usageR]))
theorem runR_echo (args : List Str) (ha : ∀ s ∈ args, s.length ≤ 4000000) (hal : args.length ≤ 4000000) (t : Str) (p : Oid) : CallOK Tryz.prog 26 [.list 1 ((([101, 99, 104, 111] : Str) :: args).map AV.str), .str t] (Oid.under p) ⟨[], .tuple [(toldR (Lib.join args [32] ++ [10])).av, .bool true], []⟩ := by
  have hjl := join_len args [32] 4000000 ha
  have hjm : args.length * (([32] : Str).length + 4000000) ≤ 100000000000000 := by
    rw [List.length_singleton]; omega
  have hJ := fun p => wordsJ_ok args ha hal p
  have hxl := Nat.le_trans hjl hjm
  generalize Lib.join args [32] = x0 at hxl hJ ⊢
  clear hjm hjl
  refine fnOK (n := 90) (rs := [.cell 4 32, .tmp 5]) Tryz.func26 rfl rfl (by decide) rfl rfl rfl ?_; rintro x rfl hrd hng
  (repeat (first | (refine K_ifT rfl rfl ?_) | (refine K_ifF rfl rfl ?_) | (refine K_ev nmd [] hng (by kernel_rfl) fun hf C S K hC1 hC hS hK => ?_; simp (disch := first | omega | assumption) only [go_sem]; refine hK ?_; clear hK hS hC hC1 K S C hf) | ((first | refine zk ?_ | refine zn ?_ | refine ze ?_); with_reducible (constructor; repeat constructor); try refine zl ?_)))
  refine K_evd nmd [] [] mixed hng (by kernel_rfl) [1, 4, 6, 7] fun hf C S K hC hS hK => ?_; simp (disch := first | omega | assumption) only [go_sem]
  (first | refine hK (dynN_quiet rfl) ?_ | refine hK (by simp (disch := first | omega | assumption) only [go_sem, List.reverse_cons, List.reverse_nil, ne_eq, not_false_eq_true, implies_true]) ?_); clear hK hS hC K S C hf
  (repeat (first | (refine K_ifT rfl rfl ?_) | (refine K_ifF rfl rfl ?_) | (refine K_ev nmd [] hng (by kernel_rfl) fun hf C S K hC1 hC hS hK => ?_; simp (disch := first | omega | assumption) only [go_sem]; (repeat ((first | refine hC1 _ (hJ _) (by simp (disch := first | omega | assumption) only [go_sem]) ?_); simp (disch := first | omega | assumption) only [go_sem])); refine hK ?_; clear hK hS hC hC1 K S C hf) | ((first | refine zk ?_ | refine zn ?_ | refine ze ?_); with_reducible (constructor; repeat constructor); try refine zl ?_)))
  exact K_ret (done_plain (by simp (disch := first | omega | assumption) only [go_sem, Res.av, toldR, badR, usageR]))
theorem runR_none (nm : Str) (args : List Str) (t : Str) (h0 : ¬ nm = [116, 114, 117, 101]) (h1 : ¬ nm = [102, 97, 108, 115, 101]) (h2 : ¬ nm = [101, 99, 104, 111]) (h3 : ¬ nm = [104, 101, 97, 100]) (h4 : ¬ nm = [116, 97, 105, 108]) (h5 : ¬ nm = [119, 99]) (h6 : ¬ nm = [115, 111, 114, 116]) (h7 : ¬ nm = [117, 110, 105, 113]) (h8 : ¬ nm = [99, 117, 116]) (h9 : ¬ nm = [116, 114]) (h10 : ¬ nm = [103, 114, 101, 112]) (h11 : ¬ nm = [98, 97, 115, 101, 110, 97, 109, 101]) (h12 : ¬ nm = [100, 105, 114, 110, 97, 109, 101]) (p : Oid) :
    CallOK Tryz.prog 26 [.list 1 ((nm :: args).map AV.str), .str t] (Oid.under p) ⟨[], .tuple [badR.av, .bool false], []⟩ := by
  have z0 : (nm = [116, 114, 117, 101]) = False := eq_false h0
  have z1 : (nm = [102, 97, 108, 115, 101]) = False := eq_false h1
  have z2 : (nm = [101, 99, 104, 111]) = False := eq_false h2
  have z3 : (nm = [104, 101, 97, 100]) = False := eq_false h3
  have z4 : (nm = [116, 97, 105, 108]) = False := eq_false h4
  have z5 : (nm = [119, 99]) = False := eq_false h5
  have z6 : (nm = [115, 111, 114, 116]) = False := eq_false h6
  have z7 : (nm = [117, 110, 105, 113]) = False := eq_false h7
  have z8 : (nm = [99, 117, 116]) = False := eq_false h8
  have z9 : (nm = [116, 114]) = False := eq_false h9
  have z10 : (nm = [103, 114, 101, 112]) = False := eq_false h10
  have z11 : (nm = [98, 97, 115, 101, 110, 97, 109, 101]) = False := eq_false h11
  have z12 : (nm = [100, 105, 114, 110, 97, 109, 101]) = False := eq_false h12
  refine fnOK (n := 90) (rs := [.cell 4 32, .tmp 5]) Tryz.func26 rfl rfl (by decide) rfl rfl rfl ?_; rintro x rfl hrd hng
  (repeat (first | (refine K_ifT rfl rfl ?_) | (refine K_ifF rfl rfl ?_) | (refine K_ev nmd [] hng (by kernel_rfl) fun hf C S K hC1 hC hS hK => ?_; simp (disch := first | omega | assumption) only [go_sem]; refine hK ?_; clear hK hS hC hC1 K S C hf) | ((first | refine zk ?_ | refine zn ?_ | refine ze ?_); with_reducible (constructor; repeat constructor); try refine zl ?_)))
  refine K_evd nmd [] [] mixed hng (by kernel_rfl) [1, 4, 6, 7] fun hf C S K hC hS hK => ?_; simp (disch := first | omega | assumption) only [go_sem]
  (first | refine hK (dynN_quiet rfl) ?_ | refine hK (by simp (disch := first | omega | assumption) only [go_sem, List.reverse_cons, List.reverse_nil, ne_eq, not_false_eq_true, implies_true]) ?_); clear hK hS hC K S C hf
  (repeat (first | (refine K_ifT rfl rfl ?_) | (refine K_ifF rfl rfl ?_) | (refine K_ev nmd [] hng (by kernel_rfl) fun hf C S K hC1 hC hS hK => ?_; simp (disch := first | omega | assumption) only [go_sem, z0, z1, z2, z3, z4, z5, z6, z7, z8, z9, z10, z11, z12, decide_true, decide_false, ne_eq, not_true_eq_false, not_false_eq_true]; (repeat ((first | refine hC1 _ () (by simp (disch := first | omega | assumption) only [go_sem]) ?_); simp (disch := first | omega | assumption) only [go_sem])); refine hK ?_; clear hK hS hC hC1 K S C hf) | ((first | refine zk ?_ | refine zn ?_ | refine ze ?_); with_reducible (constructor; repeat constructor); try refine zl ?_)))
  exact K_ret (done_plain (by simp (disch := first | omega | assumption) only [go_sem, Res.av, toldR, badR, usageR]))
theorem same_true (args : List Str) (ha : ∀ s ∈ args, s.length ≤ 4000000) (hal : args.length ≤ 4000000) (t : Str) (p : Oid) (hp : p.mono = false) :
    CallOK Tryz.prog 17 [.list 1 ((([116, 114, 117, 101] : Str) :: args).map AV.str), .str t] (Oid.under p) ⟨[], .bool true, []⟩ :=
  same_of ([116, 114, 117, 101] :: args) t (toldR []) true (fun p hp => run_any [116, 114, 117, 101] (by decide) args t 27 (by kernel_rfl) (by kernel_rfl) (toldR []) true p (fun p hp => yes_ok args t p) hp) (fun p => runR_true args t p) p hp
theorem same_false (args : List Str) (ha : ∀ s ∈ args, s.length ≤ 4000000) (hal : args.length ≤ 4000000) (t : Str) (p : Oid) (hp : p.mono = false) :
    CallOK Tryz.prog 17 [.list 1 ((([102, 97, 108, 115, 101] : Str) :: args).map AV.str), .str t] (Oid.under p) ⟨[], .bool true, []⟩ :=
  same_of ([102, 97, 108, 115, 101] :: args) t (⟨1, [], []⟩ : Res) true (fun p hp => run_any [102, 97, 108, 115, 101] (by decide) args t 28 (by kernel_rfl) (by kernel_rfl) (⟨1, [], []⟩ : Res) true p (fun p hp => no_ok args t p) hp) (fun p => runR_false args t p) p hp
theorem same_echo (args : List Str) (ha : ∀ s ∈ args, s.length ≤ 4000000) (hal : args.length ≤ 4000000) (t : Str) (p : Oid) (hp : p.mono = false) :
    CallOK Tryz.prog 17 [.list 1 ((([101, 99, 104, 111] : Str) :: args).map AV.str), .str t] (Oid.under p) ⟨[], .bool true, []⟩ :=
  same_of ([101, 99, 104, 111] :: args) t (toldR (Lib.join args [32] ++ [10])) true (fun p hp => run_any [101, 99, 104, 111] (by decide) args t 29 (by kernel_rfl) (by kernel_rfl) (toldR (Lib.join args [32] ++ [10])) true p (fun p hp => echo_ok args ha hal t p hp) hp) (fun p => runR_echo args ha hal t p) p hp
theorem key_ne {a b : Str} (h : ¬ a = b) : sameK (.str a) (.str b) = false := by
  show (eqS (.str a) (.str b) && true) = false
  rw [Bool.and_true]
  show (a == b) = false
  simpa using h
theorem fm_none (nm : Str) (h0 : ¬ nm = [116, 114, 117, 101]) (h1 : ¬ nm = [102, 97, 108, 115, 101]) (h2 : ¬ nm = [101, 99, 104, 111]) (h3 : ¬ nm = [104, 101, 97, 100]) (h4 : ¬ nm = [116, 97, 105, 108]) (h5 : ¬ nm = [119, 99]) (h6 : ¬ nm = [115, 111, 114, 116]) (h7 : ¬ nm = [117, 110, 105, 113]) (h8 : ¬ nm = [99, 117, 116]) (h9 : ¬ nm = [116, 114]) (h10 : ¬ nm = [103, 114, 101, 112]) (h11 : ¬ nm = [98, 97, 115, 101, 110, 97, 109, 101]) (h12 : ¬ nm = [100, 105, 114, 110, 97, 109, 101]) : hasE (.str nm) (FM 13) = false := by
  simp only [FM, allU, List.take_succ_cons, List.take_zero, hasE, lookE, key_ne h0, key_ne h1, key_ne h2, key_ne h3, key_ne h4, key_ne h5, key_ne h6, key_ne h7, key_ne h8, key_ne h9, key_ne h10, key_ne h11, key_ne h12, decide_false, Bool.false_eq_true, if_false, Option.isSome_none]
theorem same_any (argv : List Str) (ha : ∀ s ∈ argv, s.length ≤ 4000000) (hal : argv.length ≤ 4000000) (t : Str) (ht : t.length ≤ 4000000) (p : Oid) (hp : p.mono = false) :
    CallOK Tryz.prog 17 [.list 1 (argv.map AV.str), .str t] (Oid.under p) ⟨[], .bool true, []⟩ := by
  rcases argv with _ | ⟨nm, args⟩
  · exact same_of [] t badR false (fun p _ => run_nil t p) (fun p => runR_nil t p) p hp
  have ha2 : ∀ s ∈ args, s.length ≤ 4000000 := fun s hs => ha s (List.mem_cons_of_mem _ hs)
  have hal2 : args.length ≤ 4000000 := by simp only [List.length_cons] at hal; omega
  by_cases h0 : nm = [116, 114, 117, 101]
  · subst h0; exact same_true args ha2 hal2 t p hp
  by_cases h1 : nm = [102, 97, 108, 115, 101]
  · subst h1; exact same_false args ha2 hal2 t p hp
  by_cases h2 : nm = [101, 99, 104, 111]
  · subst h2; exact same_echo args ha2 hal2 t p hp
  by_cases h3 : nm = [104, 101, 97, 100]
  · subst h3; exact same_head args t ha2 ht p hp
  by_cases h4 : nm = [116, 97, 105, 108]
  · subst h4; exact same_tail args t ha2 ht p hp
  by_cases h5 : nm = [119, 99]
  · subst h5; exact same_wc args ha2 hal2 t ht p hp
  by_cases h6 : nm = [115, 111, 114, 116]
  · subst h6; exact same_sort args hal2 t ht p hp
  by_cases h7 : nm = [117, 110, 105, 113]
  · subst h7; exact same_uniq args hal2 t ht p hp
  by_cases h8 : nm = [99, 117, 116]
  · subst h8; exact same_cut args t ha2 ht p hp
  by_cases h9 : nm = [116, 114]
  · subst h9; exact same_tr args t ha2 ht p hp
  by_cases h10 : nm = [103, 114, 101, 112]
  · subst h10; exact same_grep args t ha2 ht p hp
  by_cases h11 : nm = [98, 97, 115, 101, 110, 97, 109, 101]
  · subst h11; exact same_base args t ha2 p hp
  by_cases h12 : nm = [100, 105, 114, 110, 97, 109, 101]
  · subst h12; exact same_dir args t ha2 p hp
  exact same_of (nm :: args) t badR false (fun p _ => run_none nm args t (fm_none nm h0 h1 h2 h3 h4 h5 h6 h7 h8 h9 h10 h11 h12) p) (fun p => runR_none nm args t h0 h1 h2 h3 h4 h5 h6 h7 h8 h9 h10 h11 h12 p) p hp
end Go.Proofs.YtiaiggbimlbkfaaGreatDoor
namespace Go.Proofs.YtiaiggbimlbkfaaGreatDoor
open Go Go.Ab
set_option maxRecDepth 20000
set_option maxHeartbeats 4000000
theorem few_ok (l : List Str) (hl : l.length ≤ 140737488355328) (hs : ∀ i, (l.getD i default).length ≤ 140737488355328) (p : Oid) :
    CallOK Tryz.prog 14 [.list 1 (l.map AV.str)] (Oid.under p) ⟨[], .bool (decide ((joinN l).length ≤ 300)), []⟩ := by
  refine fnOK (n := 25) (rs := [.tmp 2]) Tryz.func14 rfl rfl (by decide) rfl rfl rfl ?_; rintro x rfl hrd hng
  (repeat (first | (refine K_ifT rfl rfl ?_) | (refine K_ifF rfl rfl ?_) | (refine K_ev nmd [] hng (by kernel_rfl) fun hf C S K hC1 hC hS hK => ?_; simp (disch := first | omega | assumption) only [go_sem]; refine hK ?_; clear hK hS hC hC1 K S C hf) | ((first | refine zk ?_ | refine zn ?_ | refine ze ?_); with_reducible (constructor; repeat constructor); try refine zl ?_)))
  refine K_loop [0, 3, 4] (fun k s' => ∃ i c : Nat, k = l.length - i ∧ i ≤ l.length ∧ (joinN (l.take i)).length ≤ 140737488355800 ∧ s' = ⟨[(0, .list 1 (l.map AV.str)), (3, .int .i64 ((joinN (l.take i)).length : Nat)), (4, .int .i64 i)], Mem.of [], c, []⟩) _ ⟨0, _, rfl, Nat.zero_le _, Nat.zero_le _, rfl⟩ ?_
  rintro k s' ⟨i, c, rfl, hi, hb300, rfl⟩
  have hle := joinN_take_le (l := l) i
  generalize hm : (joinN (l.take i)).length = m at hle hb300
  (try ((first | refine zk ?_ | refine zn ?_ | refine ze ?_); with_reducible (constructor; repeat constructor)); try refine zl ?_)
  refine K_cut [0, 3, 4, 12] (fun s' => ∃ (b : Bool) (d : Nat), s' = ⟨[(0, .list 1 (l.map AV.str)), (3, .int .i64 (m : Int)), (4, .int .i64 i), (12, .bool b)], Mem.of [], d, []⟩ ∧ (b = true ↔ (i < l.length ∧ m ≤ 300))) ?_ ?_
  · refine K_ev nmd [(4, 9)] hng (by kernel_rfl) fun hf C S K hC1 hC hS hK => ?_; simp (disch := first | omega | assumption) only [go_sem, List.length_map, decide_true, decide_false, ne_eq, not_true_eq_false, not_false_eq_true]
    (repeat' (first | (refine evG_split (fun hv => ?_) (fun hv => ?_) <;> (try simp only [zb1, zb2, zb3, zb4, zb5] at hv) <;> simp (disch := first | omega | assumption) only [go_sem, hv, List.length_map, decide_true, decide_false, ne_eq, not_true_eq_false, not_false_eq_true]) | (refine hK ?_; clear hK hS hC hC1 K S C hf)))
    all_goals first
      | contradiction
      | exact K_cutN ⟨_, _, rfl, by simp only [decide_eq_true_eq]; omega⟩
      | exact K_cutN ⟨_, _, rfl, by simp only [Bool.false_eq_true, false_iff]; omega⟩
  rintro s' ⟨b, d, rfl, hiff⟩
  refine K_if rfl rfl (fun hb => ?_) (fun hb => ?_)
  · obtain ⟨hlt, h300⟩ := hiff.1 hb
    have ht := joinN_take (l := l) (i := i) hlt
    have hsl := hs i
    generalize hq : l.getD i default = q at ht hsl
    have hlen := congrArg List.length ht
    rw [List.length_append, List.length_append, List.length_singleton, hm] at hlen
    (repeat (first | (refine K_ifT rfl rfl ?_) | (refine K_ifF rfl rfl ?_) | (refine K_ev nmd [] hng (by kernel_rfl) fun hf C S K hC1 hC hS hK => ?_; simp (disch := first | omega | assumption) only [go_sem, List.length_map, hq]; (repeat ((first | refine hC1 _ () (by simp (disch := first | omega | assumption) only [go_sem]) ?_); simp (disch := first | omega | assumption) only [go_sem])); refine hK ?_; clear hK hS hC hC1 K S C hf) | ((first | refine zk ?_ | refine zn ?_ | refine ze ?_); with_reducible (constructor; repeat constructor); try refine zl ?_)))
    refine ⟨_, _, ?_, fun _ _ h => h, i + 1, d + 1 + 1, rfl, by omega, by omega, ?_⟩
    · omega
    · rw [hlen]; rfl
  · have hst : ¬ (i < l.length ∧ m ≤ 300) := fun h => by rw [hiff.2 h] at hb; cases hb
    have hres : decide ((joinN l).length ≤ 300) = decide ((m : Int) ≤ 300) := decide_eq_decide.2 (by
      by_cases h1 : i < l.length
      · constructor
        · intro h; omega
        · intro h; exact absurd ⟨h1, by omega⟩ hst
      · have hE : l.take i = l := List.take_of_length_le (by omega)
        rw [hE] at hm
        omega)
    rw [hres]
    (repeat (first | (refine K_ifT rfl rfl ?_) | (refine K_ifF rfl rfl ?_) | (refine K_ev nmd [] hng (by kernel_rfl) fun hf C S K hC1 hC hS hK => ?_; simp (disch := first | omega | assumption) only [go_sem]; refine hK ?_; clear hK hS hC hC1 K S C hf) | ((first | refine zk ?_ | refine zn ?_ | refine ze ?_); with_reducible (constructor; repeat constructor); try refine zl ?_)))
    exact K_ret (done1 rfl)
def namesL : List Str := [[116, 114, 117, 101], [102, 97, 108, 115, 101], [101, 99, 104, 111], [104, 101, 97, 100], [116, 97, 105, 108], [119, 99], [115, 111, 114, 116], [117, 110, 105, 113], [99, 117, 116], [116, 114], [103, 114, 101, 112], [98, 97, 115, 101, 110, 97, 109, 101], [100, 105, 114, 110, 97, 109, 101]]
theorem names_ok (p : Oid) : CallOK Tryz.prog 16 [] (Oid.under p) ⟨[], .list 1 (namesL.map AV.str), []⟩ := by
  refine fnOK (n := 2) (rs := [.tmp 0]) Tryz.func16 rfl rfl (by decide) rfl rfl rfl ?_; rintro x rfl hrd hng
  (repeat (first | (refine K_ifT rfl rfl ?_) | (refine K_ifF rfl rfl ?_) | (refine K_ev nmd [] hng (by kernel_rfl) fun hf C S K hC1 hC hS hK => ?_; simp (disch := first | omega | assumption) only [go_sem]; refine hK ?_; clear hK hS hC hC1 K S C hf) | ((first | refine zk ?_ | refine zn ?_ | refine ze ?_); with_reducible (constructor; repeat constructor); try refine zl ?_)))
  exact K_ret (done1 rfl)
theorem names_len : namesL.length = 13 := rfl
theorem names_short (k : Nat) : (namesL.getD k default).length ≤ 10 := by
  rw [List.getD_eq_getElem?_getD]
  cases h : namesL[k]? with
  | none => exact Nat.zero_le _
  | some s =>
    have := List.mem_of_getElem? h
    revert s
    intro s _ hs
    simp only [namesL, List.mem_cons, List.not_mem_nil, or_false] at hs
    rcases hs with rfl | rfl | rfl | rfl | rfl | rfl | rfl | rfl | rfl | rfl | rfl | rfl | rfl <;> decide
theorem mem_joinN {l : List Str} {s : Str} (h : s ∈ l) : s.length + 1 ≤ (joinN l).length := by
  induction l with
  | nil => cases h
  | cons a l ih =>
    simp only [joinN, List.length_append, List.length_singleton]
    rcases List.mem_cons.1 h with rfl | h
    · omega
    · have := ih h; omega
theorem filterAny_ok (l : List Str) (k : UInt8) (t : Str) (hl : l.length ≤ 140737488355328) (hs : ∀ s ∈ l, s.length ≤ 140737488355328) (h1 : t.length ≤ 140737488355328) (p : Oid) (hp : p.mono = false) :
    CallOK Tryz.prog 3 [.list 1 (l.map AV.str), .int .u8 k.toNat, .str t] (Oid.under p) ⟨[], .bool true, []⟩ := by
  have hget : ∀ i, (l.getD i default).length ≤ 140737488355328 := fun i => by
    rw [List.getD_eq_getElem?_getD]
    cases h : l[i]? with
    | none => exact Nat.zero_le _
    | some s => exact hs s (List.mem_of_getElem? h)
  have hfew := fun p => few_ok l hl hget p
  by_cases hf : (joinN l).length ≤ 300
  · rw [decide_eq_true hf] at hfew
    by_cases ht : t.length ≤ 500
    · have hz : (500 < (t.length : Int)) = False := eq_false (by omega)
      have hln := joinN_len l
      have hse : ∀ s ∈ l, s.length ≤ 300 := fun s hs => by have := mem_joinN hs; omega
      have htm : (k.toNat : Int).tmod 13 = ((k.toNat % 13 : Nat) : Int) := tmod_nat k.toNat 13
      have hk : k.toNat % 13 < 13 := Nat.mod_lt _ (by decide)
      generalize k.toNat % 13 = q at htm hk
      have hnl := names_len
      have hns := names_short q
      have hnm := fun p => names_ok p
      generalize namesL = NL at hnl hns hnm
      generalize hq : NL.getD q default = nm at hns
      have hA := fun p hp => same_any l (fun s hs => by have := hse s hs; omega) (by omega) t (by omega) p hp
      have hB := fun p hp => same_any (nm :: l) (fun s hs => by
        rcases List.mem_cons.1 hs with rfl | hs
        · omega
        · have := hse s hs; omega) (by rw [List.length_cons]; omega) t (by omega) p hp
      refine fnOK (n := 40) (rs := [.tmp 6]) Tryz.func3 rfl rfl (by decide) rfl rfl rfl ?_; rintro x rfl hrd hng
      (try ((first | refine zk ?_ | refine zn ?_ | refine ze ?_); with_reducible (constructor; repeat constructor)); try refine zl ?_)
      refine K_ev nmd [] hng (by kernel_rfl) fun hf C S K hC1 hC hS hK => ?_; simp (disch := first | omega | assumption) only [go_sem]
      refine hK ?_; clear hK hS hC hC1 K S C hf
      (try ((first | refine zk ?_ | refine zn ?_ | refine ze ?_); with_reducible (constructor; repeat constructor)); try refine zl ?_)
      refine K_ev nmd [(3, 11)] hng (by kernel_rfl) fun hf C S K hC1 hC hS hK => ?_; simp (disch := first | omega | assumption) only [go_sem, hz, decide_true, decide_false, ne_eq, not_true_eq_false, not_false_eq_true, Bool.not_true]
      (repeat' (first | (refine evG_split (fun hv => ?_) (fun hv => ?_) <;> (try simp only [zb1, zb2, zb3, zb4, zb5] at hv) <;> simp (disch := first | omega | assumption) only [go_sem, hv, hz, decide_true, decide_false, ne_eq, not_true_eq_false, not_false_eq_true, Bool.not_true]) | (refine hC1 _ (hfew _) (by simp (disch := first | omega | assumption) only [go_sem, hz, decide_true, decide_false, ne_eq, not_true_eq_false, not_false_eq_true, Bool.not_true]) ?_; simp (disch := first | omega | assumption) only [go_sem, hz, decide_true, decide_false, ne_eq, not_true_eq_false, not_false_eq_true, Bool.not_true]) | (refine hK ?_; clear hK hS hC hC1 K S C hf)))
      all_goals first | contradiction | skip
      (try ((first | refine zk ?_ | refine zn ?_ | refine ze ?_); with_reducible (constructor; repeat constructor)); try refine zl ?_)
      refine K_ifF rfl rfl ?_
      (try ((first | refine zk ?_ | refine zn ?_ | refine ze ?_); with_reducible (constructor; repeat constructor)); try refine zl ?_)
      refine K_ev nmd [] hng (by kernel_rfl) fun hf C S K hC1 hC hS hK => ?_; simp (disch := first | omega | assumption) only [go_sem]
      refine hK ?_; clear hK hS hC hC1 K S C hf
      refine K_void 7 1 rfl ?_
      simp (disch := first | omega | assumption) only [go_sem]
      (repeat (first | (refine K_ifT rfl rfl ?_) | (refine K_ifF rfl rfl ?_) | (refine K_ev nmd [] hng (by kernel_rfl) fun hf C S K hC1 hC hS hK => ?_; simp (disch := first | omega | assumption) only [go_sem, htm, hnl, hq, List.length_map]; (repeat ((first | refine hC1 _ (hnm _) (by simp (disch := first | omega | assumption) only [go_sem]) ?_); simp (disch := first | omega | assumption) only [go_sem])); refine hK ?_; clear hK hS hC hC1 K S C hf) | ((first | refine zk ?_ | refine zn ?_ | refine ze ?_); with_reducible (constructor; repeat constructor); try refine zl ?_)))
      refine K_freeze (.sub 5 2 x.p) 1 ((nm :: l).map AV.str) (by simp (disch := first | omega | assumption) only [go_sem]) ?_
      have hlen1 : (1 + l.length = l.length + 1) = True := eq_true (by omega)
      simp (disch := first | omega | assumption) only [go_sem, List.length_map, List.length_cons, hlen1, if_true]
      (try ((first | refine zk ?_ | refine zn ?_ | refine ze ?_); with_reducible (constructor; repeat constructor)); try refine zl ?_)
      refine K_ev nmd [(1, 30), (6, 35)] hng (by kernel_rfl) fun hf C S K hC1 hC hS hK => ?_; simp (disch := first | omega | assumption) only [go_sem, decide_true, decide_false, ne_eq, not_true_eq_false, not_false_eq_true]
      (repeat' (first | (refine evG_split (fun hv => ?_) (fun hv => ?_) <;> (try simp only [zb1, zb2, zb3, zb4, zb5] at hv) <;> simp (disch := first | omega | assumption) only [go_sem, hv, decide_true, decide_false, ne_eq, not_true_eq_false, not_false_eq_true]) | (refine hC1 _ (awake_ok _ (mono_sub' rfl hp)) (by simp (disch := first | omega | assumption) only [go_sem, decide_true, decide_false, ne_eq, not_true_eq_false, not_false_eq_true]) ?_; simp (disch := first | omega | assumption) only [go_sem, decide_true, decide_false, ne_eq, not_true_eq_false, not_false_eq_true]) | (refine hC1 _ (hA _ (mono_sub' rfl hp)) (by simp (disch := first | omega | assumption) only [go_sem, decide_true, decide_false, ne_eq, not_true_eq_false, not_false_eq_true]) ?_; simp (disch := first | omega | assumption) only [go_sem, decide_true, decide_false, ne_eq, not_true_eq_false, not_false_eq_true]) | (refine hC1 _ (hB _ (mono_sub' rfl hp)) (by simp (disch := first | omega | assumption) only [go_sem, decide_true, decide_false, ne_eq, not_true_eq_false, not_false_eq_true]) ?_; simp (disch := first | omega | assumption) only [go_sem, decide_true, decide_false, ne_eq, not_true_eq_false, not_false_eq_true]) | (refine hK ?_; clear hK hS hC hC1 K S C hf)))
      all_goals first | contradiction | skip
      (repeat (first | (refine K_ifT rfl rfl ?_) | (refine K_ifF rfl rfl ?_) | (refine K_ev nmd [] hng (by kernel_rfl) fun hf C S K hC1 hC hS hK => ?_; simp (disch := first | omega | assumption) only [go_sem]; refine hK ?_; clear hK hS hC hC1 K S C hf) | ((first | refine zk ?_ | refine zn ?_ | refine ze ?_); with_reducible (constructor; repeat constructor); try refine zl ?_)))
      exact K_ret (done1 rfl)
    · have hz : (500 < (t.length : Int)) = True := eq_true (by omega)
      refine fnOK (n := 40) (rs := [.tmp 6]) Tryz.func3 rfl rfl (by decide) rfl rfl rfl ?_; rintro x rfl hrd hng
      (try ((first | refine zk ?_ | refine zn ?_ | refine ze ?_); with_reducible (constructor; repeat constructor)); try refine zl ?_)
      refine K_ev nmd [] hng (by kernel_rfl) fun hf C S K hC1 hC hS hK => ?_; simp (disch := first | omega | assumption) only [go_sem]
      refine hK ?_; clear hK hS hC hC1 K S C hf
      (try ((first | refine zk ?_ | refine zn ?_ | refine ze ?_); with_reducible (constructor; repeat constructor)); try refine zl ?_)
      refine K_ev nmd [(3, 11)] hng (by kernel_rfl) fun hf C S K hC1 hC hS hK => ?_; simp (disch := first | omega | assumption) only [go_sem, hz, decide_true, decide_false, ne_eq, not_true_eq_false, not_false_eq_true, Bool.not_true]
      (repeat' (first | (refine evG_split (fun hv => ?_) (fun hv => ?_) <;> (try simp only [zb1, zb2, zb3, zb4, zb5] at hv) <;> simp (disch := first | omega | assumption) only [go_sem, hv, hz, decide_true, decide_false, ne_eq, not_true_eq_false, not_false_eq_true, Bool.not_true]) | (refine hC1 _ (hfew _) (by simp (disch := first | omega | assumption) only [go_sem, hz, decide_true, decide_false, ne_eq, not_true_eq_false, not_false_eq_true, Bool.not_true]) ?_; simp (disch := first | omega | assumption) only [go_sem, hz, decide_true, decide_false, ne_eq, not_true_eq_false, not_false_eq_true, Bool.not_true]) | (refine hK ?_; clear hK hS hC hC1 K S C hf)))
      all_goals first | contradiction | skip
      (repeat (first | (refine K_ifT rfl rfl ?_) | (refine K_ifF rfl rfl ?_) | (refine K_ev nmd [] hng (by kernel_rfl) fun hf C S K hC1 hC hS hK => ?_; simp (disch := first | omega | assumption) only [go_sem]; (repeat ((first | refine hC1 _ (awake_ok _ (mono_sub' rfl hp)) (by simp (disch := first | omega | assumption) only [go_sem]) ?_); simp (disch := first | omega | assumption) only [go_sem])); refine hK ?_; clear hK hS hC hC1 K S C hf) | ((first | refine zk ?_ | refine zn ?_ | refine ze ?_); with_reducible (constructor; repeat constructor); try refine zl ?_)))
      exact K_ret (done1 rfl)
  · rw [decide_eq_false hf] at hfew
    refine fnOK (n := 40) (rs := [.tmp 6]) Tryz.func3 rfl rfl (by decide) rfl rfl rfl ?_; rintro x rfl hrd hng
    (try ((first | refine zk ?_ | refine zn ?_ | refine ze ?_); with_reducible (constructor; repeat constructor)); try refine zl ?_)
    refine K_ev nmd [] hng (by kernel_rfl) fun hf C S K hC1 hC hS hK => ?_; simp (disch := first | omega | assumption) only [go_sem]
    refine hK ?_; clear hK hS hC hC1 K S C hf
    (try ((first | refine zk ?_ | refine zn ?_ | refine ze ?_); with_reducible (constructor; repeat constructor)); try refine zl ?_)
    refine K_ev nmd [(3, 11)] hng (by kernel_rfl) fun hf C S K hC1 hC hS hK => ?_; simp (disch := first | omega | assumption) only [go_sem, decide_true, decide_false, ne_eq, not_true_eq_false, not_false_eq_true, Bool.not_false]
    (repeat' (first | (refine evG_split (fun hv => ?_) (fun hv => ?_) <;> (try simp only [zb1, zb2, zb3, zb4, zb5] at hv) <;> simp (disch := first | omega | assumption) only [go_sem, hv, decide_true, decide_false, ne_eq, not_true_eq_false, not_false_eq_true, Bool.not_false]) | (refine hC1 _ (hfew _) (by simp (disch := first | omega | assumption) only [go_sem, decide_true, decide_false, ne_eq, not_true_eq_false, not_false_eq_true, Bool.not_false]) ?_; simp (disch := first | omega | assumption) only [go_sem, decide_true, decide_false, ne_eq, not_true_eq_false, not_false_eq_true, Bool.not_false]) | (refine hK ?_; clear hK hS hC hC1 K S C hf)))
    all_goals first | contradiction | skip
    (repeat (first | (refine K_ifT rfl rfl ?_) | (refine K_ifF rfl rfl ?_) | (refine K_ev nmd [] hng (by kernel_rfl) fun hf C S K hC1 hC hS hK => ?_; simp (disch := first | omega | assumption) only [go_sem]; (repeat ((first | refine hC1 _ (awake_ok _ (mono_sub' rfl hp)) (by simp (disch := first | omega | assumption) only [go_sem]) ?_); simp (disch := first | omega | assumption) only [go_sem])); refine hK ?_; clear hK hS hC hC1 K S C hf) | ((first | refine zk ?_ | refine zn ?_ | refine ze ?_); with_reducible (constructor; repeat constructor); try refine zl ?_)))
    exact K_ret (done1 rfl)
end Go.Proofs.YtiaiggbimlbkfaaGreatDoor
namespace Go.Proofs.YtiaiggbimlbkfaaGreatDoor
open Go Go.Ab
set_option maxRecDepth 100000
theorem c_strs : Tryz.prog.cellsOf 22 = 1 := by kernel_rfl
theorem b_str : Tryz.prog.bytesOf 9 = 16 := by kernel_rfl
theorem reach_strs {l : List Str} (h : l.length * Tryz.prog.bytesOf 9 ≤ reachBytes) : l.length ≤ 140737488355328 := by rw [b_str] at h; unfold reachBytes at h; omega
theorem rd_strs : Rd Tryz.prog 22 (fun l : List Str => AV.list 1 (l.map AV.str)) (fun l => l.length * Tryz.prog.bytesOf 9 ≤ reachBytes ∧ ∀ a ∈ l, a.length ≤ reachBytes) :=
  c_str ▸ rd_slice Tryz.underlying22 c_strs (by rw [c_str]; decide) (rd_str Tryz.underlying9 c_str)
theorem filterAny_lifted (os : Os) (started : os.Started) (H : Type) (enc : TypeId × Value → H) (F : Stop.Interp) :
    ReturnsInHanded {} Tryz.checked os 3 .any ((OpenSpec.ofChange Rows.filterAnySpec).preRow enc Tryz.prog Tryz.f3 Rows.filterAnyRow.domain false Rows.filterAnyRow.laid) (((OpenSpec.ofChange Rows.filterAnySpec).at F).post enc Tryz.prog Tryz.f3 false true false false) := by
  have hx : DataW.whole enc Tryz.prog ((laidWorld os).forCall (fun _ _ => 0) ⟨#[], #[.slice none 0 0, .int .u8 0, .string ⟨#[]⟩], []⟩).memory Tryz.f3.params.toList Rows.filterAnySpec.vars false (#[.slice none 0 0, .int .u8 0, .string ⟨#[]⟩] : Array Value).toList 8 = some ([.nil, .lit (.int .u8 0), .lit (.string [])], [], []) := by kernel_rfl
  exact law_lifted_row (C := Tryz.checked) (s := Rows.filterAnySpec) (ts := [22, 5, 9]) (W := fun p : List Str × UInt8 × Str × Unit => (p.1.length * Tryz.prog.bytesOf 9 ≤ reachBytes ∧ ∀ a ∈ p.1, a.length ≤ reachBytes) ∧ True ∧ p.2.2.1.length ≤ reachBytes ∧ True) own started (by kernel_rfl) Tryz.func3
    (witness_row_at (enc := enc) (C := Tryz.checked) false (laidWorld os) #[.slice none 0 0, .int .u8 0, .string ⟨#[]⟩] rfl (by kernel_rfl) (by kernel_rfl) (by kernel_rfl)
      (OpenSpec.preRow_of_cond 8 hx (by kernel_rfl) (fun k hk => by cases hk) (by kernel_rfl) (laid_met os _)))
    laidOut full (by rw [Tryz.params3]) (by kernel_rfl) (by kernel_rfl) Tryz.underlying4 rfl (fun ds h => by match ds, h with | [d0, d1, d2], _ => rfl)
    (rdA_slice Tryz.underlying22 c_strs (fun _ => rfl) rd_strs (rdA_int Tryz.underlying5 c_u8 (fun _ => rfl) (rd_u8 Tryz.underlying5 c_u8) (rdA_str Tryz.underlying9 c_str (fun _ => rfl) (rd_str Tryz.underlying9 c_str) rdA_nil))) (fun b hb => filterAny_ok b.1 b.2.1 b.2.2.1 (reach_strs hb.1.1) (fun s hs => reach_str (hb.1.2 s hs)) (reach_str hb.2.2.1) _ rfl) (fun W h ho => laid_facts h ho)
theorem filterAny_said : Rows.FilterAnySaid :=
  OpenClaim.holds_of_cond 3 Tryz.f3 rfl rfl rfl rfl rfl rfl rfl ⟨rfl, rfl, rfl, rfl, rfl⟩ rfl rfl rfl rfl rfl (by kernel_rfl) Tryz.func3 (by kernel_rfl)
    (of_decide_eq_true (by kernel_rfl)) (by unfold Func.isWrapper; first | (rw [if_pos (by decide +kernel)]; kernel_rfl) | (rw [if_neg (by decide +kernel)]; exact ⟨rfl, rfl⟩))
    (fun os started H enc _ F => by rw [OpenClaim.pre_eq_preRow]; exact filterAny_lifted os started H enc F)
theorem filterAny_plain (f : FuncId) (fn : Func) (hf : Tryz.pinned.checked.prog.funcNamed "scullion/scullionlaw17.FilterAny" = some f) (hfn : Tryz.pinned.checked.prog.funcs[f]? = some fn) :
    true = Tryz.pinned.checked.prog.looks [] ∧ ∀ (j : Nat) t, fn.params[j]? = some t → Tryz.pinned.checked.prog.wantsStandIn t = false := by
  obtain rfl : f = 3 := Option.some.inj ((show Tryz.prog.funcNamed "scullion/scullionlaw17.FilterAny" = some 3 by kernel_rfl).symm.trans hf) |>.symm
  obtain rfl : fn = Tryz.f3 := (Option.some.inj (Tryz.func3.symm.trans hfn)).symm
  refine ⟨by kernel_rfl, fun j t ht => ?_⟩
  have h0 : (Tryz.f3.params.toList.all fun t => !(Tryz.prog.wantsStandIn t)) = true := by kernel_rfl
  have h1 := List.all_eq_true.1 h0 t (by simpa using Array.mem_of_getElem? ht)
  exact (by simpa using h1 : Tryz.prog.wantsStandIn t = false)
theorem filterAny_holds : Rows.FilterAnyCardSaid :=
  Claim7.holds_tied_plain_at .later [] _ _ _ _ filterAny_said (fun _ h => by cases h) (by kernel_rfl) (fun _ h => by cases h) filterAny_row_tie rfl ⟨rfl, rfl⟩ (by kernel_rfl) rfl filterAny_plain (by kernel_rfl)
end Go.Proofs.YtiaiggbimlbkfaaGreatDoor
