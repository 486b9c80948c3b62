/- A part of the proof: the texts Q40, Q41, Q42, Q44, Q45, Q47, Q48, one behind the other. -/
import Derived.Test.YtiaiggbimlbkfaaGreatDoorPBe
set_option linter.unusedVariables false
set_option linter.unusedSimpArgs false
set_option linter.unusedSectionVars false
namespace Go.Proofs.YtiaiggbimlbkfaaGreatDoor
open Go Go.Ab Go.RowKit
set_option maxRecDepth 20000
set_option maxHeartbeats 4000000
theorem words_ok (l : Str) (hl : l.length ≤ 4000000000) (p : Oid) (hp : p.mono = false) : CallOK Tryz.prog 60 [.str l] (Oid.under p) ⟨[], .int .i64 (wordsB true l : Nat), []⟩ :=
  callOK_below (by kernel_rfl) hp fun g args w ha _ => by
    obtain ⟨v, rfl, hv⟩ := ha.one
    obtain ⟨b, rfl, hb⟩ := hv.str_inv
    rw [str_ba hb]
    refine (words_run l hl w).mono ?_
    rintro e w' ⟨rfl, pos, rfl⟩
    exact ⟨_, rfl, .int _ _, (Below.refl _ _).alloc (Nat.le_refl _) _⟩
theorem count_ok (l : Str) (c : UInt8) (sp : Oid → Prop) : CallOK Tryz.prog 59 [.str l, .str [c]] sp ⟨[], .int .i64 (l.count c : Nat), []⟩ :=
  callOK_same (by kernel_rfl) fun g args w ha _ => by
    obtain ⟨v, u, rfl, hv, hu⟩ := ha.two
    obtain ⟨b, rfl, hb⟩ := hv.str_inv
    obtain ⟨d, rfl, hd⟩ := hu.str_inv
    rw [str_ba hb, str_ba hd]
    refine (Tryz.strings_Count_one ⟨l.toArray⟩ c w).mono ?_
    rintro e w' ⟨rfl, rfl⟩
    exact ⟨_, rfl, .int _ _, rfl⟩
theorem join_ok (xs : List Str) (sep : Str) (hn : xs.length ≤ 140737488355328) (hlen : (Lib.join xs sep).length ≤ 140737488355328) (p : Oid) (hp : p.mono = false) :
    CallOK Tryz.prog 53 [.list 1 (xs.map AV.str), .str sep] (Oid.under p) ⟨[], .str (Lib.join xs sep), []⟩ :=
  callOK_below (by kernel_rfl) hp fun g args w ha ht => by
    obtain ⟨v, u, rfl, hv, hu⟩ := ha.two
    obtain ⟨sb, rfl, hsb⟩ := hu.str_inv
    rw [str_ba hsb]
    have none : ∀ a cap, xs = [] → Calls Tryz.prog 53 #[.slice a 0 cap, .string ⟨sep.toArray⟩] w fun en w' => ∃ v, en = .returned v ∧ VR g (.str (Lib.join xs sep)) v ∧ Below w.heap.size w w' := fun a cap h => by
      subst h
      refine (Tryz.strings_Join_none a cap ⟨sep.toArray⟩ w).mono ?_
      rintro e w' ⟨rfl, rfl⟩
      exact ⟨_, rfl, .str _ _ rfl, Below.refl _ _⟩
    rcases hv.list_inv with ⟨h0, h⟩ | ⟨b, o, cap, cs, rfl, hcap, _, hc, hcv⟩
    · have hx : xs = [] := List.map_eq_nil_iff.1 h0
      rcases h with rfl | ⟨a, cap, rfl⟩
      · exact none _ _ hx
      · exact none _ _ hx
    · rw [List.length_map] at hcap hc hcv
      by_cases hx : xs = []
      · have := none (some ⟨b, o, Option.none⟩) cap hx
        rw [List.length_map, hx]
        rw [hx] at this
        exact this
      · have hcell : ∀ j, j < xs.length → w.cell? ⟨b, o + j, Option.none⟩ = some (.string ⟨(xs.getD j []).toArray⟩) := fun j hj => by
          have h1 := hc j 0 hj (by omega)
          have h2 := hcv j 0 hj (by omega)
          have hgd : (xs.map AV.str).getD j .undef = .str (xs.getD j []) := by simp [List.getD_eq_getElem?_getD, List.getElem?_map, List.getElem?_eq_getElem hj]
          rw [hgd] at h2
          simp only [AV.cells, List.getD_cons_zero] at h2
          rw [Nat.mul_one, Nat.add_zero] at h1
          have h3 := ht.com _ _ _ h1
          rw [str_enc.1 h2] at h3
          exact h3
        have hlt : b < w.heap.size := block_lt (hcell 0 (List.length_pos_iff.2 hx))
        have hmap : (xs.map fun t => (⟨t.toArray⟩ : ByteArray)).map (·.data.toList) = xs := by rw [List.map_map]; exact List.map_id'' (fun _ => rfl) xs
        have key := Tryz.strings_Join b o cap (xs.map fun t => (⟨t.toArray⟩ : ByteArray)) ⟨sep.toArray⟩ w (fun j y hy => by
            rw [List.getElem?_map] at hy
            cases hj : xs[j]? with
            | none => rw [hj] at hy; cases hy
            | some t =>
              rw [hj] at hy
              simp only [Option.map_some, Option.some.injEq] at hy
              have hjl := (List.getElem?_eq_some_iff.1 hj).1
              have h5 := hcell j hjl
              rw [List.getD_eq_getElem?_getD, hj] at h5
              rw [← hy]; exact h5) hlt (by rw [List.length_map]; exact hn) (by rw [List.length_map]; exact hcap) (by rw [hmap]; exact hlen)
        rw [List.length_map] at key
        rw [List.length_map]
        refine key.mono ?_
        rintro e w' ⟨rfl, hb⟩
        exact ⟨_, rfl, .str _ _ (by rw [hmap]), hb⟩
/-- What wc tells; none: the arguments may not be. -/
def wcX (args : List Str) (t : Str) : Option Str :=
  match args with
  | [] => some (Lib.decDigits (t.count 10) ++ [32] ++ Lib.decDigits (wordsB true t) ++ [32] ++ Lib.decDigits t.length ++ [10])
  | [a] => if a = [45, 108] then some (Lib.decDigits (t.count 10) ++ [10]) else if a = [45, 119] then some (Lib.decDigits (wordsB true t) ++ [10]) else if a = [45, 99] then some (Lib.decDigits t.length ++ [10]) else none
  | _ => none
theorem joinTail_len (sep : Str) (M : Nat) : ∀ r : List Str, (∀ s ∈ r, s.length ≤ M) → (Lib.joinTail sep r).length ≤ r.length * (sep.length + M)
  | [], _ => by simp [Lib.joinTail]
  | s :: r, h => by
    have ih := joinTail_len sep M r fun t ht => h t (List.mem_cons_of_mem _ ht)
    have h1 := h s List.mem_cons_self
    have e : Lib.joinTail sep (s :: r) = sep ++ s ++ Lib.joinTail sep r := by simp [Lib.joinTail]
    rw [e, List.length_append, List.length_append, List.length_cons, Nat.add_mul, Nat.one_mul]; omega
theorem join_len (xs : List Str) (sep : Str) (M : Nat) (h : ∀ s ∈ xs, s.length ≤ M) : (Lib.join xs sep).length ≤ xs.length * (sep.length + M) := by
  cases xs with
  | nil => simp [Lib.join_nil]
  | cons s r =>
    have h1 := h s List.mem_cons_self
    have ih := joinTail_len sep M r fun t ht => h t (List.mem_cons_of_mem _ ht)
    rw [Lib.join_cons, List.length_append, List.length_cons, Nat.add_mul, Nat.one_mul]; omega
theorem wc_none (t : Str) (htl : t.length ≤ 4000000) (p : Oid) (hp : p.mono = false) :
    CallOK Tryz.prog 32 [.list 1 [], .str t] (Oid.under p) ⟨[], .tuple [(toldR (Lib.decDigits (t.count 10) ++ [32] ++ Lib.decDigits (wordsB true t) ++ [32] ++ Lib.decDigits t.length ++ [10])).av, .bool true], []⟩ := by
  have hc := List.count_le_length (a := (10 : UInt8)) (l := t)
  have hw := wordsB_le t true
  have d1 := decDigits_len (t.count 10) (by omega)
  have d2 := decDigits_len (wordsB true t) (by omega)
  have d3 := decDigits_len t.length (by omega)
  have hj : Lib.join [Lib.decDigits (t.count 10), Lib.decDigits (wordsB true t), Lib.decDigits t.length] [32] = Lib.decDigits (t.count 10) ++ [32] ++ Lib.decDigits (wordsB true t) ++ [32] ++ Lib.decDigits t.length := by simp [Lib.join, List.intercalate, List.intersperse]
  have hJ := fun p hp => join_ok [Lib.decDigits (t.count 10), Lib.decDigits (wordsB true t), Lib.decDigits t.length] [32] (by simp) (by rw [hj]; simp only [List.length_append, List.length_singleton]; omega) p hp
  have hJ0 := fun p hp => join_ok [] [32] (by decide) (by decide) p hp
  have hI := fun p => index_ok (Lib.join [] [32]) [[45, 108], [45, 119], [45, 99]] (by decide) p
  rw [hj] at hJ
  have i1 := fun p hp => itoaN_ok (t.count 10) (by omega) p hp
  have i2 := fun p hp => itoaN_ok (wordsB true t) (by omega) p hp
  have i3 := fun p hp => itoaN_ok t.length (by omega) p hp
  generalize Lib.decDigits (t.count 10) = x1 at d1 i1 hJ ⊢
  generalize Lib.decDigits (wordsB true t) = x2 at d2 i2 hJ ⊢
  generalize Lib.decDigits t.length = x3 at d3 i3 hJ ⊢
  generalize ixF (fun s => decide (Lib.join [] [32] = s)) [[45, 108], [45, 119], [45, 99]] = kk at hI
  simp only [List.map_cons, List.map_nil] at hJ hJ0 hI
  refine fnOK (n := 51) (rs := [.cell 4 32, .tmp 5]) Tryz.func32 rfl rfl (by decide) rfl rfl rfl ?_; rintro x rfl hrd hng
  (repeat (first | (refine K_ifT rfl rfl ?_) | (refine K_ifF rfl rfl ?_) | (refine K_ev nmd [] hng (by kernel_rfl) fun hf C S K hC1 hC hS hK => ?_; simp (disch := first | omega | assumption) only [go_sem]; (repeat ((first | refine hC1 _ (count_ok t 10 _) (by simp (disch := first | omega | assumption) only [go_sem]) ?_ | refine hC1 _ (i1 _ (mono_sub' rfl hp)) (by simp (disch := first | omega | assumption) only [go_sem]) ?_ | refine hC1 _ (words_ok t (by omega) _ (mono_sub' rfl hp)) (by simp (disch := first | omega | assumption) only [go_sem]) ?_ | refine hC1 _ (i2 _ (mono_sub' rfl hp)) (by simp (disch := first | omega | assumption) only [go_sem]) ?_ | refine hC1 _ (i3 _ (mono_sub' rfl hp)) (by simp (disch := first | omega | assumption) only [go_sem]) ?_ | refine hC1 _ (hJ _ (mono_sub' rfl hp)) (by simp (disch := first | omega | assumption) only [go_sem]) ?_ | refine hC1 _ (hJ0 _ (mono_sub' rfl hp)) (by simp (disch := first | omega | assumption) only [go_sem]) ?_ | refine hC1 _ (hI _) (by simp (disch := first | omega | assumption) only [go_sem]) ?_ | refine hC1 _ (told_x (x1 ++ [32] ++ x2 ++ [32] ++ x3 ++ [10]) _) (by simp (disch := first | omega | assumption) only [go_sem]) ?_); simp (disch := first | omega | assumption) only [go_sem])); refine hK ?_; clear hK hS hC hC1 K S C hf) | ((first | refine zk ?_ | refine zn ?_ | refine ze ?_); with_reducible (constructor; repeat constructor); try refine zl ?_)))
  exact K_ret (done_plain (by simp (disch := first | omega | assumption) only [go_sem, Res.av, toldR, badR, usageR]))
theorem wc_l (t : Str) (htl : t.length ≤ 4000000) (p : Oid) (hp : p.mono = false) :
    CallOK Tryz.prog 32 [.list 1 [.str [45, 108]], .str t] (Oid.under p) ⟨[], .tuple [(toldR (Lib.decDigits (t.count 10) ++ [10])).av, .bool true], []⟩ := by
  have hc := List.count_le_length (a := (10 : UInt8)) (l := t)
  have hw := wordsB_le t true
  have d1 := decDigits_len (t.count 10) (by omega)
  have d2 := decDigits_len (wordsB true t) (by omega)
  have d3 := decDigits_len t.length (by omega)
  have i1 := fun p hp => itoaN_ok (t.count 10) (by omega) p hp
  have i2 := fun p hp => itoaN_ok (wordsB true t) (by omega) p hp
  have i3 := fun p hp => itoaN_ok t.length (by omega) p hp
  have hJ0 := fun p hp => join_ok [[45, 108]] [32] (by decide) (by rw [Lib.join_one]; decide) p hp
  rw [Lib.join_one] at hJ0
  have hI := fun p => index_ok [45, 108] [[45, 108], [45, 119], [45, 99]] (by decide) p
  rw [show ixF (fun s => decide (([45, 108] : Str) = s)) [[45, 108], [45, 119], [45, 99]] = 0 by decide] at hI
  generalize Lib.decDigits (t.count 10) = x1 at d1 i1 ⊢
  generalize Lib.decDigits (wordsB true t) = x2 at d2 i2 ⊢
  generalize Lib.decDigits t.length = x3 at d3 i3 ⊢
  simp only [List.map_cons, List.map_nil] at hJ0 hI
  refine fnOK (n := 51) (rs := [.cell 4 32, .tmp 5]) Tryz.func32 rfl rfl (by decide) rfl rfl rfl ?_; rintro x rfl hrd hng
  (repeat (first | (refine K_ifT rfl rfl ?_) | (refine K_ifF rfl rfl ?_) | (refine K_ev nmd [] hng (by kernel_rfl) fun hf C S K hC1 hC hS hK => ?_; simp (disch := first | omega | assumption) only [go_sem, List.length_map, Int.reduceEq, Int.reduceNe, Int.reduceLT, Int.reduceLE]; (repeat ((first | refine hC1 _ (count_ok t 10 _) (by simp (disch := first | omega | assumption) only [go_sem]) ?_ | refine hC1 _ (i1 _ (mono_sub' rfl hp)) (by simp (disch := first | omega | assumption) only [go_sem]) ?_ | refine hC1 _ (words_ok t (by omega) _ (mono_sub' rfl hp)) (by simp (disch := first | omega | assumption) only [go_sem]) ?_ | refine hC1 _ (i2 _ (mono_sub' rfl hp)) (by simp (disch := first | omega | assumption) only [go_sem]) ?_ | refine hC1 _ (i3 _ (mono_sub' rfl hp)) (by simp (disch := first | omega | assumption) only [go_sem]) ?_ | refine hC1 _ (hJ0 _ (mono_sub' rfl hp)) (by simp (disch := first | omega | assumption) only [go_sem]) ?_ | refine hC1 _ (hI _) (by simp (disch := first | omega | assumption) only [go_sem]) ?_); simp (disch := first | omega | assumption) only [go_sem])); refine hK ?_; clear hK hS hC hC1 K S C hf) | ((first | refine zk ?_ | refine zn ?_ | refine ze ?_); with_reducible (constructor; repeat constructor); try refine zl ?_)))
  refine K_ev nmd [(3, 36)] hng (by kernel_rfl) fun hf C S K hC1 hC hS hK => ?_; simp (disch := first | omega | assumption) only [go_sem, decide_true, decide_false, ne_eq, not_true_eq_false, not_false_eq_true, List.length_map, Int.reduceEq, Int.reduceNe, Int.reduceLT, Int.reduceLE]
  (repeat' (first | (refine evG_split (fun hv => ?_) (fun hv => ?_) <;> (try simp only [zb1, zb2, zb3, zb4, zb5] at hv) <;> simp (disch := first | omega | assumption) only [go_sem, hv, decide_true, decide_false, ne_eq, not_true_eq_false, not_false_eq_true, List.length_map, Int.reduceEq, Int.reduceNe, Int.reduceLT, Int.reduceLE]) | (refine hK ?_; clear hK hS hC hC1 K S C hf)))
  all_goals first | contradiction | skip
  (repeat (first | (refine K_ifT rfl rfl ?_) | (refine K_ifF rfl rfl ?_) | (refine K_ev nmd [] hng (by kernel_rfl) fun hf C S K hC1 hC hS hK => ?_; simp (disch := first | omega | assumption) only [go_sem, List.length_map, Int.reduceEq, Int.reduceNe, Int.reduceLT, Int.reduceLE]; (repeat ((first | refine hC1 _ (told_x (x1 ++ [10]) _) (by simp (disch := first | omega | assumption) only [go_sem]) ?_); simp (disch := first | omega | assumption) only [go_sem])); refine hK ?_; clear hK hS hC hC1 K S C hf) | ((first | refine zk ?_ | refine zn ?_ | refine ze ?_); with_reducible (constructor; repeat constructor); try refine zl ?_)))
  exact K_ret (done_plain (by simp (disch := first | omega | assumption) only [go_sem, Res.av, toldR, badR, usageR]))
theorem wc_w (t : Str) (htl : t.length ≤ 4000000) (p : Oid) (hp : p.mono = false) :
    CallOK Tryz.prog 32 [.list 1 [.str [45, 119]], .str t] (Oid.under p) ⟨[], .tuple [(toldR (Lib.decDigits (wordsB true t) ++ [10])).av, .bool true], []⟩ := by
  have hc := List.count_le_length (a := (10 : UInt8)) (l := t)
  have hw := wordsB_le t true
  have d1 := decDigits_len (t.count 10) (by omega)
  have d2 := decDigits_len (wordsB true t) (by omega)
  have d3 := decDigits_len t.length (by omega)
  have i1 := fun p hp => itoaN_ok (t.count 10) (by omega) p hp
  have i2 := fun p hp => itoaN_ok (wordsB true t) (by omega) p hp
  have i3 := fun p hp => itoaN_ok t.length (by omega) p hp
  have hJ0 := fun p hp => join_ok [[45, 119]] [32] (by decide) (by rw [Lib.join_one]; decide) p hp
  rw [Lib.join_one] at hJ0
  have hI := fun p => index_ok [45, 119] [[45, 108], [45, 119], [45, 99]] (by decide) p
  rw [show ixF (fun s => decide (([45, 119] : Str) = s)) [[45, 108], [45, 119], [45, 99]] = 1 by decide] at hI
  generalize Lib.decDigits (t.count 10) = x1 at d1 i1 ⊢
  generalize Lib.decDigits (wordsB true t) = x2 at d2 i2 ⊢
  generalize Lib.decDigits t.length = x3 at d3 i3 ⊢
  simp only [List.map_cons, List.map_nil] at hJ0 hI
  refine fnOK (n := 51) (rs := [.cell 4 32, .tmp 5]) Tryz.func32 rfl rfl (by decide) rfl rfl rfl ?_; rintro x rfl hrd hng
  (repeat (first | (refine K_ifT rfl rfl ?_) | (refine K_ifF rfl rfl ?_) | (refine K_ev nmd [] hng (by kernel_rfl) fun hf C S K hC1 hC hS hK => ?_; simp (disch := first | omega | assumption) only [go_sem, List.length_map, Int.reduceEq, Int.reduceNe, Int.reduceLT, Int.reduceLE]; (repeat ((first | refine hC1 _ (count_ok t 10 _) (by simp (disch := first | omega | assumption) only [go_sem]) ?_ | refine hC1 _ (i1 _ (mono_sub' rfl hp)) (by simp (disch := first | omega | assumption) only [go_sem]) ?_ | refine hC1 _ (words_ok t (by omega) _ (mono_sub' rfl hp)) (by simp (disch := first | omega | assumption) only [go_sem]) ?_ | refine hC1 _ (i2 _ (mono_sub' rfl hp)) (by simp (disch := first | omega | assumption) only [go_sem]) ?_ | refine hC1 _ (i3 _ (mono_sub' rfl hp)) (by simp (disch := first | omega | assumption) only [go_sem]) ?_ | refine hC1 _ (hJ0 _ (mono_sub' rfl hp)) (by simp (disch := first | omega | assumption) only [go_sem]) ?_ | refine hC1 _ (hI _) (by simp (disch := first | omega | assumption) only [go_sem]) ?_); simp (disch := first | omega | assumption) only [go_sem])); refine hK ?_; clear hK hS hC hC1 K S C hf) | ((first | refine zk ?_ | refine zn ?_ | refine ze ?_); with_reducible (constructor; repeat constructor); try refine zl ?_)))
  refine K_ev nmd [(3, 36)] hng (by kernel_rfl) fun hf C S K hC1 hC hS hK => ?_; simp (disch := first | omega | assumption) only [go_sem, decide_true, decide_false, ne_eq, not_true_eq_false, not_false_eq_true, List.length_map, Int.reduceEq, Int.reduceNe, Int.reduceLT, Int.reduceLE]
  (repeat' (first | (refine evG_split (fun hv => ?_) (fun hv => ?_) <;> (try simp only [zb1, zb2, zb3, zb4, zb5] at hv) <;> simp (disch := first | omega | assumption) only [go_sem, hv, decide_true, decide_false, ne_eq, not_true_eq_false, not_false_eq_true, List.length_map, Int.reduceEq, Int.reduceNe, Int.reduceLT, Int.reduceLE]) | (refine hK ?_; clear hK hS hC hC1 K S C hf)))
  all_goals first | contradiction | skip
  (repeat (first | (refine K_ifT rfl rfl ?_) | (refine K_ifF rfl rfl ?_) | (refine K_ev nmd [] hng (by kernel_rfl) fun hf C S K hC1 hC hS hK => ?_; simp (disch := first | omega | assumption) only [go_sem, List.length_map, Int.reduceEq, Int.reduceNe, Int.reduceLT, Int.reduceLE]; (repeat ((first | refine hC1 _ (told_x (x2 ++ [10]) _) (by simp (disch := first | omega | assumption) only [go_sem]) ?_); simp (disch := first | omega | assumption) only [go_sem])); refine hK ?_; clear hK hS hC hC1 K S C hf) | ((first | refine zk ?_ | refine zn ?_ | refine ze ?_); with_reducible (constructor; repeat constructor); try refine zl ?_)))
  exact K_ret (done_plain (by simp (disch := first | omega | assumption) only [go_sem, Res.av, toldR, badR, usageR]))
theorem wc_c (t : Str) (htl : t.length ≤ 4000000) (p : Oid) (hp : p.mono = false) :
    CallOK Tryz.prog 32 [.list 1 [.str [45, 99]], .str t] (Oid.under p) ⟨[], .tuple [(toldR (Lib.decDigits t.length ++ [10])).av, .bool true], []⟩ := by
  have hc := List.count_le_length (a := (10 : UInt8)) (l := t)
  have hw := wordsB_le t true
  have d1 := decDigits_len (t.count 10) (by omega)
  have d2 := decDigits_len (wordsB true t) (by omega)
  have d3 := decDigits_len t.length (by omega)
  have i1 := fun p hp => itoaN_ok (t.count 10) (by omega) p hp
  have i2 := fun p hp => itoaN_ok (wordsB true t) (by omega) p hp
  have i3 := fun p hp => itoaN_ok t.length (by omega) p hp
  have hJ0 := fun p hp => join_ok [[45, 99]] [32] (by decide) (by rw [Lib.join_one]; decide) p hp
  rw [Lib.join_one] at hJ0
  have hI := fun p => index_ok [45, 99] [[45, 108], [45, 119], [45, 99]] (by decide) p
  rw [show ixF (fun s => decide (([45, 99] : Str) = s)) [[45, 108], [45, 119], [45, 99]] = 2 by decide] at hI
  generalize Lib.decDigits (t.count 10) = x1 at d1 i1 ⊢
  generalize Lib.decDigits (wordsB true t) = x2 at d2 i2 ⊢
  generalize Lib.decDigits t.length = x3 at d3 i3 ⊢
  simp only [List.map_cons, List.map_nil] at hJ0 hI
  refine fnOK (n := 51) (rs := [.cell 4 32, .tmp 5]) Tryz.func32 rfl rfl (by decide) rfl rfl rfl ?_; rintro x rfl hrd hng
  (repeat (first | (refine K_ifT rfl rfl ?_) | (refine K_ifF rfl rfl ?_) | (refine K_ev nmd [] hng (by kernel_rfl) fun hf C S K hC1 hC hS hK => ?_; simp (disch := first | omega | assumption) only [go_sem, List.length_map, Int.reduceEq, Int.reduceNe, Int.reduceLT, Int.reduceLE]; (repeat ((first | refine hC1 _ (count_ok t 10 _) (by simp (disch := first | omega | assumption) only [go_sem]) ?_ | refine hC1 _ (i1 _ (mono_sub' rfl hp)) (by simp (disch := first | omega | assumption) only [go_sem]) ?_ | refine hC1 _ (words_ok t (by omega) _ (mono_sub' rfl hp)) (by simp (disch := first | omega | assumption) only [go_sem]) ?_ | refine hC1 _ (i2 _ (mono_sub' rfl hp)) (by simp (disch := first | omega | assumption) only [go_sem]) ?_ | refine hC1 _ (i3 _ (mono_sub' rfl hp)) (by simp (disch := first | omega | assumption) only [go_sem]) ?_ | refine hC1 _ (hJ0 _ (mono_sub' rfl hp)) (by simp (disch := first | omega | assumption) only [go_sem]) ?_ | refine hC1 _ (hI _) (by simp (disch := first | omega | assumption) only [go_sem]) ?_); simp (disch := first | omega | assumption) only [go_sem])); refine hK ?_; clear hK hS hC hC1 K S C hf) | ((first | refine zk ?_ | refine zn ?_ | refine ze ?_); with_reducible (constructor; repeat constructor); try refine zl ?_)))
  refine K_ev nmd [(3, 36)] hng (by kernel_rfl) fun hf C S K hC1 hC hS hK => ?_; simp (disch := first | omega | assumption) only [go_sem, decide_true, decide_false, ne_eq, not_true_eq_false, not_false_eq_true, List.length_map, Int.reduceEq, Int.reduceNe, Int.reduceLT, Int.reduceLE]
  (repeat' (first | (refine evG_split (fun hv => ?_) (fun hv => ?_) <;> (try simp only [zb1, zb2, zb3, zb4, zb5] at hv) <;> simp (disch := first | omega | assumption) only [go_sem, hv, decide_true, decide_false, ne_eq, not_true_eq_false, not_false_eq_true, List.length_map, Int.reduceEq, Int.reduceNe, Int.reduceLT, Int.reduceLE]) | (refine hK ?_; clear hK hS hC hC1 K S C hf)))
  all_goals first | contradiction | skip
  (repeat (first | (refine K_ifT rfl rfl ?_) | (refine K_ifF rfl rfl ?_) | (refine K_ev nmd [] hng (by kernel_rfl) fun hf C S K hC1 hC hS hK => ?_; simp (disch := first | omega | assumption) only [go_sem, List.length_map, Int.reduceEq, Int.reduceNe, Int.reduceLT, Int.reduceLE]; (repeat ((first | refine hC1 _ (told_x (x3 ++ [10]) _) (by simp (disch := first | omega | assumption) only [go_sem]) ?_); simp (disch := first | omega | assumption) only [go_sem])); refine hK ?_; clear hK hS hC hC1 K S C hf) | ((first | refine zk ?_ | refine zn ?_ | refine ze ?_); with_reducible (constructor; repeat constructor); try refine zl ?_)))
  exact K_ret (done_plain (by simp (disch := first | omega | assumption) only [go_sem, Res.av, toldR, badR, usageR]))
theorem wc_odd (a t : Str) (ha : a.length ≤ 4000000) (h1 : ¬ a = [45, 108]) (h2 : ¬ a = [45, 119]) (h3 : ¬ a = [45, 99]) (htl : t.length ≤ 4000000) (p : Oid) (hp : p.mono = false) :
    CallOK Tryz.prog 32 [.list 1 [.str a], .str t] (Oid.under p) ⟨[], .tuple [badR.av, .bool false], []⟩ := by
  have hc := List.count_le_length (a := (10 : UInt8)) (l := t)
  have hw := wordsB_le t true
  have d1 := decDigits_len (t.count 10) (by omega)
  have d2 := decDigits_len (wordsB true t) (by omega)
  have d3 := decDigits_len t.length (by omega)
  have i1 := fun p hp => itoaN_ok (t.count 10) (by omega) p hp
  have i2 := fun p hp => itoaN_ok (wordsB true t) (by omega) p hp
  have i3 := fun p hp => itoaN_ok t.length (by omega) p hp
  have hJ0 := fun p hp => join_ok [a] [32] (by simp) (by rw [Lib.join_one]; omega) p hp
  rw [Lib.join_one] at hJ0
  have hI := fun p => index_ok a [[45, 108], [45, 119], [45, 99]] (by decide) p
  rw [show ixF (fun s => decide (a = s)) [[45, 108], [45, 119], [45, 99]] = -1 by simp [ixF, h1, h2, h3]] at hI
  simp only [List.map_cons, List.map_nil] at hJ0 hI
  refine fnOK (n := 51) (rs := [.cell 4 32, .tmp 5]) Tryz.func32 rfl rfl (by decide) rfl rfl rfl ?_; rintro x rfl hrd hng
  (repeat (first | (refine K_ifT rfl rfl ?_) | (refine K_ifF rfl rfl ?_) | (refine K_ev nmd [] hng (by kernel_rfl) fun hf C S K hC1 hC hS hK => ?_; simp (disch := first | omega | assumption) only [go_sem, List.length_map, Int.reduceEq, Int.reduceNe, Int.reduceLT, Int.reduceLE]; (repeat ((first | refine hC1 _ (count_ok t 10 _) (by simp (disch := first | omega | assumption) only [go_sem]) ?_ | refine hC1 _ (i1 _ (mono_sub' rfl hp)) (by simp (disch := first | omega | assumption) only [go_sem]) ?_ | refine hC1 _ (words_ok t (by omega) _ (mono_sub' rfl hp)) (by simp (disch := first | omega | assumption) only [go_sem]) ?_ | refine hC1 _ (i2 _ (mono_sub' rfl hp)) (by simp (disch := first | omega | assumption) only [go_sem]) ?_ | refine hC1 _ (i3 _ (mono_sub' rfl hp)) (by simp (disch := first | omega | assumption) only [go_sem]) ?_ | refine hC1 _ (hJ0 _ (mono_sub' rfl hp)) (by simp (disch := first | omega | assumption) only [go_sem]) ?_ | refine hC1 _ (hI _) (by simp (disch := first | omega | assumption) only [go_sem]) ?_); simp (disch := first | omega | assumption) only [go_sem])); refine hK ?_; clear hK hS hC hC1 K S C hf) | ((first | refine zk ?_ | refine zn ?_ | refine ze ?_); with_reducible (constructor; repeat constructor); try refine zl ?_)))
  refine K_ev nmd [(3, 36)] hng (by kernel_rfl) fun hf C S K hC1 hC hS hK => ?_; simp (disch := first | omega | assumption) only [go_sem, decide_true, decide_false, ne_eq, not_true_eq_false, not_false_eq_true, List.length_map, Int.reduceEq, Int.reduceNe, Int.reduceLT, Int.reduceLE]
  (repeat' (first | (refine evG_split (fun hv => ?_) (fun hv => ?_) <;> (try simp only [zb1, zb2, zb3, zb4, zb5] at hv) <;> simp (disch := first | omega | assumption) only [go_sem, hv, decide_true, decide_false, ne_eq, not_true_eq_false, not_false_eq_true, List.length_map, Int.reduceEq, Int.reduceNe, Int.reduceLT, Int.reduceLE]) | (refine hK ?_; clear hK hS hC hC1 K S C hf)))
  all_goals first | contradiction | skip
  (repeat (first | (refine K_ifT rfl rfl ?_) | (refine K_ifF rfl rfl ?_) | (refine K_ev nmd [] hng (by kernel_rfl) fun hf C S K hC1 hC hS hK => ?_; simp (disch := first | omega | assumption) only [go_sem, List.length_map, Int.reduceEq, Int.reduceNe, Int.reduceLT, Int.reduceLE]; (repeat ((first | refine hC1 _ (bad_x _) (by simp (disch := first | omega | assumption) only [go_sem]) ?_); simp (disch := first | omega | assumption) only [go_sem])); refine hK ?_; clear hK hS hC hC1 K S C hf) | ((first | refine zk ?_ | refine zn ?_ | refine ze ?_); with_reducible (constructor; repeat constructor); try refine zl ?_)))
  exact K_ret (done_plain (by simp (disch := first | omega | assumption) only [go_sem, Res.av, badR]))
theorem wc_many (args : List Str) (ha : ∀ s ∈ args, s.length ≤ 4000000) (hal : args.length ≤ 4000000) (h0 : ¬ args.length = 0) (h1 : ¬ args.length = 1) (t : Str) (htl : t.length ≤ 4000000) (p : Oid) (hp : p.mono = false) :
    CallOK Tryz.prog 32 [.list 1 (args.map AV.str), .str t] (Oid.under p) ⟨[], .tuple [badR.av, .bool false], []⟩ := by
  have hc := List.count_le_length (a := (10 : UInt8)) (l := t)
  have hw := wordsB_le t true
  have d1 := decDigits_len (t.count 10) (by omega)
  have d2 := decDigits_len (wordsB true t) (by omega)
  have d3 := decDigits_len t.length (by omega)
  have i1 := fun p hp => itoaN_ok (t.count 10) (by omega) p hp
  have i2 := fun p hp => itoaN_ok (wordsB true t) (by omega) p hp
  have i3 := fun p hp => itoaN_ok t.length (by omega) p hp
  have hjl := join_len args [32] 4000000 ha
  have hjm : args.length * (([32] : Str).length + 4000000) ≤ 140737488355328 := by
    rw [List.length_singleton]; omega
  have hJ0 := fun p hp => join_ok args [32] (by omega) (by omega) p hp
  have hI := fun p => index_ok (Lib.join args [32]) [[45, 108], [45, 119], [45, 99]] (by decide) p
  generalize Lib.join args [32] = x0 at hJ0 hI
  generalize ixF (fun s => decide (x0 = s)) [[45, 108], [45, 119], [45, 99]] = kk at hI
  simp only [List.map_cons, List.map_nil] at hI
  have hz0 : ((args.length : Int) = 0) = False := eq_false (by omega)
  have hz1 : ((args.length : Int) = 1) = False := eq_false (by omega)
  refine fnOK (n := 51) (rs := [.cell 4 32, .tmp 5]) Tryz.func32 rfl rfl (by decide) rfl rfl rfl ?_; rintro x rfl hrd hng
  (repeat (first | (refine K_ifT rfl rfl ?_) | (refine K_ifF rfl rfl ?_) | (refine K_ev nmd [] hng (by kernel_rfl) fun hf C S K hC1 hC hS hK => ?_; simp (disch := first | omega | assumption) only [go_sem, List.length_map, Int.reduceEq, Int.reduceNe, Int.reduceLT, Int.reduceLE, hz0, decide_true, decide_false, ne_eq, not_true_eq_false, not_false_eq_true]; (repeat ((first | refine hC1 _ (count_ok t 10 _) (by simp (disch := first | omega | assumption) only [go_sem]) ?_ | refine hC1 _ (i1 _ (mono_sub' rfl hp)) (by simp (disch := first | omega | assumption) only [go_sem]) ?_ | refine hC1 _ (words_ok t (by omega) _ (mono_sub' rfl hp)) (by simp (disch := first | omega | assumption) only [go_sem]) ?_ | refine hC1 _ (i2 _ (mono_sub' rfl hp)) (by simp (disch := first | omega | assumption) only [go_sem]) ?_ | refine hC1 _ (i3 _ (mono_sub' rfl hp)) (by simp (disch := first | omega | assumption) only [go_sem]) ?_ | refine hC1 _ (hJ0 _ (mono_sub' rfl hp)) (by simp (disch := first | omega | assumption) only [go_sem]) ?_ | refine hC1 _ (hI _) (by simp (disch := first | omega | assumption) only [go_sem]) ?_); simp (disch := first | omega | assumption) only [go_sem])); refine hK ?_; clear hK hS hC hC1 K S C hf) | ((first | refine zk ?_ | refine zn ?_ | refine ze ?_); with_reducible (constructor; repeat constructor); try refine zl ?_)))
  refine K_ev nmd [(3, 36)] hng (by kernel_rfl) fun hf C S K hC1 hC hS hK => ?_; simp (disch := first | omega | assumption) only [go_sem, decide_true, decide_false, ne_eq, not_true_eq_false, not_false_eq_true, List.length_map, Int.reduceEq, Int.reduceNe, Int.reduceLT, Int.reduceLE, hz1]
  (repeat' (first | (refine evG_split (fun hv => ?_) (fun hv => ?_) <;> (try simp only [zb1, zb2, zb3, zb4, zb5] at hv) <;> simp (disch := first | omega | assumption) only [go_sem, hv, decide_true, decide_false, ne_eq, not_true_eq_false, not_false_eq_true, List.length_map, Int.reduceEq, Int.reduceNe, Int.reduceLT, Int.reduceLE, hz1]) | (refine hK ?_; clear hK hS hC hC1 K S C hf)))
  all_goals first | contradiction | skip
  (repeat (first | (refine K_ifT rfl rfl ?_) | (refine K_ifF rfl rfl ?_) | (refine K_ev nmd [] hng (by kernel_rfl) fun hf C S K hC1 hC hS hK => ?_; simp (disch := first | omega | assumption) only [go_sem, List.length_map, Int.reduceEq, Int.reduceNe, Int.reduceLT, Int.reduceLE]; (repeat ((first | refine hC1 _ (bad_x _) (by simp (disch := first | omega | assumption) only [go_sem]) ?_); simp (disch := first | omega | assumption) only [go_sem])); refine hK ?_; clear hK hS hC hC1 K S C hf) | ((first | refine zk ?_ | refine zn ?_ | refine ze ?_); with_reducible (constructor; repeat constructor); try refine zl ?_)))
  exact K_ret (done_plain (by simp (disch := first | omega | assumption) only [go_sem, Res.av, badR]))
end Go.Proofs.YtiaiggbimlbkfaaGreatDoor
namespace Go.Proofs.YtiaiggbimlbkfaaGreatDoor
open Go Go.Ab
set_option maxRecDepth 20000
set_option maxHeartbeats 4000000
theorem blankB_int (b : UInt8) : blankB b = (decide ((b.toNat : Int) = 32) || decide ((b.toNat : Int) = 9) || decide ((b.toNat : Int) = 10)) := by
  unfold blankB
  congr 1
  · congr 1
    · exact decide_eq_decide.2 (by omega)
    · exact decide_eq_decide.2 (by omega)
  · exact decide_eq_decide.2 (by omega)
theorem count_take_succ {t : Str} {i : Nat} (h : i < t.length) : (t.take (i + 1)).count 10 = (t.take i).count 10 + if t.getD i 0 = 10 then 1 else 0 := by
  rw [List.take_add_one, List.count_append, List.getElem?_eq_getElem h, List.getD_eq_getElem?_getD, List.getElem?_eq_getElem h]
  simp only [Option.toList, Option.getD_some, List.count_singleton, beq_iff_eq]
theorem countRef_ok (args : List Str) (t : Str) (htl : t.length ≤ 4000000) (p : Oid) :
    CallOK Tryz.prog 43 [.list 1 (args.map AV.str), .str t] (Oid.under p) ⟨[], (match wcX args t with | some o => toldR o | none => usageR [119, 99]).av, []⟩ := by
  have hu := fun p => usageR_ok [119, 99] (by decide) p
  simp only [Res.av, usageR] at hu
  have hc := List.count_le_length (a := (10 : UInt8)) (l := t)
  have hw := wordsB_le t true
  have d1 := decDigits_len (t.count 10) (by omega)
  have d2 := decDigits_len (wordsB true t) (by omega)
  have d3 := decDigits_len t.length (by omega)
  have i1 := fun p => digits13_ok (t.count 10) (by omega) p
  have i2 := fun p => digits13_ok (wordsB true t) (by omega) p
  have i3 := fun p => digits13_ok t.length (by omega) p
  refine fnOK (n := 111) (rs := [.cell 4 32]) Tryz.func43 rfl rfl (by decide) rfl rfl rfl ?_; rintro x rfl hrd hng
  (repeat (first | (refine K_ifT rfl rfl ?_) | (refine K_ifF rfl rfl ?_) | (refine K_ev nmd [] hng (by kernel_rfl) fun hf C S K hC1 hC hS hK => ?_; simp (disch := first | omega | assumption) only [go_sem]; refine hK ?_; clear hK hS hC hC1 K S C hf) | ((first | refine zk ?_ | refine zn ?_ | refine ze ?_); with_reducible (constructor; repeat constructor); try refine zl ?_)))
  refine K_loop [0, 1, 4, 5, 6, 7, 8] (fun k s' => ∃ (i w c : Nat) (had : Bool), k = t.length - i ∧ i ≤ t.length ∧ w + wordsB (!had) (t.drop i) = wordsB true t ∧
    s' = ⟨[(0, .list 1 (args.map AV.str)), (1, .str t), (4, .ptr (.sub 0 0 x.p) 0), (5, .int .i64 ((t.take i).count 10 : Nat)), (6, .int .i64 (w : Int)), (7, .bool had), (8, .int .i64 i)], Mem.of [(.sub 0 0 x.p, .cells [.int .i64 0, .str [], .str []])], c, []⟩) _ ⟨0, 0, _, false, rfl, Nat.zero_le _, by simp, rfl⟩ ?_
  rintro k s' ⟨i, w, c, had, rfl, hi, hwd, rfl⟩
  (repeat (first | (refine K_ifT rfl rfl ?_) | (refine K_ifF rfl rfl ?_) | (refine K_ev nmd [] hng (by kernel_rfl) fun hf C S K hC1 hC hS hK => ?_; simp (disch := first | omega | assumption) only [go_sem]; refine hK ?_; clear hK hS hC hC1 K S C hf) | ((first | refine zk ?_ | refine zn ?_ | refine ze ?_); with_reducible (constructor; repeat constructor); try refine zl ?_)))
  refine K_ifd rfl rfl (fun hb => ?_) (fun hb => ?_)
  · have hlt : i < t.length := by omega
    have hct := count_take_succ hlt
    have hcl : (t.take i).count 10 ≤ i := Nat.le_trans List.count_le_length (by rw [List.length_take]; omega)
    have hd : t.drop i = t.getD i 0 :: t.drop (i + 1) := drop_cons0 hlt
    rw [hd, wordsB] at hwd
    have hbi := blankB_int (t.getD i 0)
    have h10 : ((t.getD i 0).toNat : Int) = 10 ↔ t.getD i 0 = 10 := ⟨fun h => UInt8.toNat_inj.1 (by have : (10 : UInt8).toNat = 10 := rfl; omega), fun h => by rw [h]; rfl⟩
    generalize hcn : (t.take i).count 10 = cn at hct hcl
    generalize hb0 : t.getD i 0 = b at hct hwd hbi h10 hd ⊢
    (try ((first | refine zk ?_ | refine zn ?_ | refine ze ?_); with_reducible (constructor; repeat constructor)); try refine zl ?_)
    refine K_cut [0, 1, 4, 5, 6, 7, 8, 9] (fun s' => ∃ (v : Bool) (c' : Nat), s' = ⟨[(0, .list 1 (args.map AV.str)), (1, .str t), (4, .ptr (.sub 0 0 x.p) 0), (5, .int .i64 (cn : Int)), (6, .int .i64 (w : Int)), (7, .bool had), (8, .int .i64 i), (9, .bool v)], Mem.of [(.sub 0 0 x.p, .cells [.int .i64 0, .str [], .str []])], c', []⟩ ∧ v = blankB b) ?_ ?_
    · rw [hbi]
      refine K_ev nmd [(4, 23), (10, 29)] hng (by kernel_rfl) fun hf C S K hC1 hC hS hK => ?_; simp (disch := first | omega | assumption) only [go_sem, hb0, decide_true, decide_false, ne_eq, not_true_eq_false, not_false_eq_true]
      (repeat' (first | (refine evG_split (fun hv => ?_) (fun hv => ?_) <;> (try simp only [zb1, zb2, zb3, zb4, zb5] at hv) <;> simp (disch := first | omega | assumption) only [go_sem, hv, hb0, decide_true, decide_false, ne_eq, not_true_eq_false, not_false_eq_true]) | (refine hK ?_; clear hK hS hC hC1 K S C hf)))
      · rename_i h1
        exact K_cutN ⟨_, _, rfl, by rw [decide_eq_false h1, decide_eq_false hv, Bool.false_or, Bool.false_or]⟩
      · rename_i h1
        exact K_cutN ⟨_, _, rfl, by rw [decide_eq_false h1, decide_eq_true hv]; rfl⟩
      · exact K_cutN ⟨_, _, rfl, by rw [decide_eq_true hv]; rfl⟩
    rintro s' ⟨v, c', rfl, hv⟩
    rw [← hv] at hwd
    clear hv hbi
    cases v <;> cases had <;> simp only [Bool.not_true, Bool.not_false, Bool.true_eq_false, Bool.false_eq_true, and_self, and_true, and_false, false_and, if_true, if_false, Nat.zero_add] at hwd
    · (repeat (first | (refine K_ifT rfl rfl ?_) | (refine K_ifF rfl rfl ?_) | (refine K_ev nmd [] hng (by kernel_rfl) fun hf C S K hC1 hC hS hK => ?_; simp (disch := first | omega | assumption) only [go_sem, hb0]; (repeat ((first | refine hC1 _ () (by simp (disch := first | omega | assumption) only [go_sem]) ?_); simp (disch := first | omega | assumption) only [go_sem])); refine hK ?_; clear hK hS hC hC1 K S C hf) | ((first | refine zk ?_ | refine zn ?_ | refine ze ?_); with_reducible (constructor; repeat constructor); try refine zl ?_)))
      refine K_ifd rfl rfl (fun hb => ?_) (fun hb => ?_)
      · rw [if_pos (h10.1 hb)] at hct
        (repeat (first | (refine K_ifT rfl rfl ?_) | (refine K_ifF rfl rfl ?_) | (refine K_ev nmd [] hng (by kernel_rfl) fun hf C S K hC1 hC hS hK => ?_; simp (disch := first | omega | assumption) only [go_sem]; refine hK ?_; clear hK hS hC hC1 K S C hf) | ((first | refine zk ?_ | refine zn ?_ | refine ze ?_); with_reducible (constructor; repeat constructor); try refine zl ?_)))
        refine K_ev nmd [(2, 43)] hng (by kernel_rfl) fun hf C S K hC1 hC hS hK => ?_; simp (disch := first | omega | assumption) only [go_sem, decide_true, decide_false, ne_eq, not_true_eq_false, not_false_eq_true, Bool.not_true, Bool.not_false]
        refine hK ?_; clear hK hS hC hC1 K S C hf
        (repeat (first | (refine K_ifT rfl rfl ?_) | (refine K_ifF rfl rfl ?_) | (refine K_ev nmd [] hng (by kernel_rfl) fun hf C S K hC1 hC hS hK => ?_; simp (disch := first | omega | assumption) only [go_sem, Bool.not_true, Bool.not_false]; (repeat ((first | refine hC1 _ () (by simp (disch := first | omega | assumption) only [go_sem]) ?_); simp (disch := first | omega | assumption) only [go_sem])); refine hK ?_; clear hK hS hC hC1 K S C hf) | ((first | refine zk ?_ | refine zn ?_ | refine ze ?_); with_reducible (constructor; repeat constructor); try refine zl ?_)))
        refine ⟨_, _, ?_, fun _ _ h => h, i + 1, w + 1, c' + 1 + 1 + 1 + 1 + 1 + 1, true, rfl, by omega, by simp only [Bool.not_true, Bool.not_false]; omega, ?_⟩
        · omega
        · rw [hct]; rfl
      · rw [if_neg (fun e => hb (h10.2 e))] at hct
        (repeat (first | (refine K_ifT rfl rfl ?_) | (refine K_ifF rfl rfl ?_) | (refine K_ev nmd [] hng (by kernel_rfl) fun hf C S K hC1 hC hS hK => ?_; simp (disch := first | omega | assumption) only [go_sem]; refine hK ?_; clear hK hS hC hC1 K S C hf) | ((first | refine zk ?_ | refine zn ?_ | refine ze ?_); with_reducible (constructor; repeat constructor); try refine zl ?_)))
        refine K_ev nmd [(2, 43)] hng (by kernel_rfl) fun hf C S K hC1 hC hS hK => ?_; simp (disch := first | omega | assumption) only [go_sem, decide_true, decide_false, ne_eq, not_true_eq_false, not_false_eq_true, Bool.not_true, Bool.not_false]
        refine hK ?_; clear hK hS hC hC1 K S C hf
        (repeat (first | (refine K_ifT rfl rfl ?_) | (refine K_ifF rfl rfl ?_) | (refine K_ev nmd [] hng (by kernel_rfl) fun hf C S K hC1 hC hS hK => ?_; simp (disch := first | omega | assumption) only [go_sem, Bool.not_true, Bool.not_false]; (repeat ((first | refine hC1 _ () (by simp (disch := first | omega | assumption) only [go_sem]) ?_); simp (disch := first | omega | assumption) only [go_sem])); refine hK ?_; clear hK hS hC hC1 K S C hf) | ((first | refine zk ?_ | refine zn ?_ | refine ze ?_); with_reducible (constructor; repeat constructor); try refine zl ?_)))
        refine ⟨_, _, ?_, fun _ _ h => h, i + 1, w + 1, c' + 1 + 1 + 1 + 1 + 1, true, rfl, by omega, by simp only [Bool.not_true, Bool.not_false]; omega, ?_⟩
        · omega
        · rw [hct]; rfl
    · (repeat (first | (refine K_ifT rfl rfl ?_) | (refine K_ifF rfl rfl ?_) | (refine K_ev nmd [] hng (by kernel_rfl) fun hf C S K hC1 hC hS hK => ?_; simp (disch := first | omega | assumption) only [go_sem, hb0]; (repeat ((first | refine hC1 _ () (by simp (disch := first | omega | assumption) only [go_sem]) ?_); simp (disch := first | omega | assumption) only [go_sem])); refine hK ?_; clear hK hS hC hC1 K S C hf) | ((first | refine zk ?_ | refine zn ?_ | refine ze ?_); with_reducible (constructor; repeat constructor); try refine zl ?_)))
      refine K_ifd rfl rfl (fun hb => ?_) (fun hb => ?_)
      · rw [if_pos (h10.1 hb)] at hct
        (repeat (first | (refine K_ifT rfl rfl ?_) | (refine K_ifF rfl rfl ?_) | (refine K_ev nmd [] hng (by kernel_rfl) fun hf C S K hC1 hC hS hK => ?_; simp (disch := first | omega | assumption) only [go_sem]; refine hK ?_; clear hK hS hC hC1 K S C hf) | ((first | refine zk ?_ | refine zn ?_ | refine ze ?_); with_reducible (constructor; repeat constructor); try refine zl ?_)))
        refine K_ev nmd [(2, 43)] hng (by kernel_rfl) fun hf C S K hC1 hC hS hK => ?_; simp (disch := first | omega | assumption) only [go_sem, decide_true, decide_false, ne_eq, not_true_eq_false, not_false_eq_true, Bool.not_true, Bool.not_false]
        refine hK ?_; clear hK hS hC hC1 K S C hf
        (repeat (first | (refine K_ifT rfl rfl ?_) | (refine K_ifF rfl rfl ?_) | (refine K_ev nmd [] hng (by kernel_rfl) fun hf C S K hC1 hC hS hK => ?_; simp (disch := first | omega | assumption) only [go_sem, Bool.not_true, Bool.not_false]; (repeat ((first | refine hC1 _ () (by simp (disch := first | omega | assumption) only [go_sem]) ?_); simp (disch := first | omega | assumption) only [go_sem])); refine hK ?_; clear hK hS hC hC1 K S C hf) | ((first | refine zk ?_ | refine zn ?_ | refine ze ?_); with_reducible (constructor; repeat constructor); try refine zl ?_)))
        refine ⟨_, _, ?_, fun _ _ h => h, i + 1, w, c' + 1 + 1 + 1 + 1 + 1, true, rfl, by omega, by simp only [Bool.not_true, Bool.not_false]; omega, ?_⟩
        · omega
        · rw [hct]; rfl
      · rw [if_neg (fun e => hb (h10.2 e))] at hct
        (repeat (first | (refine K_ifT rfl rfl ?_) | (refine K_ifF rfl rfl ?_) | (refine K_ev nmd [] hng (by kernel_rfl) fun hf C S K hC1 hC hS hK => ?_; simp (disch := first | omega | assumption) only [go_sem]; refine hK ?_; clear hK hS hC hC1 K S C hf) | ((first | refine zk ?_ | refine zn ?_ | refine ze ?_); with_reducible (constructor; repeat constructor); try refine zl ?_)))
        refine K_ev nmd [(2, 43)] hng (by kernel_rfl) fun hf C S K hC1 hC hS hK => ?_; simp (disch := first | omega | assumption) only [go_sem, decide_true, decide_false, ne_eq, not_true_eq_false, not_false_eq_true, Bool.not_true, Bool.not_false]
        refine hK ?_; clear hK hS hC hC1 K S C hf
        (repeat (first | (refine K_ifT rfl rfl ?_) | (refine K_ifF rfl rfl ?_) | (refine K_ev nmd [] hng (by kernel_rfl) fun hf C S K hC1 hC hS hK => ?_; simp (disch := first | omega | assumption) only [go_sem, Bool.not_true, Bool.not_false]; (repeat ((first | refine hC1 _ () (by simp (disch := first | omega | assumption) only [go_sem]) ?_); simp (disch := first | omega | assumption) only [go_sem])); refine hK ?_; clear hK hS hC hC1 K S C hf) | ((first | refine zk ?_ | refine zn ?_ | refine ze ?_); with_reducible (constructor; repeat constructor); try refine zl ?_)))
        refine ⟨_, _, ?_, fun _ _ h => h, i + 1, w, c' + 1 + 1 + 1 + 1, true, rfl, by omega, by simp only [Bool.not_true, Bool.not_false]; omega, ?_⟩
        · omega
        · rw [hct]; rfl
    · (repeat (first | (refine K_ifT rfl rfl ?_) | (refine K_ifF rfl rfl ?_) | (refine K_ev nmd [] hng (by kernel_rfl) fun hf C S K hC1 hC hS hK => ?_; simp (disch := first | omega | assumption) only [go_sem, hb0]; (repeat ((first | refine hC1 _ () (by simp (disch := first | omega | assumption) only [go_sem]) ?_); simp (disch := first | omega | assumption) only [go_sem])); refine hK ?_; clear hK hS hC hC1 K S C hf) | ((first | refine zk ?_ | refine zn ?_ | refine ze ?_); with_reducible (constructor; repeat constructor); try refine zl ?_)))
      refine K_ifd rfl rfl (fun hb => ?_) (fun hb => ?_)
      · rw [if_pos (h10.1 hb)] at hct
        (repeat (first | (refine K_ifT rfl rfl ?_) | (refine K_ifF rfl rfl ?_) | (refine K_ev nmd [] hng (by kernel_rfl) fun hf C S K hC1 hC hS hK => ?_; simp (disch := first | omega | assumption) only [go_sem]; refine hK ?_; clear hK hS hC hC1 K S C hf) | ((first | refine zk ?_ | refine zn ?_ | refine ze ?_); with_reducible (constructor; repeat constructor); try refine zl ?_)))
        refine K_ev nmd [(2, 43)] hng (by kernel_rfl) fun hf C S K hC1 hC hS hK => ?_; simp (disch := first | omega | assumption) only [go_sem, decide_true, decide_false, ne_eq, not_true_eq_false, not_false_eq_true, Bool.not_true, Bool.not_false]
        refine hK ?_; clear hK hS hC hC1 K S C hf
        (repeat (first | (refine K_ifT rfl rfl ?_) | (refine K_ifF rfl rfl ?_) | (refine K_ev nmd [] hng (by kernel_rfl) fun hf C S K hC1 hC hS hK => ?_; simp (disch := first | omega | assumption) only [go_sem, Bool.not_true, Bool.not_false]; (repeat ((first | refine hC1 _ () (by simp (disch := first | omega | assumption) only [go_sem]) ?_); simp (disch := first | omega | assumption) only [go_sem])); refine hK ?_; clear hK hS hC hC1 K S C hf) | ((first | refine zk ?_ | refine zn ?_ | refine ze ?_); with_reducible (constructor; repeat constructor); try refine zl ?_)))
        refine ⟨_, _, ?_, fun _ _ h => h, i + 1, w, c' + 1 + 1 + 1 + 1 + 1, false, rfl, by omega, by simp only [Bool.not_true, Bool.not_false]; omega, ?_⟩
        · omega
        · rw [hct]; rfl
      · rw [if_neg (fun e => hb (h10.2 e))] at hct
        (repeat (first | (refine K_ifT rfl rfl ?_) | (refine K_ifF rfl rfl ?_) | (refine K_ev nmd [] hng (by kernel_rfl) fun hf C S K hC1 hC hS hK => ?_; simp (disch := first | omega | assumption) only [go_sem]; refine hK ?_; clear hK hS hC hC1 K S C hf) | ((first | refine zk ?_ | refine zn ?_ | refine ze ?_); with_reducible (constructor; repeat constructor); try refine zl ?_)))
        refine K_ev nmd [(2, 43)] hng (by kernel_rfl) fun hf C S K hC1 hC hS hK => ?_; simp (disch := first | omega | assumption) only [go_sem, decide_true, decide_false, ne_eq, not_true_eq_false, not_false_eq_true, Bool.not_true, Bool.not_false]
        refine hK ?_; clear hK hS hC hC1 K S C hf
        (repeat (first | (refine K_ifT rfl rfl ?_) | (refine K_ifF rfl rfl ?_) | (refine K_ev nmd [] hng (by kernel_rfl) fun hf C S K hC1 hC hS hK => ?_; simp (disch := first | omega | assumption) only [go_sem, Bool.not_true, Bool.not_false]; (repeat ((first | refine hC1 _ () (by simp (disch := first | omega | assumption) only [go_sem]) ?_); simp (disch := first | omega | assumption) only [go_sem])); refine hK ?_; clear hK hS hC hC1 K S C hf) | ((first | refine zk ?_ | refine zn ?_ | refine ze ?_); with_reducible (constructor; repeat constructor); try refine zl ?_)))
        refine ⟨_, _, ?_, fun _ _ h => h, i + 1, w, c' + 1 + 1 + 1 + 1, false, rfl, by omega, by simp only [Bool.not_true, Bool.not_false]; omega, ?_⟩
        · omega
        · rw [hct]; rfl
    · (repeat (first | (refine K_ifT rfl rfl ?_) | (refine K_ifF rfl rfl ?_) | (refine K_ev nmd [] hng (by kernel_rfl) fun hf C S K hC1 hC hS hK => ?_; simp (disch := first | omega | assumption) only [go_sem, hb0]; (repeat ((first | refine hC1 _ () (by simp (disch := first | omega | assumption) only [go_sem]) ?_); simp (disch := first | omega | assumption) only [go_sem])); refine hK ?_; clear hK hS hC hC1 K S C hf) | ((first | refine zk ?_ | refine zn ?_ | refine ze ?_); with_reducible (constructor; repeat constructor); try refine zl ?_)))
      refine K_ifd rfl rfl (fun hb => ?_) (fun hb => ?_)
      · rw [if_pos (h10.1 hb)] at hct
        (repeat (first | (refine K_ifT rfl rfl ?_) | (refine K_ifF rfl rfl ?_) | (refine K_ev nmd [] hng (by kernel_rfl) fun hf C S K hC1 hC hS hK => ?_; simp (disch := first | omega | assumption) only [go_sem]; refine hK ?_; clear hK hS hC hC1 K S C hf) | ((first | refine zk ?_ | refine zn ?_ | refine ze ?_); with_reducible (constructor; repeat constructor); try refine zl ?_)))
        refine K_ev nmd [(2, 43)] hng (by kernel_rfl) fun hf C S K hC1 hC hS hK => ?_; simp (disch := first | omega | assumption) only [go_sem, decide_true, decide_false, ne_eq, not_true_eq_false, not_false_eq_true, Bool.not_true, Bool.not_false]
        refine hK ?_; clear hK hS hC hC1 K S C hf
        (repeat (first | (refine K_ifT rfl rfl ?_) | (refine K_ifF rfl rfl ?_) | (refine K_ev nmd [] hng (by kernel_rfl) fun hf C S K hC1 hC hS hK => ?_; simp (disch := first | omega | assumption) only [go_sem, Bool.not_true, Bool.not_false]; (repeat ((first | refine hC1 _ () (by simp (disch := first | omega | assumption) only [go_sem]) ?_); simp (disch := first | omega | assumption) only [go_sem])); refine hK ?_; clear hK hS hC hC1 K S C hf) | ((first | refine zk ?_ | refine zn ?_ | refine ze ?_); with_reducible (constructor; repeat constructor); try refine zl ?_)))
        refine ⟨_, _, ?_, fun _ _ h => h, i + 1, w, c' + 1 + 1 + 1 + 1 + 1, false, rfl, by omega, by simp only [Bool.not_true, Bool.not_false]; omega, ?_⟩
        · omega
        · rw [hct]; rfl
      · rw [if_neg (fun e => hb (h10.2 e))] at hct
        (repeat (first | (refine K_ifT rfl rfl ?_) | (refine K_ifF rfl rfl ?_) | (refine K_ev nmd [] hng (by kernel_rfl) fun hf C S K hC1 hC hS hK => ?_; simp (disch := first | omega | assumption) only [go_sem]; refine hK ?_; clear hK hS hC hC1 K S C hf) | ((first | refine zk ?_ | refine zn ?_ | refine ze ?_); with_reducible (constructor; repeat constructor); try refine zl ?_)))
        refine K_ev nmd [(2, 43)] hng (by kernel_rfl) fun hf C S K hC1 hC hS hK => ?_; simp (disch := first | omega | assumption) only [go_sem, decide_true, decide_false, ne_eq, not_true_eq_false, not_false_eq_true, Bool.not_true, Bool.not_false]
        refine hK ?_; clear hK hS hC hC1 K S C hf
        (repeat (first | (refine K_ifT rfl rfl ?_) | (refine K_ifF rfl rfl ?_) | (refine K_ev nmd [] hng (by kernel_rfl) fun hf C S K hC1 hC hS hK => ?_; simp (disch := first | omega | assumption) only [go_sem, Bool.not_true, Bool.not_false]; (repeat ((first | refine hC1 _ () (by simp (disch := first | omega | assumption) only [go_sem]) ?_); simp (disch := first | omega | assumption) only [go_sem])); refine hK ?_; clear hK hS hC hC1 K S C hf) | ((first | refine zk ?_ | refine zn ?_ | refine ze ?_); with_reducible (constructor; repeat constructor); try refine zl ?_)))
        refine ⟨_, _, ?_, fun _ _ h => h, i + 1, w, c' + 1 + 1 + 1 + 1, false, rfl, by omega, by simp only [Bool.not_true, Bool.not_false]; omega, ?_⟩
        · omega
        · rw [hct]; rfl
  · obtain rfl : i = t.length := by omega
    rw [List.drop_length] at hwd
    simp only [wordsB, Nat.add_zero] at hwd
    subst hwd
    rw [List.take_length]
    rcases args with _ | ⟨a, _ | ⟨b, r⟩⟩
    · rw [show wcX [] t = some (Lib.decDigits (t.count 10) ++ [32] ++ Lib.decDigits (wordsB true t) ++ [32] ++ Lib.decDigits t.length ++ [10]) from rfl]
      generalize Lib.decDigits (t.count 10) = x1 at d1 i1 ⊢
      generalize Lib.decDigits (wordsB true t) = x2 at d2 i2 ⊢
      generalize Lib.decDigits t.length = x3 at d3 i3 ⊢
      (repeat (first | (refine K_ifT rfl rfl ?_) | (refine K_ifF rfl rfl ?_) | (refine K_ev nmd [] hng (by kernel_rfl) fun hf C S K hC1 hC hS hK => ?_; simp (disch := first | omega | assumption) only [go_sem, List.length_map, Int.reduceEq, Int.reduceNe, Int.reduceLT, Int.reduceLE]; (repeat ((first | refine hC1 _ (i1 _) (by simp (disch := first | omega | assumption) only [go_sem]) ?_ | refine hC1 _ (i2 _) (by simp (disch := first | omega | assumption) only [go_sem]) ?_ | refine hC1 _ (i3 _) (by simp (disch := first | omega | assumption) only [go_sem]) ?_ | refine hC1 _ (hu _) (by simp (disch := first | omega | assumption) only [go_sem]) ?_); simp (disch := first | omega | assumption) only [go_sem])); refine hK ?_; clear hK hS hC hC1 K S C hf) | ((first | refine zk ?_ | refine zn ?_ | refine ze ?_); with_reducible (constructor; repeat constructor); try refine zl ?_)))
      exact K_ret (done_plain (by simp (disch := first | omega | assumption) only [go_sem, Res.av, toldR, badR, usageR]))
    · by_cases h1 : a = [45, 108]
      · rw [show wcX [a] t = some (Lib.decDigits (t.count 10) ++ [10]) by rw [wcX, if_pos h1]]
        subst h1
        generalize Lib.decDigits (t.count 10) = x1 at d1 i1 ⊢
        generalize Lib.decDigits (wordsB true t) = x2 at d2 i2 ⊢
        generalize Lib.decDigits t.length = x3 at d3 i3 ⊢
        (repeat (first | (refine K_ifT rfl rfl ?_) | (refine K_ifF rfl rfl ?_) | (refine K_ev nmd [] hng (by kernel_rfl) fun hf C S K hC1 hC hS hK => ?_; simp (disch := first | omega | assumption) only [go_sem, List.length_map, Int.reduceEq, Int.reduceNe, Int.reduceLT, Int.reduceLE]; (repeat ((first | refine hC1 _ (i1 _) (by simp (disch := first | omega | assumption) only [go_sem]) ?_ | refine hC1 _ (i2 _) (by simp (disch := first | omega | assumption) only [go_sem]) ?_ | refine hC1 _ (i3 _) (by simp (disch := first | omega | assumption) only [go_sem]) ?_ | refine hC1 _ (hu _) (by simp (disch := first | omega | assumption) only [go_sem]) ?_); simp (disch := first | omega | assumption) only [go_sem])); refine hK ?_; clear hK hS hC hC1 K S C hf) | ((first | refine zk ?_ | refine zn ?_ | refine ze ?_); with_reducible (constructor; repeat constructor); try refine zl ?_)))
        refine K_ev nmd [(3, 75)] hng (by kernel_rfl) fun hf C S K hC1 hC hS hK => ?_; simp (disch := first | omega | assumption) only [go_sem, decide_true, decide_false, ne_eq, not_true_eq_false, not_false_eq_true, List.length_map, Int.reduceEq, Int.reduceNe, Int.reduceLT, Int.reduceLE]
        (repeat' (first | (refine evG_split (fun hv => ?_) (fun hv => ?_) <;> (try simp only [zb1, zb2, zb3, zb4, zb5] at hv) <;> simp (disch := first | omega | assumption) only [go_sem, hv, decide_true, decide_false, ne_eq, not_true_eq_false, not_false_eq_true, List.length_map, Int.reduceEq, Int.reduceNe, Int.reduceLT, Int.reduceLE]) | (refine hK ?_; clear hK hS hC hC1 K S C hf)))
        all_goals first | contradiction | exact absurd rfl hv | skip
        (repeat (first | (refine K_ifT rfl rfl ?_) | (refine K_ifF rfl rfl ?_) | (refine K_ev nmd [] hng (by kernel_rfl) fun hf C S K hC1 hC hS hK => ?_; simp (disch := first | omega | assumption) only [go_sem, List.length_map, Int.reduceEq, Int.reduceNe, Int.reduceLT, Int.reduceLE]; (repeat ((first | refine hC1 _ (hu _) (by simp (disch := first | omega | assumption) only [go_sem]) ?_); simp (disch := first | omega | assumption) only [go_sem])); refine hK ?_; clear hK hS hC hC1 K S C hf) | ((first | refine zk ?_ | refine zn ?_ | refine ze ?_); with_reducible (constructor; repeat constructor); try refine zl ?_)))
        exact K_ret (done_plain (by simp (disch := first | omega | assumption) only [go_sem, Res.av, toldR, badR, usageR]))
      · have z1 : (a = [45, 108]) = False := eq_false h1
        by_cases h2 : a = [45, 119]
        · rw [show wcX [a] t = some (Lib.decDigits (wordsB true t) ++ [10]) by rw [wcX, if_neg h1, if_pos h2]]
          subst h2
          generalize Lib.decDigits (t.count 10) = x1 at d1 i1 ⊢
          generalize Lib.decDigits (wordsB true t) = x2 at d2 i2 ⊢
          generalize Lib.decDigits t.length = x3 at d3 i3 ⊢
          (repeat (first | (refine K_ifT rfl rfl ?_) | (refine K_ifF rfl rfl ?_) | (refine K_ev nmd [] hng (by kernel_rfl) fun hf C S K hC1 hC hS hK => ?_; simp (disch := first | omega | assumption) only [go_sem, List.length_map, Int.reduceEq, Int.reduceNe, Int.reduceLT, Int.reduceLE]; (repeat ((first | refine hC1 _ (i1 _) (by simp (disch := first | omega | assumption) only [go_sem]) ?_ | refine hC1 _ (i2 _) (by simp (disch := first | omega | assumption) only [go_sem]) ?_ | refine hC1 _ (i3 _) (by simp (disch := first | omega | assumption) only [go_sem]) ?_ | refine hC1 _ (hu _) (by simp (disch := first | omega | assumption) only [go_sem]) ?_); simp (disch := first | omega | assumption) only [go_sem])); refine hK ?_; clear hK hS hC hC1 K S C hf) | ((first | refine zk ?_ | refine zn ?_ | refine ze ?_); with_reducible (constructor; repeat constructor); try refine zl ?_)))
          refine K_ev nmd [(3, 75)] hng (by kernel_rfl) fun hf C S K hC1 hC hS hK => ?_; simp (disch := first | omega | assumption) only [go_sem, decide_true, decide_false, ne_eq, not_true_eq_false, not_false_eq_true, List.length_map, Int.reduceEq, Int.reduceNe, Int.reduceLT, Int.reduceLE]
          (repeat' (first | (refine evG_split (fun hv => ?_) (fun hv => ?_) <;> (try simp only [zb1, zb2, zb3, zb4, zb5] at hv) <;> simp (disch := first | omega | assumption) only [go_sem, hv, decide_true, decide_false, ne_eq, not_true_eq_false, not_false_eq_true, List.length_map, Int.reduceEq, Int.reduceNe, Int.reduceLT, Int.reduceLE]) | (refine hK ?_; clear hK hS hC hC1 K S C hf)))
          all_goals first | contradiction | exact absurd rfl hv | skip
          (repeat (first | (refine K_ifT rfl rfl ?_) | (refine K_ifF rfl rfl ?_) | (refine K_ev nmd [] hng (by kernel_rfl) fun hf C S K hC1 hC hS hK => ?_; simp (disch := first | omega | assumption) only [go_sem, List.length_map, Int.reduceEq, Int.reduceNe, Int.reduceLT, Int.reduceLE]; (repeat ((first | refine hC1 _ (hu _) (by simp (disch := first | omega | assumption) only [go_sem]) ?_); simp (disch := first | omega | assumption) only [go_sem])); refine hK ?_; clear hK hS hC hC1 K S C hf) | ((first | refine zk ?_ | refine zn ?_ | refine ze ?_); with_reducible (constructor; repeat constructor); try refine zl ?_)))
          refine K_ev nmd [(3, 88)] hng (by kernel_rfl) fun hf C S K hC1 hC hS hK => ?_; simp (disch := first | omega | assumption) only [go_sem, decide_true, decide_false, ne_eq, not_true_eq_false, not_false_eq_true, List.length_map, Int.reduceEq, Int.reduceNe, Int.reduceLT, Int.reduceLE]
          (repeat' (first | (refine evG_split (fun hv => ?_) (fun hv => ?_) <;> (try simp only [zb1, zb2, zb3, zb4, zb5] at hv) <;> simp (disch := first | omega | assumption) only [go_sem, hv, decide_true, decide_false, ne_eq, not_true_eq_false, not_false_eq_true, List.length_map, Int.reduceEq, Int.reduceNe, Int.reduceLT, Int.reduceLE]) | (refine hK ?_; clear hK hS hC hC1 K S C hf)))
          all_goals first | contradiction | exact absurd rfl hv | skip
          (repeat (first | (refine K_ifT rfl rfl ?_) | (refine K_ifF rfl rfl ?_) | (refine K_ev nmd [] hng (by kernel_rfl) fun hf C S K hC1 hC hS hK => ?_; simp (disch := first | omega | assumption) only [go_sem, List.length_map, Int.reduceEq, Int.reduceNe, Int.reduceLT, Int.reduceLE]; (repeat ((first | refine hC1 _ (hu _) (by simp (disch := first | omega | assumption) only [go_sem]) ?_); simp (disch := first | omega | assumption) only [go_sem])); refine hK ?_; clear hK hS hC hC1 K S C hf) | ((first | refine zk ?_ | refine zn ?_ | refine ze ?_); with_reducible (constructor; repeat constructor); try refine zl ?_)))
          exact K_ret (done_plain (by simp (disch := first | omega | assumption) only [go_sem, Res.av, toldR, badR, usageR]))
        · have z2 : (a = [45, 119]) = False := eq_false h2
          by_cases h3 : a = [45, 99]
          · rw [show wcX [a] t = some (Lib.decDigits t.length ++ [10]) by rw [wcX, if_neg h1, if_neg h2, if_pos h3]]
            subst h3
            generalize Lib.decDigits (t.count 10) = x1 at d1 i1 ⊢
            generalize Lib.decDigits (wordsB true t) = x2 at d2 i2 ⊢
            generalize Lib.decDigits t.length = x3 at d3 i3 ⊢
            (repeat (first | (refine K_ifT rfl rfl ?_) | (refine K_ifF rfl rfl ?_) | (refine K_ev nmd [] hng (by kernel_rfl) fun hf C S K hC1 hC hS hK => ?_; simp (disch := first | omega | assumption) only [go_sem, List.length_map, Int.reduceEq, Int.reduceNe, Int.reduceLT, Int.reduceLE]; (repeat ((first | refine hC1 _ (i1 _) (by simp (disch := first | omega | assumption) only [go_sem]) ?_ | refine hC1 _ (i2 _) (by simp (disch := first | omega | assumption) only [go_sem]) ?_ | refine hC1 _ (i3 _) (by simp (disch := first | omega | assumption) only [go_sem]) ?_ | refine hC1 _ (hu _) (by simp (disch := first | omega | assumption) only [go_sem]) ?_); simp (disch := first | omega | assumption) only [go_sem])); refine hK ?_; clear hK hS hC hC1 K S C hf) | ((first | refine zk ?_ | refine zn ?_ | refine ze ?_); with_reducible (constructor; repeat constructor); try refine zl ?_)))
            refine K_ev nmd [(3, 75)] hng (by kernel_rfl) fun hf C S K hC1 hC hS hK => ?_; simp (disch := first | omega | assumption) only [go_sem, decide_true, decide_false, ne_eq, not_true_eq_false, not_false_eq_true, List.length_map, Int.reduceEq, Int.reduceNe, Int.reduceLT, Int.reduceLE]
            (repeat' (first | (refine evG_split (fun hv => ?_) (fun hv => ?_) <;> (try simp only [zb1, zb2, zb3, zb4, zb5] at hv) <;> simp (disch := first | omega | assumption) only [go_sem, hv, decide_true, decide_false, ne_eq, not_true_eq_false, not_false_eq_true, List.length_map, Int.reduceEq, Int.reduceNe, Int.reduceLT, Int.reduceLE]) | (refine hK ?_; clear hK hS hC hC1 K S C hf)))
            all_goals first | contradiction | exact absurd rfl hv | skip
            (repeat (first | (refine K_ifT rfl rfl ?_) | (refine K_ifF rfl rfl ?_) | (refine K_ev nmd [] hng (by kernel_rfl) fun hf C S K hC1 hC hS hK => ?_; simp (disch := first | omega | assumption) only [go_sem, List.length_map, Int.reduceEq, Int.reduceNe, Int.reduceLT, Int.reduceLE]; (repeat ((first | refine hC1 _ (hu _) (by simp (disch := first | omega | assumption) only [go_sem]) ?_); simp (disch := first | omega | assumption) only [go_sem])); refine hK ?_; clear hK hS hC hC1 K S C hf) | ((first | refine zk ?_ | refine zn ?_ | refine ze ?_); with_reducible (constructor; repeat constructor); try refine zl ?_)))
            refine K_ev nmd [(3, 88)] hng (by kernel_rfl) fun hf C S K hC1 hC hS hK => ?_; simp (disch := first | omega | assumption) only [go_sem, decide_true, decide_false, ne_eq, not_true_eq_false, not_false_eq_true, List.length_map, Int.reduceEq, Int.reduceNe, Int.reduceLT, Int.reduceLE]
            (repeat' (first | (refine evG_split (fun hv => ?_) (fun hv => ?_) <;> (try simp only [zb1, zb2, zb3, zb4, zb5] at hv) <;> simp (disch := first | omega | assumption) only [go_sem, hv, decide_true, decide_false, ne_eq, not_true_eq_false, not_false_eq_true, List.length_map, Int.reduceEq, Int.reduceNe, Int.reduceLT, Int.reduceLE]) | (refine hK ?_; clear hK hS hC hC1 K S C hf)))
            all_goals first | contradiction | exact absurd rfl hv | skip
            (repeat (first | (refine K_ifT rfl rfl ?_) | (refine K_ifF rfl rfl ?_) | (refine K_ev nmd [] hng (by kernel_rfl) fun hf C S K hC1 hC hS hK => ?_; simp (disch := first | omega | assumption) only [go_sem, List.length_map, Int.reduceEq, Int.reduceNe, Int.reduceLT, Int.reduceLE]; (repeat ((first | refine hC1 _ (hu _) (by simp (disch := first | omega | assumption) only [go_sem]) ?_); simp (disch := first | omega | assumption) only [go_sem])); refine hK ?_; clear hK hS hC hC1 K S C hf) | ((first | refine zk ?_ | refine zn ?_ | refine ze ?_); with_reducible (constructor; repeat constructor); try refine zl ?_)))
            refine K_ev nmd [(3, 101)] hng (by kernel_rfl) fun hf C S K hC1 hC hS hK => ?_; simp (disch := first | omega | assumption) only [go_sem, decide_true, decide_false, ne_eq, not_true_eq_false, not_false_eq_true, List.length_map, Int.reduceEq, Int.reduceNe, Int.reduceLT, Int.reduceLE]
            (repeat' (first | (refine evG_split (fun hv => ?_) (fun hv => ?_) <;> (try simp only [zb1, zb2, zb3, zb4, zb5] at hv) <;> simp (disch := first | omega | assumption) only [go_sem, hv, decide_true, decide_false, ne_eq, not_true_eq_false, not_false_eq_true, List.length_map, Int.reduceEq, Int.reduceNe, Int.reduceLT, Int.reduceLE]) | (refine hK ?_; clear hK hS hC hC1 K S C hf)))
            all_goals first | contradiction | exact absurd rfl hv | skip
            (repeat (first | (refine K_ifT rfl rfl ?_) | (refine K_ifF rfl rfl ?_) | (refine K_ev nmd [] hng (by kernel_rfl) fun hf C S K hC1 hC hS hK => ?_; simp (disch := first | omega | assumption) only [go_sem, List.length_map, Int.reduceEq, Int.reduceNe, Int.reduceLT, Int.reduceLE]; (repeat ((first | refine hC1 _ (hu _) (by simp (disch := first | omega | assumption) only [go_sem]) ?_); simp (disch := first | omega | assumption) only [go_sem])); refine hK ?_; clear hK hS hC hC1 K S C hf) | ((first | refine zk ?_ | refine zn ?_ | refine ze ?_); with_reducible (constructor; repeat constructor); try refine zl ?_)))
            exact K_ret (done_plain (by simp (disch := first | omega | assumption) only [go_sem, Res.av, toldR, badR, usageR]))
          · have z3 : (a = [45, 99]) = False := eq_false h3
            rw [show wcX [a] t = none by rw [wcX, if_neg h1, if_neg h2, if_neg h3]]
            generalize Lib.decDigits (t.count 10) = x1 at d1 i1 ⊢
            generalize Lib.decDigits (wordsB true t) = x2 at d2 i2 ⊢
            generalize Lib.decDigits t.length = x3 at d3 i3 ⊢
            (repeat (first | (refine K_ifT rfl rfl ?_) | (refine K_ifF rfl rfl ?_) | (refine K_ev nmd [] hng (by kernel_rfl) fun hf C S K hC1 hC hS hK => ?_; simp (disch := first | omega | assumption) only [go_sem, List.length_map, Int.reduceEq, Int.reduceNe, Int.reduceLT, Int.reduceLE]; (repeat ((first | refine hC1 _ (i1 _) (by simp (disch := first | omega | assumption) only [go_sem]) ?_ | refine hC1 _ (i2 _) (by simp (disch := first | omega | assumption) only [go_sem]) ?_ | refine hC1 _ (i3 _) (by simp (disch := first | omega | assumption) only [go_sem]) ?_ | refine hC1 _ (hu _) (by simp (disch := first | omega | assumption) only [go_sem]) ?_); simp (disch := first | omega | assumption) only [go_sem])); refine hK ?_; clear hK hS hC hC1 K S C hf) | ((first | refine zk ?_ | refine zn ?_ | refine ze ?_); with_reducible (constructor; repeat constructor); try refine zl ?_)))
            refine K_ev nmd [(3, 75)] hng (by kernel_rfl) fun hf C S K hC1 hC hS hK => ?_; simp (disch := first | omega | assumption) only [go_sem, z1, decide_true, decide_false, ne_eq, not_true_eq_false, not_false_eq_true, List.length_map, Int.reduceEq, Int.reduceNe, Int.reduceLT, Int.reduceLE]
            (repeat' (first | (refine evG_split (fun hv => ?_) (fun hv => ?_) <;> (try simp only [zb1, zb2, zb3, zb4, zb5] at hv) <;> simp (disch := first | omega | assumption) only [go_sem, hv, z1, decide_true, decide_false, ne_eq, not_true_eq_false, not_false_eq_true, List.length_map, Int.reduceEq, Int.reduceNe, Int.reduceLT, Int.reduceLE]) | (refine hK ?_; clear hK hS hC hC1 K S C hf)))
            all_goals first | contradiction | exact absurd rfl hv | skip
            (repeat (first | (refine K_ifT rfl rfl ?_) | (refine K_ifF rfl rfl ?_) | (refine K_ev nmd [] hng (by kernel_rfl) fun hf C S K hC1 hC hS hK => ?_; simp (disch := first | omega | assumption) only [go_sem, List.length_map, Int.reduceEq, Int.reduceNe, Int.reduceLT, Int.reduceLE]; (repeat ((first | refine hC1 _ (hu _) (by simp (disch := first | omega | assumption) only [go_sem]) ?_); simp (disch := first | omega | assumption) only [go_sem])); refine hK ?_; clear hK hS hC hC1 K S C hf) | ((first | refine zk ?_ | refine zn ?_ | refine ze ?_); with_reducible (constructor; repeat constructor); try refine zl ?_)))
            refine K_ev nmd [(3, 88)] hng (by kernel_rfl) fun hf C S K hC1 hC hS hK => ?_; simp (disch := first | omega | assumption) only [go_sem, z2, decide_true, decide_false, ne_eq, not_true_eq_false, not_false_eq_true, List.length_map, Int.reduceEq, Int.reduceNe, Int.reduceLT, Int.reduceLE]
            (repeat' (first | (refine evG_split (fun hv => ?_) (fun hv => ?_) <;> (try simp only [zb1, zb2, zb3, zb4, zb5] at hv) <;> simp (disch := first | omega | assumption) only [go_sem, hv, z2, decide_true, decide_false, ne_eq, not_true_eq_false, not_false_eq_true, List.length_map, Int.reduceEq, Int.reduceNe, Int.reduceLT, Int.reduceLE]) | (refine hK ?_; clear hK hS hC hC1 K S C hf)))
            all_goals first | contradiction | exact absurd rfl hv | skip
            (repeat (first | (refine K_ifT rfl rfl ?_) | (refine K_ifF rfl rfl ?_) | (refine K_ev nmd [] hng (by kernel_rfl) fun hf C S K hC1 hC hS hK => ?_; simp (disch := first | omega | assumption) only [go_sem, List.length_map, Int.reduceEq, Int.reduceNe, Int.reduceLT, Int.reduceLE]; (repeat ((first | refine hC1 _ (hu _) (by simp (disch := first | omega | assumption) only [go_sem]) ?_); simp (disch := first | omega | assumption) only [go_sem])); refine hK ?_; clear hK hS hC hC1 K S C hf) | ((first | refine zk ?_ | refine zn ?_ | refine ze ?_); with_reducible (constructor; repeat constructor); try refine zl ?_)))
            refine K_ev nmd [(3, 101)] hng (by kernel_rfl) fun hf C S K hC1 hC hS hK => ?_; simp (disch := first | omega | assumption) only [go_sem, z3, decide_true, decide_false, ne_eq, not_true_eq_false, not_false_eq_true, List.length_map, Int.reduceEq, Int.reduceNe, Int.reduceLT, Int.reduceLE]
            (repeat' (first | (refine evG_split (fun hv => ?_) (fun hv => ?_) <;> (try simp only [zb1, zb2, zb3, zb4, zb5] at hv) <;> simp (disch := first | omega | assumption) only [go_sem, hv, z3, decide_true, decide_false, ne_eq, not_true_eq_false, not_false_eq_true, List.length_map, Int.reduceEq, Int.reduceNe, Int.reduceLT, Int.reduceLE]) | (refine hK ?_; clear hK hS hC hC1 K S C hf)))
            all_goals first | contradiction | exact absurd rfl hv | skip
            (repeat (first | (refine K_ifT rfl rfl ?_) | (refine K_ifF rfl rfl ?_) | (refine K_ev nmd [] hng (by kernel_rfl) fun hf C S K hC1 hC hS hK => ?_; simp (disch := first | omega | assumption) only [go_sem, List.length_map, Int.reduceEq, Int.reduceNe, Int.reduceLT, Int.reduceLE]; (repeat ((first | refine hC1 _ (hu _) (by simp (disch := first | omega | assumption) only [go_sem]) ?_); simp (disch := first | omega | assumption) only [go_sem])); refine hK ?_; clear hK hS hC hC1 K S C hf) | ((first | refine zk ?_ | refine zn ?_ | refine ze ?_); with_reducible (constructor; repeat constructor); try refine zl ?_)))
            exact K_ret (done_plain (by simp (disch := first | omega | assumption) only [go_sem, Res.av, toldR, badR, usageR]))
    · rw [show wcX (a :: b :: r) t = none from rfl]
      have z0 : (((a :: b :: r).length : Int) = 0) = False := eq_false (by simp only [List.length_cons]; omega)
      have z1 : (((a :: b :: r).length : Int) = 1) = False := eq_false (by simp only [List.length_cons]; omega)
      generalize hg : a :: b :: r = args at z0 z1
      generalize Lib.decDigits (t.count 10) = x1 at d1 i1 ⊢
      generalize Lib.decDigits (wordsB true t) = x2 at d2 i2 ⊢
      generalize Lib.decDigits t.length = x3 at d3 i3 ⊢
      (repeat (first | (refine K_ifT rfl rfl ?_) | (refine K_ifF rfl rfl ?_) | (refine K_ev nmd [] hng (by kernel_rfl) fun hf C S K hC1 hC hS hK => ?_; simp (disch := first | omega | assumption) only [go_sem, List.length_map, Int.reduceEq, Int.reduceNe, Int.reduceLT, Int.reduceLE, z0, decide_true, decide_false, ne_eq, not_true_eq_false, not_false_eq_true]; (repeat ((first | refine hC1 _ (i1 _) (by simp (disch := first | omega | assumption) only [go_sem]) ?_ | refine hC1 _ (i2 _) (by simp (disch := first | omega | assumption) only [go_sem]) ?_ | refine hC1 _ (i3 _) (by simp (disch := first | omega | assumption) only [go_sem]) ?_ | refine hC1 _ (hu _) (by simp (disch := first | omega | assumption) only [go_sem]) ?_); simp (disch := first | omega | assumption) only [go_sem])); refine hK ?_; clear hK hS hC hC1 K S C hf) | ((first | refine zk ?_ | refine zn ?_ | refine ze ?_); with_reducible (constructor; repeat constructor); try refine zl ?_)))
      refine K_ev nmd [(3, 75)] hng (by kernel_rfl) fun hf C S K hC1 hC hS hK => ?_; simp (disch := first | omega | assumption) only [go_sem, z1, decide_true, decide_false, ne_eq, not_true_eq_false, not_false_eq_true, List.length_map, Int.reduceEq, Int.reduceNe, Int.reduceLT, Int.reduceLE]
      (repeat' (first | (refine evG_split (fun hv => ?_) (fun hv => ?_) <;> (try simp only [zb1, zb2, zb3, zb4, zb5] at hv) <;> simp (disch := first | omega | assumption) only [go_sem, hv, z1, decide_true, decide_false, ne_eq, not_true_eq_false, not_false_eq_true, List.length_map, Int.reduceEq, Int.reduceNe, Int.reduceLT, Int.reduceLE]) | (refine hK ?_; clear hK hS hC hC1 K S C hf)))
      all_goals first | contradiction | exact absurd rfl hv | skip
      (repeat (first | (refine K_ifT rfl rfl ?_) | (refine K_ifF rfl rfl ?_) | (refine K_ev nmd [] hng (by kernel_rfl) fun hf C S K hC1 hC hS hK => ?_; simp (disch := first | omega | assumption) only [go_sem, List.length_map, Int.reduceEq, Int.reduceNe, Int.reduceLT, Int.reduceLE]; (repeat ((first | refine hC1 _ (hu _) (by simp (disch := first | omega | assumption) only [go_sem]) ?_); simp (disch := first | omega | assumption) only [go_sem])); refine hK ?_; clear hK hS hC hC1 K S C hf) | ((first | refine zk ?_ | refine zn ?_ | refine ze ?_); with_reducible (constructor; repeat constructor); try refine zl ?_)))
      refine K_ev nmd [(3, 88)] hng (by kernel_rfl) fun hf C S K hC1 hC hS hK => ?_; simp (disch := first | omega | assumption) only [go_sem, z1, decide_true, decide_false, ne_eq, not_true_eq_false, not_false_eq_true, List.length_map, Int.reduceEq, Int.reduceNe, Int.reduceLT, Int.reduceLE]
      (repeat' (first | (refine evG_split (fun hv => ?_) (fun hv => ?_) <;> (try simp only [zb1, zb2, zb3, zb4, zb5] at hv) <;> simp (disch := first | omega | assumption) only [go_sem, hv, z1, decide_true, decide_false, ne_eq, not_true_eq_false, not_false_eq_true, List.length_map, Int.reduceEq, Int.reduceNe, Int.reduceLT, Int.reduceLE]) | (refine hK ?_; clear hK hS hC hC1 K S C hf)))
      all_goals first | contradiction | exact absurd rfl hv | skip
      (repeat (first | (refine K_ifT rfl rfl ?_) | (refine K_ifF rfl rfl ?_) | (refine K_ev nmd [] hng (by kernel_rfl) fun hf C S K hC1 hC hS hK => ?_; simp (disch := first | omega | assumption) only [go_sem, List.length_map, Int.reduceEq, Int.reduceNe, Int.reduceLT, Int.reduceLE]; (repeat ((first | refine hC1 _ (hu _) (by simp (disch := first | omega | assumption) only [go_sem]) ?_); simp (disch := first | omega | assumption) only [go_sem])); refine hK ?_; clear hK hS hC hC1 K S C hf) | ((first | refine zk ?_ | refine zn ?_ | refine ze ?_); with_reducible (constructor; repeat constructor); try refine zl ?_)))
      refine K_ev nmd [(3, 101)] hng (by kernel_rfl) fun hf C S K hC1 hC hS hK => ?_; simp (disch := first | omega | assumption) only [go_sem, z1, decide_true, decide_false, ne_eq, not_true_eq_false, not_false_eq_true, List.length_map, Int.reduceEq, Int.reduceNe, Int.reduceLT, Int.reduceLE]
      (repeat' (first | (refine evG_split (fun hv => ?_) (fun hv => ?_) <;> (try simp only [zb1, zb2, zb3, zb4, zb5] at hv) <;> simp (disch := first | omega | assumption) only [go_sem, hv, z1, decide_true, decide_false, ne_eq, not_true_eq_false, not_false_eq_true, List.length_map, Int.reduceEq, Int.reduceNe, Int.reduceLT, Int.reduceLE]) | (refine hK ?_; clear hK hS hC hC1 K S C hf)))
      all_goals first | contradiction | exact absurd rfl hv | skip
      (repeat (first | (refine K_ifT rfl rfl ?_) | (refine K_ifF rfl rfl ?_) | (refine K_ev nmd [] hng (by kernel_rfl) fun hf C S K hC1 hC hS hK => ?_; simp (disch := first | omega | assumption) only [go_sem, List.length_map, Int.reduceEq, Int.reduceNe, Int.reduceLT, Int.reduceLE]; (repeat ((first | refine hC1 _ (hu _) (by simp (disch := first | omega | assumption) only [go_sem]) ?_); simp (disch := first | omega | assumption) only [go_sem])); refine hK ?_; clear hK hS hC hC1 K S C hf) | ((first | refine zk ?_ | refine zn ?_ | refine ze ?_); with_reducible (constructor; repeat constructor); try refine zl ?_)))
      exact K_ret (done_plain (by simp (disch := first | omega | assumption) only [go_sem, Res.av, toldR, badR, usageR]))
end Go.Proofs.YtiaiggbimlbkfaaGreatDoor
namespace Go.Proofs.YtiaiggbimlbkfaaGreatDoor
open Go Go.Ab
set_option maxRecDepth 20000
set_option maxHeartbeats 4000000
theorem runR_wc (args : List Str) (t : Str) (r : Res) (hU : ∀ p, CallOK Tryz.prog 43 [.list 1 (args.map AV.str), .str t] (Oid.under p) ⟨[], r.av, []⟩) (p : Oid) :
    CallOK Tryz.prog 26 [.list 1 ((([119, 99] : Str) :: args).map AV.str), .str t] (Oid.under p) ⟨[], .tuple [r.av, .bool true], []⟩ := by
  obtain ⟨st, out, err⟩ := r
  simp only [Res.av] at hU
  refine fnOK (n := 90) (rs := [.cell 4 32, .tmp 5]) Tryz.func26 rfl rfl (by decide) rfl rfl rfl ?_; rintro x rfl hrd hng
  (repeat (first | (refine K_ifT rfl rfl ?_) | (refine K_ifF rfl rfl ?_) | (refine K_ev nmd [] hng (by kernel_rfl) fun hf C S K hC1 hC hS hK => ?_; simp (disch := first | omega | assumption) only [go_sem]; refine hK ?_; clear hK hS hC hC1 K S C hf) | ((first | refine zk ?_ | refine zn ?_ | refine ze ?_); with_reducible (constructor; repeat constructor); try refine zl ?_)))
  refine K_evd nmd [] [] mixed hng (by kernel_rfl) [1, 4, 6, 7] fun hf C S K hC hS hK => ?_; simp (disch := first | omega | assumption) only [go_sem]
  (first | refine hK (dynN_quiet rfl) ?_ | refine hK (by simp (disch := first | omega | assumption) only [go_sem, List.reverse_cons, List.reverse_nil, ne_eq, not_false_eq_true, implies_true]) ?_); clear hK hS hC K S C hf
  (repeat (first | (refine K_ifT rfl rfl ?_) | (refine K_ifF rfl rfl ?_) | (refine K_ev nmd [] hng (by kernel_rfl) fun hf C S K hC1 hC hS hK => ?_; simp (disch := first | omega | assumption) only [go_sem]; (repeat ((first | refine hC1 _ (hU _) (by simp (disch := first | omega | assumption) only [go_sem]) ?_); simp (disch := first | omega | assumption) only [go_sem])); refine hK ?_; clear hK hS hC hC1 K S C hf) | ((first | refine zk ?_ | refine zn ?_ | refine ze ?_); with_reducible (constructor; repeat constructor); try refine zl ?_)))
  exact K_ret (done_plain (by simp (disch := first | omega | assumption) only [go_sem, Res.av, toldR, badR, usageR]))
theorem wc_valid {args : List Str} {t o : Str} (h : wcX args t = some o) (htl : t.length ≤ 4000000) (p : Oid) (hp : p.mono = false) :
    CallOK Tryz.prog 32 [.list 1 (args.map AV.str), .str t] (Oid.under p) ⟨[], .tuple [(toldR o).av, .bool true], []⟩ := by
  rcases args with _ | ⟨a, _ | ⟨b, r⟩⟩
  · obtain rfl := Option.some.inj h
    exact wc_none t htl p hp
  · rw [wcX] at h
    by_cases h1 : a = [45, 108]
    · rw [if_pos h1] at h
      obtain rfl := Option.some.inj h
      subst h1
      exact wc_l t htl p hp
    · rw [if_neg h1] at h
      by_cases h2 : a = [45, 119]
      · rw [if_pos h2] at h
        obtain rfl := Option.some.inj h
        subst h2
        exact wc_w t htl p hp
      · rw [if_neg h2] at h
        by_cases h3 : a = [45, 99]
        · rw [if_pos h3] at h
          obtain rfl := Option.some.inj h
          subst h3
          exact wc_c t htl p hp
        · rw [if_neg h3] at h; cases h
  · cases h
theorem wc_bad {args : List Str} {t : Str} (h : wcX args t = none) (ha : ∀ s ∈ args, s.length ≤ 4000000) (hal : args.length ≤ 4000000) (htl : t.length ≤ 4000000) (p : Oid) (hp : p.mono = false) :
    CallOK Tryz.prog 32 [.list 1 (args.map AV.str), .str t] (Oid.under p) ⟨[], .tuple [badR.av, .bool false], []⟩ := by
  rcases args with _ | ⟨a, _ | ⟨b, r⟩⟩
  · cases h
  · rw [wcX] at h
    by_cases h1 : a = [45, 108]
    · rw [if_pos h1] at h; cases h
    · rw [if_neg h1] at h
      by_cases h2 : a = [45, 119]
      · rw [if_pos h2] at h; cases h
      · rw [if_neg h2] at h
        by_cases h3 : a = [45, 99]
        · rw [if_pos h3] at h; cases h
        · exact wc_odd a t (ha a (by simp)) h1 h2 h3 htl p hp
  · exact wc_many (a :: b :: r) ha hal (by simp) (by simp) t htl p hp
theorem same_wc (args : List Str) (ha : ∀ s ∈ args, s.length ≤ 4000000) (hal : args.length ≤ 4000000) (t : Str) (ht : t.length ≤ 4000000) (p : Oid) (hp : p.mono = false) :
    CallOK Tryz.prog 17 [.list 1 ((([119, 99] : Str) :: args).map AV.str), .str t] (Oid.under p) ⟨[], .bool true, []⟩ := by
  have hr := fun p => countRef_ok args t ht p
  cases h : wcX args t with
  | some o =>
    rw [h] at hr
    exact same_of _ t _ true (fun p hp => run_any ([119, 99] : Str) (by decide) args t 32 (by kernel_rfl) (by kernel_rfl) (toldR o) true p (fun p hp => wc_valid h ht p hp) hp)
      (fun p => runR_wc args t _ hr p) p hp
  | none =>
    rw [h] at hr
    exact same_of _ t _ true (fun p hp => run_any ([119, 99] : Str) (by decide) args t 32 (by kernel_rfl) (by kernel_rfl) badR false p (fun p hp => wc_bad h ha hal ht p hp) hp)
      (fun p => runR_wc args t _ hr p) p hp
end Go.Proofs.YtiaiggbimlbkfaaGreatDoor
namespace Go.Proofs.YtiaiggbimlbkfaaGreatDoor
open Go Go.Ab
set_option maxRecDepth 20000
set_option maxHeartbeats 4000000
theorem yes_ok (args : List Str) (t : Str) (p : Oid) : CallOK Tryz.prog 27 [.list 1 (args.map AV.str), .str t] (Oid.under p) ⟨[], .tuple [(toldR []).av, .bool true], []⟩ := by
  refine fnOK (n := 9) (rs := [.cell 4 32, .tmp 5]) Tryz.func27 rfl rfl (by decide) rfl rfl rfl ?_; rintro x rfl hrd hng
  (repeat (first | (refine K_ifT rfl rfl ?_) | (refine K_ifF rfl rfl ?_) | (refine K_ev nmd [] hng (by kernel_rfl) fun hf C S K hC1 hC hS hK => ?_; simp (disch := first | omega | assumption) only [go_sem]; (repeat ((first | refine hC1 _ (told_x [] _) (by simp (disch := first | omega | assumption) only [go_sem]) ?_); simp (disch := first | omega | assumption) only [go_sem])); refine hK ?_; clear hK hS hC hC1 K S C hf) | ((first | refine zk ?_ | refine zn ?_ | refine ze ?_); with_reducible (constructor; repeat constructor); try refine zl ?_)))
  exact K_ret (done_plain (by simp (disch := first | omega | assumption) only [go_sem, Res.av, toldR, badR, usageR]))
theorem no_ok (args : List Str) (t : Str) (p : Oid) : CallOK Tryz.prog 28 [.list 1 (args.map AV.str), .str t] (Oid.under p) ⟨[], .tuple [(⟨1, [], []⟩ : Res).av, .bool true], []⟩ := by
  refine fnOK (n := 7) (rs := [.cell 4 32, .tmp 5]) Tryz.func28 rfl rfl (by decide) rfl rfl rfl ?_; rintro x rfl hrd hng
  (repeat (first | (refine K_ifT rfl rfl ?_) | (refine K_ifF rfl rfl ?_) | (refine K_ev nmd [] hng (by kernel_rfl) fun hf C S K hC1 hC hS hK => ?_; simp (disch := first | omega | assumption) only [go_sem]; refine hK ?_; clear hK hS hC hC1 K S C hf) | ((first | refine zk ?_ | refine zn ?_ | refine ze ?_); with_reducible (constructor; repeat constructor); try refine zl ?_)))
  exact K_ret (done_plain (by simp (disch := first | omega | assumption) only [go_sem, Res.av, toldR, badR, usageR]))
theorem echo_ok (args : List Str) (ha : ∀ s ∈ args, s.length ≤ 4000000) (hal : args.length ≤ 4000000) (t : Str) (p : Oid) (hp : p.mono = false) :
    CallOK Tryz.prog 29 [.list 1 (args.map AV.str), .str t] (Oid.under p) ⟨[], .tuple [(toldR (Lib.join args [32] ++ [10])).av, .bool true], []⟩ := by
  have hjl := join_len args [32] 4000000 ha
  have hjm : args.length * (([32] : Str).length + 4000000) ≤ 100000000000000 := by
    rw [List.length_singleton]; omega
  have hJ := fun p hp => join_ok args [32] (by omega) (by omega) p hp
  have hxl := Nat.le_trans hjl hjm
  generalize Lib.join args [32] = x0 at hxl hJ ⊢
  clear hjm hjl
  refine fnOK (n := 12) (rs := [.cell 4 32, .tmp 5]) Tryz.func29 rfl rfl (by decide) rfl rfl rfl ?_; rintro x rfl hrd hng
  (repeat (first | (refine K_ifT rfl rfl ?_) | (refine K_ifF rfl rfl ?_) | (refine K_ev nmd [] hng (by kernel_rfl) fun hf C S K hC1 hC hS hK => ?_; simp (disch := first | omega | assumption) only [go_sem]; (repeat ((first | refine hC1 _ (hJ _ (mono_sub' rfl hp)) (by simp (disch := first | omega | assumption) only [go_sem]) ?_ | refine hC1 _ (told_x (x0 ++ [10]) _) (by simp (disch := first | omega | assumption) only [go_sem]) ?_); simp (disch := first | omega | assumption) only [go_sem])); refine hK ?_; clear hK hS hC hC1 K S C hf) | ((first | refine zk ?_ | refine zn ?_ | refine ze ?_); with_reducible (constructor; repeat constructor); try refine zl ?_)))
  exact K_ret (done_plain (by simp (disch := first | omega | assumption) only [go_sem, Res.av, toldR, badR, usageR]))
theorem join_take_succ {l : List Str} {i : Nat} (h : i < l.length) : Lib.join (l.take (i + 1)) [32] = (if 0 < i then Lib.join (l.take i) [32] ++ [32] else []) ++ l.getD i default := by
  cases l with
  | nil => simp at h
  | cons x r =>
    cases i with
    | zero => simp [Lib.join_one]
    | succ i =>
      have hr : i < r.length := by simpa using h
      rw [List.take_succ_cons, List.take_succ_cons, Lib.join_cons, Lib.join_cons, if_pos (Nat.succ_pos _), List.take_add_one, List.getElem?_eq_getElem hr]
      have hg : (x :: r).getD (i + 1) default = r[i] := by rw [List.getD_cons_succ, List.getD_eq_getElem?_getD, List.getElem?_eq_getElem hr]; rfl
      rw [hg, Lib.joinTail, Lib.joinTail, List.map_append, List.flatten_append]
      simp
theorem wordsJ_ok (l : List Str) (ha : ∀ s ∈ l, s.length ≤ 4000000) (hal : l.length ≤ 4000000) (p : Oid) :
    CallOK Tryz.prog 41 [.list 1 (l.map AV.str)] (Oid.under p) ⟨[], .str (Lib.join l [32]), []⟩ := by
  refine fnOK (n := 22) (rs := [.tmp 2]) Tryz.func41 rfl rfl (by decide) rfl rfl rfl ?_; rintro x rfl hrd hng
  (repeat (first | (refine K_ifT rfl rfl ?_) | (refine K_ifF rfl rfl ?_) | (refine K_ev nmd [] hng (by kernel_rfl) fun hf C S K hC1 hC hS hK => ?_; simp (disch := first | omega | assumption) only [go_sem]; refine hK ?_; clear hK hS hC hC1 K S C hf) | ((first | refine zk ?_ | refine zn ?_ | refine ze ?_); with_reducible (constructor; repeat constructor); try refine zl ?_)))
  refine K_loop [0, 3, 4] (fun k s' => ∃ i c : Nat, k = l.length - i ∧ i ≤ l.length ∧ s' = ⟨[(0, .list 1 (l.map AV.str)), (3, .str (Lib.join (l.take i) [32])), (4, .int .i64 i)], Mem.of [], c, []⟩) _ ⟨0, _, rfl, Nat.zero_le _, rfl⟩ ?_
  rintro k s' ⟨i, c, rfl, hi, rfl⟩
  (repeat (first | (refine K_ifT rfl rfl ?_) | (refine K_ifF rfl rfl ?_) | (refine K_ev nmd [] hng (by kernel_rfl) fun hf C S K hC1 hC hS hK => ?_; simp (disch := first | omega | assumption) only [go_sem, List.length_map]; (repeat ((first | refine hC1 _ () (by simp (disch := first | omega | assumption) only [go_sem]) ?_); simp (disch := first | omega | assumption) only [go_sem])); refine hK ?_; clear hK hS hC hC1 K S C hf) | ((first | refine zk ?_ | refine zn ?_ | refine ze ?_); with_reducible (constructor; repeat constructor); try refine zl ?_)))
  refine K_ifd rfl rfl (fun hb => ?_) (fun hb => ?_)
  · have hlt : i < l.length := by omega
    have hst := join_take_succ hlt
    have hjl := join_len (l.take i) [32] 4000000 fun s hs => ha s (List.mem_of_mem_take hs)
    have hjm : (l.take i).length * (([32] : Str).length + 4000000) ≤ 100000000000000 := by
      rw [List.length_singleton, List.length_take]
      have := Nat.mul_le_mul_right 4000001 (Nat.le_trans (Nat.min_le_right i l.length) hal)
      omega
    have hql : (l.getD i default).length ≤ 4000000 := by
      rw [List.getD_eq_getElem?_getD, List.getElem?_eq_getElem hlt]
      exact ha _ (List.getElem_mem hlt)
    have hjj := Nat.le_trans hjl hjm
    have hx0 : i = 0 → Lib.join (l.take i) [32] = [] := fun e => by rw [e]; rfl
    generalize Lib.join (l.take i) [32] = x at hjj hst hx0 ⊢
    generalize hq : l.getD i default = q at hst hql
    clear hjl hjm
    (repeat (first | (refine K_ifT rfl rfl ?_) | (refine K_ifF rfl rfl ?_) | (refine K_ev nmd [] hng (by kernel_rfl) fun hf C S K hC1 hC hS hK => ?_; simp (disch := first | omega | assumption) only [go_sem]; refine hK ?_; clear hK hS hC hC1 K S C hf) | ((first | refine zk ?_ | refine zn ?_ | refine ze ?_); with_reducible (constructor; repeat constructor); try refine zl ?_)))
    refine K_ifd rfl rfl (fun hb => ?_) (fun hb => ?_)
    · rw [if_pos (by omega)] at hst
      (repeat (first | (refine K_ifT rfl rfl ?_) | (refine K_ifF rfl rfl ?_) | (refine K_ev nmd [] hng (by kernel_rfl) fun hf C S K hC1 hC hS hK => ?_; simp (disch := first | omega | assumption) only [go_sem, List.length_map, hq]; (repeat ((first | refine hC1 _ () (by simp (disch := first | omega | assumption) only [go_sem]) ?_); simp (disch := first | omega | assumption) only [go_sem])); refine hK ?_; clear hK hS hC hC1 K S C hf) | ((first | refine zk ?_ | refine zn ?_ | refine ze ?_); with_reducible (constructor; repeat constructor); try refine zl ?_)))
      exact ⟨_, _, by omega, fun _ _ h => h, i + 1, _, rfl, by omega, by rw [hst]; rfl⟩
    · obtain rfl : i = 0 := by omega
      rw [if_neg (by omega), List.nil_append] at hst
      obtain rfl := hx0 rfl
      (repeat (first | (refine K_ifT rfl rfl ?_) | (refine K_ifF rfl rfl ?_) | (refine K_ev nmd [] hng (by kernel_rfl) fun hf C S K hC1 hC hS hK => ?_; simp (disch := first | omega | assumption) only [go_sem, List.length_map, hq]; (repeat ((first | refine hC1 _ () (by simp (disch := first | omega | assumption) only [go_sem]) ?_); simp (disch := first | omega | assumption) only [go_sem])); refine hK ?_; clear hK hS hC hC1 K S C hf) | ((first | refine zk ?_ | refine zn ?_ | refine ze ?_); with_reducible (constructor; repeat constructor); try refine zl ?_)))
      exact ⟨_, _, by omega, fun _ _ h => h, 1, _, rfl, by omega, by rw [hst]; rfl⟩
  · obtain rfl : i = l.length := by omega
    rw [List.take_length]
    (repeat (first | (refine K_ifT rfl rfl ?_) | (refine K_ifF rfl rfl ?_) | (refine K_ev nmd [] hng (by kernel_rfl) fun hf C S K hC1 hC hS hK => ?_; simp (disch := first | omega | assumption) only [go_sem]; refine hK ?_; clear hK hS hC hC1 K S C hf) | ((first | refine zk ?_ | refine zn ?_ | refine ze ?_); with_reducible (constructor; repeat constructor); try refine zl ?_)))
    exact K_ret (done1 rfl)
theorem runR_true (args : List Str) (t : Str) (p : Oid) : CallOK Tryz.prog 26 [.list 1 ((([116, 114, 117, 101] : Str) :: args).map AV.str), .str t] (Oid.under p) ⟨[], .tuple [(toldR []).av, .bool true], []⟩ := by
  refine fnOK (n := 90) (rs := [.cell 4 32, .tmp 5]) Tryz.func26 rfl rfl (by decide) rfl rfl rfl ?_; rintro x rfl hrd hng
  (repeat (first | (refine K_ifT rfl rfl ?_) | (refine K_ifF rfl rfl ?_) | (refine K_ev nmd [] hng (by kernel_rfl) fun hf C S K hC1 hC hS hK => ?_; simp (disch := first | omega | assumption) only [go_sem]; refine hK ?_; clear hK hS hC hC1 K S C hf) | ((first | refine zk ?_ | refine zn ?_ | refine ze ?_); with_reducible (constructor; repeat constructor); try refine zl ?_)))
  refine K_evd nmd [] [] mixed hng (by kernel_rfl) [1, 4, 6, 7] fun hf C S K hC hS hK => ?_; simp (disch := first | omega | assumption) only [go_sem]
  (first | refine hK (dynN_quiet rfl) ?_ | refine hK (by simp (disch := first | omega | assumption) only [go_sem, List.reverse_cons, List.reverse_nil, ne_eq, not_false_eq_true, implies_true]) ?_); clear hK hS hC K S C hf
  (repeat (first | (refine K_ifT rfl rfl ?_) | (refine K_ifF rfl rfl ?_) | (refine K_ev nmd [] hng (by kernel_rfl) fun hf C S K hC1 hC hS hK => ?_; simp (disch := first | omega | assumption) only [go_sem]; refine hK ?_; clear hK hS hC hC1 K S C hf) | ((first | refine zk ?_ | refine zn ?_ | refine ze ?_); with_reducible (constructor; repeat constructor); try refine zl ?_)))
  exact K_ret (done_plain (by simp (disch := first | omega | assumption) only [go_sem, Res.av, toldR, badR, usageR]))
theorem runR_false (args : List Str) (t : Str) (p : Oid) : CallOK Tryz.prog 26 [.list 1 ((([102, 97, 108, 115, 101] : Str) :: args).map AV.str), .str t] (Oid.under p) ⟨[], .tuple [(⟨1, [], []⟩ : Res).av, .bool true], []⟩ := by
  refine fnOK (n := 90) (rs := [.cell 4 32, .tmp 5]) Tryz.func26 rfl rfl (by decide) rfl rfl rfl ?_; rintro x rfl hrd hng
  (repeat (first | (refine K_ifT rfl rfl ?_) | (refine K_ifF rfl rfl ?_) | (refine K_ev nmd [] hng (by kernel_rfl) fun hf C S K hC1 hC hS hK => ?_; simp (disch := first | omega | assumption) only [go_sem]; refine hK ?_; clear hK hS hC hC1 K S C hf) | ((first | refine zk ?_ | refine zn ?_ | refine ze ?_); with_reducible (constructor; repeat constructor); try refine zl ?_)))
  refine K_evd nmd [] [] mixed hng (by kernel_rfl) [1, 4, 6, 7] fun hf C S K hC hS hK => ?_; simp (disch := first | omega | assumption) only [go_sem]
  (first | refine hK (dynN_quiet rfl) ?_ | refine hK (by simp (disch := first | omega | assumption) only [go_sem, List.reverse_cons, List.reverse_nil, ne_eq, not_false_eq_true, implies_true]) ?_); clear hK hS hC K S C hf
  (repeat (first | (refine K_ifT rfl rfl ?_) | (refine K_ifF rfl rfl ?_) | (refine K_ev nmd [] hng (by kernel_rfl) fun hf C S K hC1 hC hS hK => ?_; simp (disch := first | omega | assumption) only [go_sem]; refine hK ?_; clear hK hS hC hC1 K S C hf) | ((first | refine zk ?_ | refine zn ?_ | refine ze ?_); with_reducible (constructor; repeat constructor); try refine zl ?_)))
  exact K_ret (done_plain (by simp (disch := first | omega | assumption) only [go_sem, Res.av, toldR, badR, usageR]))
theorem runR_echo (args : List Str) (ha : ∀ s ∈ args, s.length ≤ 4000000) (hal : args.length ≤ 4000000) (t : Str) (p : Oid) : CallOK Tryz.prog 26 [.list 1 ((([101, 99, 104, 111] : Str) :: args).map AV.str), .str t] (Oid.under p) ⟨[], .tuple [(toldR (Lib.join args [32] ++ [10])).av, .bool true], []⟩ := by
  have hjl := join_len args [32] 4000000 ha
  have hjm : args.length * (([32] : Str).length + 4000000) ≤ 100000000000000 := by
    rw [List.length_singleton]; omega
  have hJ := fun p => wordsJ_ok args ha hal p
  have hxl := Nat.le_trans hjl hjm
  generalize Lib.join args [32] = x0 at hxl hJ ⊢
  clear hjm hjl
  refine fnOK (n := 90) (rs := [.cell 4 32, .tmp 5]) Tryz.func26 rfl rfl (by decide) rfl rfl rfl ?_; rintro x rfl hrd hng
  (repeat (first | (refine K_ifT rfl rfl ?_) | (refine K_ifF rfl rfl ?_) | (refine K_ev nmd [] hng (by kernel_rfl) fun hf C S K hC1 hC hS hK => ?_; simp (disch := first | omega | assumption) only [go_sem]; refine hK ?_; clear hK hS hC hC1 K S C hf) | ((first | refine zk ?_ | refine zn ?_ | refine ze ?_); with_reducible (constructor; repeat constructor); try refine zl ?_)))
  refine K_evd nmd [] [] mixed hng (by kernel_rfl) [1, 4, 6, 7] fun hf C S K hC hS hK => ?_; simp (disch := first | omega | assumption) only [go_sem]
  (first | refine hK (dynN_quiet rfl) ?_ | refine hK (by simp (disch := first | omega | assumption) only [go_sem, List.reverse_cons, List.reverse_nil, ne_eq, not_false_eq_true, implies_true]) ?_); clear hK hS hC K S C hf
  (repeat (first | (refine K_ifT rfl rfl ?_) | (refine K_ifF rfl rfl ?_) | (refine K_ev nmd [] hng (by kernel_rfl) fun hf C S K hC1 hC hS hK => ?_; simp (disch := first | omega | assumption) only [go_sem]; (repeat ((first | refine hC1 _ (hJ _) (by simp (disch := first | omega | assumption) only [go_sem]) ?_); simp (disch := first | omega | assumption) only [go_sem])); refine hK ?_; clear hK hS hC hC1 K S C hf) | ((first | refine zk ?_ | refine zn ?_ | refine ze ?_); with_reducible (constructor; repeat constructor); try refine zl ?_)))
  exact K_ret (done_plain (by simp (disch := first | omega | assumption) only [go_sem, Res.av, toldR, badR, usageR]))
theorem runR_none (nm : Str) (args : List Str) (t : Str) (h0 : ¬ nm = [116, 114, 117, 101]) (h1 : ¬ nm = [102, 97, 108, 115, 101]) (h2 : ¬ nm = [101, 99, 104, 111]) (h3 : ¬ nm = [104, 101, 97, 100]) (h4 : ¬ nm = [116, 97, 105, 108]) (h5 : ¬ nm = [119, 99]) (h6 : ¬ nm = [115, 111, 114, 116]) (h7 : ¬ nm = [117, 110, 105, 113]) (h8 : ¬ nm = [99, 117, 116]) (h9 : ¬ nm = [116, 114]) (h10 : ¬ nm = [103, 114, 101, 112]) (h11 : ¬ nm = [98, 97, 115, 101, 110, 97, 109, 101]) (h12 : ¬ nm = [100, 105, 114, 110, 97, 109, 101]) (p : Oid) :
    CallOK Tryz.prog 26 [.list 1 ((nm :: args).map AV.str), .str t] (Oid.under p) ⟨[], .tuple [badR.av, .bool false], []⟩ := by
  have z0 : (nm = [116, 114, 117, 101]) = False := eq_false h0
  have z1 : (nm = [102, 97, 108, 115, 101]) = False := eq_false h1
  have z2 : (nm = [101, 99, 104, 111]) = False := eq_false h2
  have z3 : (nm = [104, 101, 97, 100]) = False := eq_false h3
  have z4 : (nm = [116, 97, 105, 108]) = False := eq_false h4
  have z5 : (nm = [119, 99]) = False := eq_false h5
  have z6 : (nm = [115, 111, 114, 116]) = False := eq_false h6
  have z7 : (nm = [117, 110, 105, 113]) = False := eq_false h7
  have z8 : (nm = [99, 117, 116]) = False := eq_false h8
  have z9 : (nm = [116, 114]) = False := eq_false h9
  have z10 : (nm = [103, 114, 101, 112]) = False := eq_false h10
  have z11 : (nm = [98, 97, 115, 101, 110, 97, 109, 101]) = False := eq_false h11
  have z12 : (nm = [100, 105, 114, 110, 97, 109, 101]) = False := eq_false h12
  refine fnOK (n := 90) (rs := [.cell 4 32, .tmp 5]) Tryz.func26 rfl rfl (by decide) rfl rfl rfl ?_; rintro x rfl hrd hng
  (repeat (first | (refine K_ifT rfl rfl ?_) | (refine K_ifF rfl rfl ?_) | (refine K_ev nmd [] hng (by kernel_rfl) fun hf C S K hC1 hC hS hK => ?_; simp (disch := first | omega | assumption) only [go_sem]; refine hK ?_; clear hK hS hC hC1 K S C hf) | ((first | refine zk ?_ | refine zn ?_ | refine ze ?_); with_reducible (constructor; repeat constructor); try refine zl ?_)))
  refine K_evd nmd [] [] mixed hng (by kernel_rfl) [1, 4, 6, 7] fun hf C S K hC hS hK => ?_; simp (disch := first | omega | assumption) only [go_sem]
  (first | refine hK (dynN_quiet rfl) ?_ | refine hK (by simp (disch := first | omega | assumption) only [go_sem, List.reverse_cons, List.reverse_nil, ne_eq, not_false_eq_true, implies_true]) ?_); clear hK hS hC K S C hf
  (repeat (first | (refine K_ifT rfl rfl ?_) | (refine K_ifF rfl rfl ?_) | (refine K_ev nmd [] hng (by kernel_rfl) fun hf C S K hC1 hC hS hK => ?_; simp (disch := first | omega | assumption) only [go_sem, z0, z1, z2, z3, z4, z5, z6, z7, z8, z9, z10, z11, z12, decide_true, decide_false, ne_eq, not_true_eq_false, not_false_eq_true]; (repeat ((first | refine hC1 _ () (by simp (disch := first | omega | assumption) only [go_sem]) ?_); simp (disch := first | omega | assumption) only [go_sem])); refine hK ?_; clear hK hS hC hC1 K S C hf) | ((first | refine zk ?_ | refine zn ?_ | refine ze ?_); with_reducible (constructor; repeat constructor); try refine zl ?_)))
  exact K_ret (done_plain (by simp (disch := first | omega | assumption) only [go_sem, Res.av, toldR, badR, usageR]))
theorem same_true (args : List Str) (ha : ∀ s ∈ args, s.length ≤ 4000000) (hal : args.length ≤ 4000000) (t : Str) (p : Oid) (hp : p.mono = false) :
    CallOK Tryz.prog 17 [.list 1 ((([116, 114, 117, 101] : Str) :: args).map AV.str), .str t] (Oid.under p) ⟨[], .bool true, []⟩ :=
  same_of ([116, 114, 117, 101] :: args) t (toldR []) true (fun p hp => run_any [116, 114, 117, 101] (by decide) args t 27 (by kernel_rfl) (by kernel_rfl) (toldR []) true p (fun p hp => yes_ok args t p) hp) (fun p => runR_true args t p) p hp
theorem same_false (args : List Str) (ha : ∀ s ∈ args, s.length ≤ 4000000) (hal : args.length ≤ 4000000) (t : Str) (p : Oid) (hp : p.mono = false) :
    CallOK Tryz.prog 17 [.list 1 ((([102, 97, 108, 115, 101] : Str) :: args).map AV.str), .str t] (Oid.under p) ⟨[], .bool true, []⟩ :=
  same_of ([102, 97, 108, 115, 101] :: args) t (⟨1, [], []⟩ : Res) true (fun p hp => run_any [102, 97, 108, 115, 101] (by decide) args t 28 (by kernel_rfl) (by kernel_rfl) (⟨1, [], []⟩ : Res) true p (fun p hp => no_ok args t p) hp) (fun p => runR_false args t p) p hp
theorem same_echo (args : List Str) (ha : ∀ s ∈ args, s.length ≤ 4000000) (hal : args.length ≤ 4000000) (t : Str) (p : Oid) (hp : p.mono = false) :
    CallOK Tryz.prog 17 [.list 1 ((([101, 99, 104, 111] : Str) :: args).map AV.str), .str t] (Oid.under p) ⟨[], .bool true, []⟩ :=
  same_of ([101, 99, 104, 111] :: args) t (toldR (Lib.join args [32] ++ [10])) true (fun p hp => run_any [101, 99, 104, 111] (by decide) args t 29 (by kernel_rfl) (by kernel_rfl) (toldR (Lib.join args [32] ++ [10])) true p (fun p hp => echo_ok args ha hal t p hp) hp) (fun p => runR_echo args ha hal t p) p hp
theorem key_ne {a b : Str} (h : ¬ a = b) : sameK (.str a) (.str b) = false := by
  show (eqS (.str a) (.str b) && true) = false
  rw [Bool.and_true]
  show (a == b) = false
  simpa using h
theorem fm_none (nm : Str) (h0 : ¬ nm = [116, 114, 117, 101]) (h1 : ¬ nm = [102, 97, 108, 115, 101]) (h2 : ¬ nm = [101, 99, 104, 111]) (h3 : ¬ nm = [104, 101, 97, 100]) (h4 : ¬ nm = [116, 97, 105, 108]) (h5 : ¬ nm = [119, 99]) (h6 : ¬ nm = [115, 111, 114, 116]) (h7 : ¬ nm = [117, 110, 105, 113]) (h8 : ¬ nm = [99, 117, 116]) (h9 : ¬ nm = [116, 114]) (h10 : ¬ nm = [103, 114, 101, 112]) (h11 : ¬ nm = [98, 97, 115, 101, 110, 97, 109, 101]) (h12 : ¬ nm = [100, 105, 114, 110, 97, 109, 101]) : hasE (.str nm) (FM 13) = false := by
  simp only [FM, allU, List.take_succ_cons, List.take_zero, hasE, lookE, key_ne h0, key_ne h1, key_ne h2, key_ne h3, key_ne h4, key_ne h5, key_ne h6, key_ne h7, key_ne h8, key_ne h9, key_ne h10, key_ne h11, key_ne h12, decide_false, Bool.false_eq_true, if_false, Option.isSome_none]
theorem same_any (argv : List Str) (ha : ∀ s ∈ argv, s.length ≤ 4000000) (hal : argv.length ≤ 4000000) (t : Str) (ht : t.length ≤ 4000000) (p : Oid) (hp : p.mono = false) :
    CallOK Tryz.prog 17 [.list 1 (argv.map AV.str), .str t] (Oid.under p) ⟨[], .bool true, []⟩ := by
  rcases argv with _ | ⟨nm, args⟩
  · exact same_of [] t badR false (fun p _ => run_nil t p) (fun p => runR_nil t p) p hp
  have ha2 : ∀ s ∈ args, s.length ≤ 4000000 := fun s hs => ha s (List.mem_cons_of_mem _ hs)
  have hal2 : args.length ≤ 4000000 := by simp only [List.length_cons] at hal; omega
  by_cases h0 : nm = [116, 114, 117, 101]
  · subst h0; exact same_true args ha2 hal2 t p hp
  by_cases h1 : nm = [102, 97, 108, 115, 101]
  · subst h1; exact same_false args ha2 hal2 t p hp
  by_cases h2 : nm = [101, 99, 104, 111]
  · subst h2; exact same_echo args ha2 hal2 t p hp
  by_cases h3 : nm = [104, 101, 97, 100]
  · subst h3; exact same_head args t ha2 ht p hp
  by_cases h4 : nm = [116, 97, 105, 108]
  · subst h4; exact same_tail args t ha2 ht p hp
  by_cases h5 : nm = [119, 99]
  · subst h5; exact same_wc args ha2 hal2 t ht p hp
  by_cases h6 : nm = [115, 111, 114, 116]
  · subst h6; exact same_sort args hal2 t ht p hp
  by_cases h7 : nm = [117, 110, 105, 113]
  · subst h7; exact same_uniq args hal2 t ht p hp
  by_cases h8 : nm = [99, 117, 116]
  · subst h8; exact same_cut args t ha2 ht p hp
  by_cases h9 : nm = [116, 114]
  · subst h9; exact same_tr args t ha2 ht p hp
  by_cases h10 : nm = [103, 114, 101, 112]
  · subst h10; exact same_grep args t ha2 ht p hp
  by_cases h11 : nm = [98, 97, 115, 101, 110, 97, 109, 101]
  · subst h11; exact same_base args t ha2 p hp
  by_cases h12 : nm = [100, 105, 114, 110, 97, 109, 101]
  · subst h12; exact same_dir args t ha2 p hp
  exact same_of (nm :: args) t badR false (fun p _ => run_none nm args t (fm_none nm h0 h1 h2 h3 h4 h5 h6 h7 h8 h9 h10 h11 h12) p) (fun p => runR_none nm args t h0 h1 h2 h3 h4 h5 h6 h7 h8 h9 h10 h11 h12 p) p hp
end Go.Proofs.YtiaiggbimlbkfaaGreatDoor
namespace Go.Proofs.YtiaiggbimlbkfaaGreatDoor
open Go Go.Ab
set_option maxRecDepth 20000
set_option maxHeartbeats 4000000
def namesL : List Str := [[116, 114, 117, 101], [102, 97, 108, 115, 101], [101, 99, 104, 111], [104, 101, 97, 100], [116, 97, 105, 108], [119, 99], [115, 111, 114, 116], [117, 110, 105, 113], [99, 117, 116], [116, 114], [103, 114, 101, 112], [98, 97, 115, 101, 110, 97, 109, 101], [100, 105, 114, 110, 97, 109, 101]]
theorem names_ok (p : Oid) : CallOK Tryz.prog 16 [] (Oid.under p) ⟨[], .list 1 (namesL.map AV.str), []⟩ := by
  refine fnOK (n := 2) (rs := [.tmp 0]) Tryz.func16 rfl rfl (by decide) rfl rfl rfl ?_; rintro x rfl hrd hng
  (repeat (first | (refine K_ifT rfl rfl ?_) | (refine K_ifF rfl rfl ?_) | (refine K_ev nmd [] hng (by kernel_rfl) fun hf C S K hC1 hC hS hK => ?_; simp (disch := first | omega | assumption) only [go_sem]; refine hK ?_; clear hK hS hC hC1 K S C hf) | ((first | refine zk ?_ | refine zn ?_ | refine ze ?_); with_reducible (constructor; repeat constructor); try refine zl ?_)))
  exact K_ret (done1 rfl)
theorem names_len : namesL.length = 13 := rfl
theorem names_short (k : Nat) : (namesL.getD k default).length ≤ 10 := by
  rw [List.getD_eq_getElem?_getD]
  cases h : namesL[k]? with
  | none => exact Nat.zero_le _
  | some s =>
    have := List.mem_of_getElem? h
    revert s
    intro s _ hs
    simp only [namesL, List.mem_cons, List.not_mem_nil, or_false] at hs
    rcases hs with rfl | rfl | rfl | rfl | rfl | rfl | rfl | rfl | rfl | rfl | rfl | rfl | rfl <;> decide
end Go.Proofs.YtiaiggbimlbkfaaGreatDoor
namespace Go.Proofs.YtiaiggbimlbkfaaGreatDoor
open Go Go.Ab
set_option maxRecDepth 20000
set_option maxHeartbeats 8000000
def firstL : List Str := [[45, 110], [45, 114], [45, 117], [45, 99], [45, 108], [45, 119], [45, 118], [45, 100], [97], [97, 45, 99], [47, 97, 47, 98, 47, 47], [98], [47, 47], [97, 58, 98], []]
def secondL : List Str := [[48], [49], [50], [120], [97], [45, 117], [45, 114], [98, 45], [58], [122, 45, 97], [97, 98], [48, 48, 55], []]
def thirdL : List Str := [[49], [50], [51], [57]]
theorem firstL_len : firstL.length = 15 := rfl
theorem secondL_len : secondL.length = 13 := rfl
theorem list_short (l : List Str) (h : ∀ s ∈ l, s.length ≤ 10) (k : Nat) : (l.getD k default).length ≤ 10 := by
  rw [List.getD_eq_getElem?_getD]
  cases hk : l[k]? with
  | none => exact Nat.zero_le _
  | some s => exact h s (List.mem_of_getElem? hk)
theorem third_get (k : Nat) (h : k < 4) : ([.str [49], .str [50], .str [51], .str [57]] : List AV).getD k .undef = .str (thirdL.getD k default) := by
  match k, h with
  | 0, _ => rfl
  | 1, _ => rfl
  | 2, _ => rfl
  | 3, _ => rfl
theorem filterSmall_ok (k a b c : UInt8) (l : List UInt8) (hl : l.length ≤ 140737488355328) (p : Oid) (hp : p.mono = false) :
    CallOK Tryz.prog 4 [.int .u8 k.toNat, .int .u8 a.toNat, .int .u8 b.toNat, .int .u8 c.toNat, .list 1 (l.map byA)] (Oid.under p) ⟨[], .bool true, []⟩ := by
  have htx := fun p => text_ok l hl p
  have hpl := piecesX_len (ps := signsT) (by decide) l
  generalize piecesX signsT l = t at htx hpl
  have m0 : (k.toNat : Int).tmod 13 = ((k.toNat % 13 : Nat) : Int) := tmod_nat k.toNat 13
  have m1 : (a.toNat : Int).tmod 15 = ((a.toNat % 15 : Nat) : Int) := tmod_nat a.toNat 15
  have m2 : (b.toNat : Int).tmod 13 = ((b.toNat % 13 : Nat) : Int) := tmod_nat b.toNat 13
  have m3 : (c.toNat : Int).tmod 4 = ((c.toNat % 4 : Nat) : Int) := tmod_nat c.toNat 4
  have k0 : k.toNat % 13 < 13 := Nat.mod_lt _ (by decide)
  have k1 : a.toNat % 15 < 15 := Nat.mod_lt _ (by decide)
  have k2 : b.toNat % 13 < 13 := Nat.mod_lt _ (by decide)
  have k3 : c.toNat % 4 < 4 := Nat.mod_lt _ (by decide)
  have hG := third_get _ k3
  generalize k.toNat % 13 = q0 at m0 k0
  generalize a.toNat % 15 = q1 at m1 k1
  generalize b.toNat % 13 = q2 at m2 k2
  generalize c.toNat % 4 = q3 at m3 k3 hG
  have n0 := names_len
  have n1 := firstL_len
  have n2 := secondL_len
  have s0 := names_short q0
  have s1 := list_short firstL (by decide) q1
  have s2 := list_short secondL (by decide) q2
  have s3 := list_short thirdL (by decide) q3
  have hnm := fun p => names_ok p
  generalize thirdL.getD q3 default = z at s3 hG
  generalize namesL = NL at n0 s0 hnm
  generalize g0 : NL.getD q0 default = nm at s0
  have mem1 : ∀ w : Str, w.length ≤ 10 → w.length ≤ 4000000 := fun w h => by omega
  generalize g1 : firstL.getD q1 default = u at s1
  generalize g2 : secondL.getD q2 default = v at s2
  have c0 := fun p hp => same_any [nm] (by simp; try omega) (by simp) t (by omega) p hp
  have c1 := fun p hp => same_any [nm, u] (by simp; try omega) (by simp) t (by omega) p hp
  have c2 := fun p hp => same_any [nm, u, v] (by simp; try omega) (by simp) t (by omega) p hp
  have c3 := fun p hp => same_any [[99, 117, 116], [45, 100], u, [45, 102], v] (by simp; try omega) (by simp) t (by omega) p hp
  have c4 := fun p hp => same_any [[99, 117, 116], [45, 100], [58], [45, 102], z] (by simp; try omega) (by simp) t (by omega) p hp
  have c5 := fun p hp => same_any [[116, 114], [45, 100], u] (by simp; try omega) (by simp) t (by omega) p hp
  have c6 := fun p hp => same_any [[103, 114, 101, 112], [45, 118], u] (by simp; try omega) (by simp) t (by omega) p hp
  have c7 := fun p hp => same_any [[115, 111, 114, 116], [45, 114], [45, 117]] (by simp; try omega) (by simp) t (by omega) p hp
  simp only [List.map_cons, List.map_nil] at c0 c1 c2 c3 c4 c5 c6 c7
  refine fnOK (n := 96) (rs := [.tmp 10]) Tryz.func4 rfl rfl (by decide) rfl rfl rfl ?_; rintro x rfl hrd hng
  (try ((first | refine zk ?_ | refine zn ?_ | refine ze ?_); with_reducible (constructor; repeat constructor)); try refine zl ?_)
  refine K_ev nmd [] hng (by kernel_rfl) fun hf C S K hC1 hC hS hK => ?_; simp (disch := first | omega | assumption) only [go_sem]
  refine hK ?_; clear hK hS hC hC1 K S C hf
  (try ((first | refine zk ?_ | refine zn ?_ | refine ze ?_); with_reducible (constructor; repeat constructor)); try refine zl ?_)
  refine K_ev nmd [] hng (by kernel_rfl) fun hf C S K hC1 hC hS hK => ?_; simp (disch := first | omega | assumption) only [go_sem, m0, n0, g0, List.length_map]
  refine hC1 _ (hnm _) (by simp (disch := first | omega | assumption) only [go_sem]) ?_
  simp (disch := first | omega | assumption) only [go_sem, m0, n0, g0, List.length_map]
  refine hK ?_; clear hK hS hC hC1 K S C hf
  (try ((first | refine zk ?_ | refine zn ?_ | refine ze ?_); with_reducible (constructor; repeat constructor)); try refine zl ?_)
  refine K_cut [0, 1, 2, 3, 4, 11, 12] (fun s' => ∃ d : Nat, s' = ⟨[(0, .int .u8 k.toNat), (1, .int .u8 a.toNat), (2, .int .u8 b.toNat), (3, .int .u8 c.toNat), (4, .list 1 (l.map byA)), (11, .str nm), (12, .list 1 (firstL.map AV.str))], Mem.of [], d, []⟩) ?_ ?_
  · refine K_ev nmd [] hng (by kernel_rfl) fun hf C S K hC1 hC hS hK => ?_; simp (disch := first | omega | assumption) only [go_sem]
    refine hK ?_; clear hK hS hC hC1 K S C hf
    exact K_cutN ⟨_, rfl⟩
  rintro s' ⟨d, rfl⟩
  (try ((first | refine zk ?_ | refine zn ?_ | refine ze ?_); with_reducible (constructor; repeat constructor)); try refine zl ?_)
  refine K_cut [0, 1, 2, 3, 4, 11, 12, 13] (fun s' => ∃ d : Nat, s' = ⟨[(0, .int .u8 k.toNat), (1, .int .u8 a.toNat), (2, .int .u8 b.toNat), (3, .int .u8 c.toNat), (4, .list 1 (l.map byA)), (11, .str nm), (12, .list 1 (firstL.map AV.str)), (13, .list 1 (secondL.map AV.str))], Mem.of [], d, []⟩) ?_ ?_
  · refine K_ev nmd [] hng (by kernel_rfl) fun hf C S K hC1 hC hS hK => ?_; simp (disch := first | omega | assumption) only [go_sem]
    refine hK ?_; clear hK hS hC hC1 K S C hf
    exact K_cutN ⟨_, rfl⟩
  rintro s' ⟨d, rfl⟩
  generalize firstL = FL at n1 g1
  generalize secondL = SL at n2 g2
  (repeat (first | (refine K_ifT rfl rfl ?_) | (refine K_ifF rfl rfl ?_) | (refine K_ev nmd [] hng (by kernel_rfl) fun hf C S K hC1 hC hS hK => ?_; simp (disch := first | omega | assumption) only [go_sem]; (repeat ((first | refine hC1 _ (htx _) (by simp (disch := first | omega | assumption) only [go_sem]) ?_); simp (disch := first | omega | assumption) only [go_sem])); refine hK ?_; clear hK hS hC hC1 K S C hf) | ((first | refine zk ?_ | refine zn ?_ | refine ze ?_); with_reducible (constructor; repeat constructor); try refine zl ?_)))
  refine K_evd nmd [] [] mixed hng (by kernel_rfl) [3, 11, 14, 15, 16] fun hf C S K hC hS hK => ?_; simp (disch := first | omega | assumption) only [go_sem, m1, m2, n1, n2, g1, g2, List.length_map]
  (first | refine hK (dynN_quiet rfl) ?_ | refine hK (by simp (disch := first | omega | assumption) only [go_sem, List.reverse_cons, List.reverse_nil, ne_eq, not_false_eq_true, implies_true]) ?_); clear hK hS hC K S C hf
  (try ((first | refine zk ?_ | refine zn ?_ | refine ze ?_); with_reducible (constructor; repeat constructor)); try refine zl ?_)
  refine K_ev nmd [(1, 40), (7, 46), (14, 53), (22, 61), (29, 68), (40, 79), (46, 85), (52, 91)] hng (by kernel_rfl) fun hf C S K hC1 hC hS hK => ?_; simp (disch := first | omega | assumption) only [go_sem, m3, hG, AV.cells, decide_true, decide_false, ne_eq, not_true_eq_false, not_false_eq_true]
  (repeat' (first | (refine evG_split (fun hv => ?_) (fun hv => ?_) <;> (try simp only [zb1, zb2, zb3, zb4, zb5] at hv) <;> simp (disch := first | omega | assumption) only [go_sem, hv, m3, hG, AV.cells, decide_true, decide_false, ne_eq, not_true_eq_false, not_false_eq_true]) | (refine hC1 _ (awake_ok _ (mono_sub' rfl hp)) (by simp (disch := first | omega | assumption) only [go_sem, m3, hG, AV.cells, decide_true, decide_false, ne_eq, not_true_eq_false, not_false_eq_true]) ?_; simp (disch := first | omega | assumption) only [go_sem, m3, hG, AV.cells, decide_true, decide_false, ne_eq, not_true_eq_false, not_false_eq_true]) | (refine hC1 _ (c0 _ (mono_sub' rfl hp)) (by simp (disch := first | omega | assumption) only [go_sem, m3, hG, AV.cells, decide_true, decide_false, ne_eq, not_true_eq_false, not_false_eq_true]) ?_; simp (disch := first | omega | assumption) only [go_sem, m3, hG, AV.cells, decide_true, decide_false, ne_eq, not_true_eq_false, not_false_eq_true]) | (refine hC1 _ (c1 _ (mono_sub' rfl hp)) (by simp (disch := first | omega | assumption) only [go_sem, m3, hG, AV.cells, decide_true, decide_false, ne_eq, not_true_eq_false, not_false_eq_true]) ?_; simp (disch := first | omega | assumption) only [go_sem, m3, hG, AV.cells, decide_true, decide_false, ne_eq, not_true_eq_false, not_false_eq_true]) | (refine hC1 _ (c2 _ (mono_sub' rfl hp)) (by simp (disch := first | omega | assumption) only [go_sem, m3, hG, AV.cells, decide_true, decide_false, ne_eq, not_true_eq_false, not_false_eq_true]) ?_; simp (disch := first | omega | assumption) only [go_sem, m3, hG, AV.cells, decide_true, decide_false, ne_eq, not_true_eq_false, not_false_eq_true]) | (refine hC1 _ (c3 _ (mono_sub' rfl hp)) (by simp (disch := first | omega | assumption) only [go_sem, m3, hG, AV.cells, decide_true, decide_false, ne_eq, not_true_eq_false, not_false_eq_true]) ?_; simp (disch := first | omega | assumption) only [go_sem, m3, hG, AV.cells, decide_true, decide_false, ne_eq, not_true_eq_false, not_false_eq_true]) | (refine hC1 _ (c4 _ (mono_sub' rfl hp)) (by simp (disch := first | omega | assumption) only [go_sem, m3, hG, AV.cells, decide_true, decide_false, ne_eq, not_true_eq_false, not_false_eq_true]) ?_; simp (disch := first | omega | assumption) only [go_sem, m3, hG, AV.cells, decide_true, decide_false, ne_eq, not_true_eq_false, not_false_eq_true]) | (refine hC1 _ (c5 _ (mono_sub' rfl hp)) (by simp (disch := first | omega | assumption) only [go_sem, m3, hG, AV.cells, decide_true, decide_false, ne_eq, not_true_eq_false, not_false_eq_true]) ?_; simp (disch := first | omega | assumption) only [go_sem, m3, hG, AV.cells, decide_true, decide_false, ne_eq, not_true_eq_false, not_false_eq_true]) | (refine hC1 _ (c6 _ (mono_sub' rfl hp)) (by simp (disch := first | omega | assumption) only [go_sem, m3, hG, AV.cells, decide_true, decide_false, ne_eq, not_true_eq_false, not_false_eq_true]) ?_; simp (disch := first | omega | assumption) only [go_sem, m3, hG, AV.cells, decide_true, decide_false, ne_eq, not_true_eq_false, not_false_eq_true]) | (refine hC1 _ (c7 _ (mono_sub' rfl hp)) (by simp (disch := first | omega | assumption) only [go_sem, m3, hG, AV.cells, decide_true, decide_false, ne_eq, not_true_eq_false, not_false_eq_true]) ?_; simp (disch := first | omega | assumption) only [go_sem, m3, hG, AV.cells, decide_true, decide_false, ne_eq, not_true_eq_false, not_false_eq_true]) | (refine hK ?_; clear hK hS hC hC1 K S C hf)))
  all_goals first | contradiction | skip
  (repeat (first | (refine K_ifT rfl rfl ?_) | (refine K_ifF rfl rfl ?_) | (refine K_ev nmd [] hng (by kernel_rfl) fun hf C S K hC1 hC hS hK => ?_; simp (disch := first | omega | assumption) only [go_sem]; refine hK ?_; clear hK hS hC hC1 K S C hf) | ((first | refine zk ?_ | refine zn ?_ | refine ze ?_); with_reducible (constructor; repeat constructor); try refine zl ?_)))
  exact K_ret (done1 rfl)
end Go.Proofs.YtiaiggbimlbkfaaGreatDoor
namespace Go.Proofs.YtiaiggbimlbkfaaGreatDoor
open Go Go.Ab
set_option maxRecDepth 100000
theorem c_u8s : Tryz.prog.cellsOf 28 = 1 := by kernel_rfl
theorem b_u8 : Tryz.prog.bytesOf 5 = 1 := by kernel_rfl
theorem reach_u8 {l : List UInt8} (h : l.length * Tryz.prog.bytesOf 5 ≤ reachBytes) : l.length ≤ 140737488355328 := by rw [b_u8] at h; unfold reachBytes at h; omega
theorem rd_u8s : Rd Tryz.prog 28 (fun l : List UInt8 => AV.list 1 (l.map byA)) (fun l => l.length * Tryz.prog.bytesOf 5 ≤ reachBytes ∧ ∀ a ∈ l, True) :=
  c_u8 ▸ rd_slice Tryz.underlying28 c_u8s (by rw [c_u8]; decide) (rd_u8 Tryz.underlying5 c_u8)
theorem filterSmall_lifted (os : Os) (started : os.Started) (H : Type) (enc : TypeId × Value → H) (F : Stop.Interp) :
    ReturnsInHanded {} Tryz.checked os 4 .any ((OpenSpec.ofChange Rows.filterSmallSpec).preRow enc Tryz.prog Tryz.f4 Rows.filterSmallRow.domain false Rows.filterSmallRow.laid) (((OpenSpec.ofChange Rows.filterSmallSpec).at F).post enc Tryz.prog Tryz.f4 false true false false) := by
  have hx : DataW.whole enc Tryz.prog ((laidWorld os).forCall (fun _ _ => 0) ⟨#[], #[.int .u8 0, .int .u8 0, .int .u8 0, .int .u8 0, .slice none 0 0], []⟩).memory Tryz.f4.params.toList Rows.filterSmallSpec.vars false (#[.int .u8 0, .int .u8 0, .int .u8 0, .int .u8 0, .slice none 0 0] : Array Value).toList 8 = some ([.lit (.int .u8 0), .lit (.int .u8 0), .lit (.int .u8 0), .lit (.int .u8 0), .nil], [], []) := by kernel_rfl
  exact law_lifted_row (C := Tryz.checked) (s := Rows.filterSmallSpec) (ts := [5, 5, 5, 5, 28]) (W := fun p : UInt8 × UInt8 × UInt8 × UInt8 × List UInt8 × Unit => True ∧ True ∧ True ∧ True ∧ (p.2.2.2.2.1.length * Tryz.prog.bytesOf 5 ≤ reachBytes ∧ ∀ a ∈ p.2.2.2.2.1, True) ∧ True) own started (by kernel_rfl) Tryz.func4
    (witness_row_at (enc := enc) (C := Tryz.checked) false (laidWorld os) #[.int .u8 0, .int .u8 0, .int .u8 0, .int .u8 0, .slice none 0 0] rfl (by kernel_rfl) (by kernel_rfl) (by kernel_rfl)
      (OpenSpec.preRow_of_cond 8 hx (by kernel_rfl) (fun k hk => by cases hk) (by kernel_rfl) (laid_met os _)))
    laidOut full (by rw [Tryz.params4]) (by kernel_rfl) (by kernel_rfl) Tryz.underlying4 rfl (fun ds h => by match ds, h with | [d0, d1, d2, d3, d4], _ => rfl)
    (rdA_int Tryz.underlying5 c_u8 (fun _ => rfl) (rd_u8 Tryz.underlying5 c_u8) (rdA_int Tryz.underlying5 c_u8 (fun _ => rfl) (rd_u8 Tryz.underlying5 c_u8) (rdA_int Tryz.underlying5 c_u8 (fun _ => rfl) (rd_u8 Tryz.underlying5 c_u8) (rdA_int Tryz.underlying5 c_u8 (fun _ => rfl) (rd_u8 Tryz.underlying5 c_u8) (rdA_slice Tryz.underlying28 c_u8s (fun _ => rfl) rd_u8s rdA_nil))))) (fun b hb => filterSmall_ok b.1 b.2.1 b.2.2.1 b.2.2.2.1 b.2.2.2.2.1 (reach_u8 hb.2.2.2.2.1.1) _ rfl) (fun W h ho => laid_facts h ho)
theorem filterSmall_said : Rows.FilterSmallSaid :=
  OpenClaim.holds_of_cond 4 Tryz.f4 rfl rfl rfl rfl rfl rfl rfl ⟨rfl, rfl, rfl, rfl, rfl⟩ rfl rfl rfl rfl rfl (by kernel_rfl) Tryz.func4 (by kernel_rfl)
    (of_decide_eq_true (by kernel_rfl)) (by unfold Func.isWrapper; first | (rw [if_pos (by decide +kernel)]; kernel_rfl) | (rw [if_neg (by decide +kernel)]; exact ⟨rfl, rfl⟩))
    (fun os started H enc _ F => by rw [OpenClaim.pre_eq_preRow]; exact filterSmall_lifted os started H enc F)
theorem filterSmall_plain (f : FuncId) (fn : Func) (hf : Tryz.pinned.checked.prog.funcNamed "scullion/scullionlaw17.FilterSmall" = some f) (hfn : Tryz.pinned.checked.prog.funcs[f]? = some fn) :
    true = Tryz.pinned.checked.prog.looks [] ∧ ∀ (j : Nat) t, fn.params[j]? = some t → Tryz.pinned.checked.prog.wantsStandIn t = false := by
  obtain rfl : f = 4 := Option.some.inj ((show Tryz.prog.funcNamed "scullion/scullionlaw17.FilterSmall" = some 4 by kernel_rfl).symm.trans hf) |>.symm
  obtain rfl : fn = Tryz.f4 := (Option.some.inj (Tryz.func4.symm.trans hfn)).symm
  refine ⟨by kernel_rfl, fun j t ht => ?_⟩
  have h0 : (Tryz.f4.params.toList.all fun t => !(Tryz.prog.wantsStandIn t)) = true := by kernel_rfl
  have h1 := List.all_eq_true.1 h0 t (by simpa using Array.mem_of_getElem? ht)
  exact (by simpa using h1 : Tryz.prog.wantsStandIn t = false)
theorem filterSmall_holds : Rows.FilterSmallCardSaid :=
  Claim7.holds_tied_plain_at .later [] _ _ _ _ filterSmall_said (fun _ h => by cases h) (by kernel_rfl) (fun _ h => by cases h) filterSmall_row_tie rfl ⟨rfl, rfl⟩ (by kernel_rfl) rfl filterSmall_plain (by kernel_rfl)
end Go.Proofs.YtiaiggbimlbkfaaGreatDoor
