/- Filter: FilterSorts, walked. -/
import Derived.Test.YtiaiggbimlbkfaaGreatDoorQ28
set_option linter.unusedVariables false
set_option linter.unusedSimpArgs false
namespace Go.Proofs.YtiaiggbimlbkfaaGreatDoor
open Go Go.Ab
set_option maxRecDepth 20000
set_option maxHeartbeats 8000000
theorem lines_join : ∀ (l : List Str), (∀ s ∈ l, (10 : UInt8) ∉ s) → linesL (joinN l) = l
  | [], _ => rfl
  | s :: l, h => by
    have h1 := h s List.mem_cons_self
    have ih := lines_join l fun t ht => h t (List.mem_cons_of_mem _ ht)
    rw [show joinN (s :: l) = s ++ 10 :: joinN l by simp [joinN], linesL_hit _ h1, ih]
theorem lines_no (t : Str) : ∀ s ∈ linesL t, (10 : UInt8) ∉ s := by
  have key : ∀ (n : Nat) (t : Str), t.length = n → ∀ s ∈ linesL t, (10 : UInt8) ∉ s := by
    intro n
    induction n using Nat.strongRecOn with
    | ind n ih =>
      intro t hn s hs
      rcases cut_first 10 t with h1 | ⟨a, u, h1, rfl⟩
      · by_cases h0 : t = []
        · subst h0; cases hs
        · rw [linesL_miss h0 h1] at hs
          rw [List.mem_singleton.1 hs]; exact h1
      · rw [linesL_hit u h1] at hs
        rcases List.mem_cons.1 hs with rfl | hs
        · exact h1
        · exact ih u.length (by rw [← hn]; simp; omega) u rfl s hs
  exact key _ t rfl
theorem sortS_same {l : List Str} (h : l.Pairwise (rel false)) : sortS l = l := one_row (sortS_pair l) h (sortS_perm l)
theorem count17_ok (l : List Str) (hl : l.length ≤ 4000000) (s : Str) (p : Oid) : CallOK Tryz.prog 21 [.list 1 (l.map AV.str), .str s] (Oid.under p) ⟨[], .int .i64 (l.countP (fun y => decide (y = s)) : Nat), []⟩ := by
  refine fnOK (n := 22) (rs := [.tmp 4]) Tryz.func21 rfl rfl (by decide) rfl rfl rfl ?_; rintro x rfl hrd hng
  (repeat (first | (refine K_ifT rfl rfl ?_) | (refine K_ifF rfl rfl ?_) | (refine K_ev nmd [] hng (by kernel_rfl) fun hf C S K hC1 hC hS hK => ?_; simp (disch := first | omega | assumption) only [go_sem]; refine hK ?_; clear hK hS hC hC1 K S C hf) | ((first | refine zk ?_ | refine zn ?_ | refine ze ?_); with_reducible (constructor; repeat constructor); try refine zl ?_)))
  refine K_loop [0, 1, 5, 6] (fun k s' => ∃ i c : Nat, k = l.length - i ∧ i ≤ l.length ∧ s' = ⟨[(0, .list 1 (l.map AV.str)), (1, .str s), (5, .int .i64 ((l.take i).countP (fun y => decide (y = s)) : Nat)), (6, .int .i64 i)], Mem.of [], c, []⟩) _ ⟨0, _, rfl, Nat.zero_le _, rfl⟩ ?_
  rintro k s' ⟨i, c, rfl, hi, rfl⟩
  have hcl : (l.take i).countP (fun y => decide (y = s)) ≤ i := Nat.le_trans List.countP_le_length (by rw [List.length_take]; omega)
  (repeat (first | (refine K_ifT rfl rfl ?_) | (refine K_ifF rfl rfl ?_) | (refine K_ev nmd [] hng (by kernel_rfl) fun hf C S K hC1 hC hS hK => ?_; simp (disch := first | omega | assumption) only [go_sem, List.length_map]; (repeat ((first | refine hC1 _ () (by simp (disch := first | omega | assumption) only [go_sem]) ?_); simp (disch := first | omega | assumption) only [go_sem])); refine hK ?_; clear hK hS hC hC1 K S C hf) | ((first | refine zk ?_ | refine zn ?_ | refine ze ?_); with_reducible (constructor; repeat constructor); try refine zl ?_)))
  refine K_ifd rfl rfl (fun hb => ?_) (fun hb => ?_)
  · have hlt : i < l.length := by omega
    have hst : (l.take (i + 1)).countP (fun y => decide (y = s)) = (l.take i).countP (fun y => decide (y = s)) + if l.getD i default = s then 1 else 0 := by
      rw [List.take_add_one, List.countP_append, List.getElem?_eq_getElem hlt, List.getD_eq_getElem?_getD, List.getElem?_eq_getElem hlt]
      simp [List.countP_cons]
    generalize (l.take i).countP (fun y => decide (y = s)) = m at hcl hst ⊢
    generalize hq : l.getD i default = q at hst
    (repeat (first | (refine K_ifT rfl rfl ?_) | (refine K_ifF rfl rfl ?_) | (refine K_ev nmd [] hng (by kernel_rfl) fun hf C S K hC1 hC hS hK => ?_; simp (disch := first | omega | assumption) only [go_sem, List.length_map, hq]; (repeat ((first | refine hC1 _ () (by simp (disch := first | omega | assumption) only [go_sem]) ?_); simp (disch := first | omega | assumption) only [go_sem])); refine hK ?_; clear hK hS hC hC1 K S C hf) | ((first | refine zk ?_ | refine zn ?_ | refine ze ?_); with_reducible (constructor; repeat constructor); try refine zl ?_)))
    refine K_ifd rfl rfl (fun hb => ?_) (fun hb => ?_)
    · rw [if_pos hb] at hst
      (repeat (first | (refine K_ifT rfl rfl ?_) | (refine K_ifF rfl rfl ?_) | (refine K_ev nmd [] hng (by kernel_rfl) fun hf C S K hC1 hC hS hK => ?_; simp (disch := first | omega | assumption) only [go_sem]; refine hK ?_; clear hK hS hC hC1 K S C hf) | ((first | refine zk ?_ | refine zn ?_ | refine ze ?_); with_reducible (constructor; repeat constructor); try refine zl ?_)))
      refine ⟨_, _, ?_, fun _ _ h => h, i + 1, c + 1 + 1 + 1 + 1, rfl, by omega, ?_⟩
      · omega
      · rw [hst]; rfl
    · rw [if_neg hb] at hst
      (repeat (first | (refine K_ifT rfl rfl ?_) | (refine K_ifF rfl rfl ?_) | (refine K_ev nmd [] hng (by kernel_rfl) fun hf C S K hC1 hC hS hK => ?_; simp (disch := first | omega | assumption) only [go_sem]; refine hK ?_; clear hK hS hC hC1 K S C hf) | ((first | refine zk ?_ | refine zn ?_ | refine ze ?_); with_reducible (constructor; repeat constructor); try refine zl ?_)))
      refine ⟨_, _, ?_, fun _ _ h => h, i + 1, c + 1 + 1 + 1, rfl, by omega, ?_⟩
      · omega
      · rw [hst]; rfl
  · obtain rfl : i = l.length := by omega
    rw [List.take_length]
    (repeat (first | (refine K_ifT rfl rfl ?_) | (refine K_ifF rfl rfl ?_) | (refine K_ev nmd [] hng (by kernel_rfl) fun hf C S K hC1 hC hS hK => ?_; simp (disch := first | omega | assumption) only [go_sem]; refine hK ?_; clear hK hS hC hC1 K S C hf) | ((first | refine zk ?_ | refine zn ?_ | refine ze ?_); with_reducible (constructor; repeat constructor); try refine zl ?_)))
    exact K_ret (done1 rfl)
theorem run_sort (t : Str) (ht : t.length ≤ 4000000) (p : Oid) (hp : p.mono = false) : CallOK Tryz.prog 19 [.list 1 [.str [115, 111, 114, 116]], .str t] (Oid.under p) ⟨[], .tuple [.agg [.int .i64 0, .str (joinN (sortS (linesL t))), .str []], .bool true], []⟩ :=
  run_any [115, 111, 114, 116] (by decide) [] t 33 (by kernel_rfl) (by kernel_rfl) (toldR (joinN (sortRow [] t))) true p (fun p _ => sort_ok [] (by decide) t (by omega) rfl p) hp
theorem run_sortr (t : Str) (ht : t.length ≤ 4000000) (p : Oid) (hp : p.mono = false) : CallOK Tryz.prog 19 [.list 1 [.str [115, 111, 114, 116], .str [45, 114]], .str t] (Oid.under p) ⟨[], .tuple [.agg [.int .i64 0, .str (joinN (sortS (linesL t)).reverse), .str []], .bool true], []⟩ :=
  run_any [115, 111, 114, 116] (by decide) [[45, 114]] t 33 (by kernel_rfl) (by kernel_rfl) (toldR (joinN (sortRow [[45, 114]] t))) true p (fun p _ => sort_ok [[45, 114]] (by decide) t (by omega) (by kernel_rfl) p) hp
theorem filterSorts_ok (t : Str) (h1 : t.length ≤ 140737488355328) (p : Oid) (hp : p.mono = false) :
    CallOK Tryz.prog 5 [.str t] (Oid.under p) ⟨[], .bool true, []⟩ := by
  by_cases h300 : t.length ≤ 300
  · have hz : (300 < (t.length : Int)) = False := eq_false (by omega)
    have hjl := joinN_lines t
    have hjn := joinN_len (linesL t)
    have hno := lines_no t
    have hperm := sortS_perm (linesL t)
    have hpair := sortS_pair (linesL t)
    have hnoS : ∀ s ∈ sortS (linesL t), (10 : UInt8) ∉ s := fun s hs => hno s (hperm.mem_iff.1 hs)
    have hlS := lines_join _ hnoS
    have hlR := lines_join (sortS (linesL t)).reverse fun s hs => hnoS s (List.mem_reverse.1 hs)
    have hjS := joinN_perm hperm
    have hjR := joinN_perm (List.reverse_perm (sortS (linesL t)))
    have hss := sortS_same hpair
    have hcnt : ∀ s, (linesL t).countP (fun y => decide (y = s)) = (sortS (linesL t)).countP (fun y => decide (y = s)) := fun s => (hperm.countP_eq _).symm
    have hlen := hperm.length_eq
    have ra := fun p hp => run_sort t (by omega) p hp
    have rb := fun p hp => run_sort (joinN (sortS (linesL t))) (by omega) p hp
    have rc := fun p hp => run_sortr t (by omega) p hp
    rw [hlS, hss] at rb
    have la := fun p => linesR_ok t (by omega) p
    have lb := fun p => linesR_ok (joinN (sortS (linesL t))) (by omega) p
    have lc := fun p => linesR_ok (joinN (sortS (linesL t)).reverse) (by omega) p
    rw [hlS] at lb
    rw [hlR] at lc
    have hrev : ∀ i, i < (sortS (linesL t)).length → (sortS (linesL t)).reverse.getD ((sortS (linesL t)).length - 1 - i) default = (sortS (linesL t)).getD i default := fun i hi => by
      rw [List.getD_eq_getElem?_getD, List.getD_eq_getElem?_getD, List.getElem?_reverse (by omega)]
      congr 2; omega
    have hord : ∀ i, 0 < i → i < (sortS (linesL t)).length → (ltS ((sortS (linesL t)).getD (i - 1) default) ((sortS (linesL t)).getD i default) || decide ((sortS (linesL t)).getD (i - 1) default = (sortS (linesL t)).getD i default)) = true := fun i h0 hi => by
      have h := List.pairwise_iff_getElem.1 hpair (i - 1) i (by omega) hi (by omega)
      have h2 : (sortS (linesL t)).getD (i - 1) default ≤ (sortS (linesL t)).getD i default := by
        rw [List.getD_eq_getElem?_getD, List.getElem?_eq_getElem (by omega), List.getD_eq_getElem?_getD, List.getElem?_eq_getElem hi]; exact h
      rw [show ltS ((sortS (linesL t)).getD (i - 1) default) ((sortS (linesL t)).getD i default) = decide (((sortS (linesL t)).getD (i - 1) default) < ((sortS (linesL t)).getD i default)) from Go.Proofs.bytesLess_eq _ _]
      rw [Bool.or_eq_true, decide_eq_true_eq, decide_eq_true_eq]
      exact str_le.1 h2
    have hrlen : (sortS (linesL t)).reverse.length = (sortS (linesL t)).length := List.length_reverse
    generalize (sortS (linesL t)).reverse = R at rc lc hrev hrlen
    generalize sortS (linesL t) = S at *
    generalize linesL t = L at *
    have cL := fun s p => count17_ok L (by omega) s p
    have cS := fun s p => count17_ok S (by omega) s p
    refine fnOK (n := 116) (rs := [.tmp 2]) Tryz.func5 rfl rfl (by decide) rfl rfl rfl ?_; rintro x rfl hrd hng
    (repeat (first | (refine K_ifT rfl rfl ?_) | (refine K_ifF rfl rfl ?_) | (refine K_ev nmd [] hng (by kernel_rfl) fun hf C S K hC1 hC hS hK => ?_; simp (disch := first | omega | assumption) only [go_sem, hz, decide_true, decide_false, ne_eq, not_true_eq_false, not_false_eq_true]; (repeat ((first | refine hC1 _ (awake_ok _ (mono_sub' rfl hp)) (by simp (disch := first | omega | assumption) only [go_sem]) ?_ | refine hC1 _ (ra _ (mono_sub' rfl hp)) (by simp (disch := first | omega | assumption) only [go_sem]) ?_ | refine hC1 _ (rb _ (mono_sub' rfl hp)) (by simp (disch := first | omega | assumption) only [go_sem]) ?_ | refine hC1 _ (rc _ (mono_sub' rfl hp)) (by simp (disch := first | omega | assumption) only [go_sem]) ?_); simp (disch := first | omega | assumption) only [go_sem])); refine hK ?_; clear hK hS hC hC1 K S C hf) | ((first | refine zk ?_ | refine zn ?_ | refine ze ?_); with_reducible (constructor; repeat constructor); try refine zl ?_)))
    refine K_evd nmd [] [(1, 3), (1, 6), (4, 6)] mixed hng (by kernel_rfl) [3, 4, 6, 10, 11, 12] fun hf C S K hC hS hK => ?_; simp (disch := first | omega | assumption) only [go_sem]
    (repeat' (first | (refine evG_split (fun hv => ?_) (fun hv => ?_) <;> (try simp only [zb1, zb2, zb3, zb4, zb5] at hv) <;> simp (disch := first | omega | assumption) only [go_sem, hv]) | (refine hC _ (la _) (by simp (disch := first | omega | assumption) only [go_sem]) ?_; simp (disch := first | omega | assumption) only [go_sem]) | (refine hC _ (lb _) (by simp (disch := first | omega | assumption) only [go_sem]) ?_; simp (disch := first | omega | assumption) only [go_sem]) | (refine hC _ (lc _) (by simp (disch := first | omega | assumption) only [go_sem]) ?_; simp (disch := first | omega | assumption) only [go_sem]) | ((first | refine hK (dynN_quiet rfl) ?_ | refine hK (by simp (disch := first | omega | assumption) only [go_sem, List.reverse_cons, List.reverse_nil, ne_eq, not_false_eq_true, implies_true]) ?_); clear hK hS hC K S C hf)))
    (try ((first | refine zk ?_ | refine zn ?_ | refine ze ?_); with_reducible (constructor; repeat constructor)); try refine zl ?_)
    refine K_ev nmd [(3, 51), (10, 58)] hng (by kernel_rfl) fun hf C S K hC1 hC hS hK => ?_; simp (disch := first | omega | assumption) only [go_sem, List.length_map, hlen, hrlen, decide_true, decide_false, ne_eq, not_true_eq_false, not_false_eq_true]
    (repeat' (first | (refine evG_split (fun hv => ?_) (fun hv => ?_) <;> (try simp only [zb1, zb2, zb3, zb4, zb5] at hv) <;> simp (disch := first | omega | assumption) only [go_sem, hv, List.length_map, hlen, hrlen, decide_true, decide_false, ne_eq, not_true_eq_false, not_false_eq_true]) | (refine hK ?_; clear hK hS hC hC1 K S C hf)))
    all_goals first | contradiction | skip
    (try ((first | refine zk ?_ | refine zn ?_ | refine ze ?_); with_reducible (constructor; repeat constructor)); try refine zl ?_)
    refine K_ifF rfl rfl ?_
    (repeat (first | (refine K_ifT rfl rfl ?_) | (refine K_ifF rfl rfl ?_) | (refine K_ev nmd [] hng (by kernel_rfl) fun hf C S K hC1 hC hS hK => ?_; simp (disch := first | omega | assumption) only [go_sem]; refine hK ?_; clear hK hS hC hC1 K S C hf) | ((first | refine zk ?_ | refine zn ?_ | refine ze ?_); with_reducible (constructor; repeat constructor); try refine zl ?_)))
    refine K_mem [] (fun q hq => absurd hq (by simp)) ?_
    refine K_loop [3, 10, 11, 12, 13] (fun k s' => ∃ i c : Nat, k = S.length - i ∧ i ≤ S.length ∧ s' = ⟨[(3, .bool true), (10, .list 1 (L.map AV.str)), (11, .list 1 (S.map AV.str)), (12, .list 1 (R.map AV.str)), (13, .int .i64 i)], Mem.of [], c, []⟩) _ ⟨0, _, rfl, Nat.zero_le _, rfl⟩ ?_
    rintro k s' ⟨i, c, rfl, hi, rfl⟩
    (repeat (first | (refine K_ifT rfl rfl ?_) | (refine K_ifF rfl rfl ?_) | (refine K_ev nmd [] hng (by kernel_rfl) fun hf C S K hC1 hC hS hK => ?_; simp (disch := first | omega | assumption) only [go_sem, List.length_map]; (repeat ((first | refine hC1 _ () (by simp (disch := first | omega | assumption) only [go_sem]) ?_); simp (disch := first | omega | assumption) only [go_sem])); refine hK ?_; clear hK hS hC hC1 K S C hf) | ((first | refine zk ?_ | refine zn ?_ | refine ze ?_); with_reducible (constructor; repeat constructor); try refine zl ?_)))
    refine K_ifd rfl rfl (fun hb => ?_) (fun hb => ?_)
    · have hlt : i < S.length := by omega
      have ho := hord i
      have hv := hrev i hlt
      have hcn := hcnt (S.getD i default)
      have hz1 : ((S.length : Int) - 1 - (i : Int)).toNat = S.length - 1 - i := by omega
      have hz2 : ((i : Int) - 1).toNat = i - 1 := by omega
      generalize hy : S.getD i default = y at ho hv hcn
      generalize hyp : S.getD (i - 1) default = yp at ho
      have cL2 := cL y
      have cS2 := cS y
      rw [← hcn] at cS2
      generalize L.countP (fun z => decide (z = y)) = cc at cL2 cS2
      (try ((first | refine zk ?_ | refine zn ?_ | refine ze ?_); with_reducible (constructor; repeat constructor)); try refine zl ?_)
      refine K_cut [3, 10, 11, 12, 13, 114] (fun s' => ∃ d : Nat, s' = ⟨[(3, .bool true), (10, .list 1 (L.map AV.str)), (11, .list 1 (S.map AV.str)), (12, .list 1 (R.map AV.str)), (13, .int .i64 i), (114, .bool false)], Mem.of [], d, []⟩) ?_ ?_
      · by_cases h0 : 0 < i
        · have hoo := ho h0 hlt
          have hg : (0 < (i : Int)) = True := eq_true (by omega)
          refine K_evd nmd [(2, 73), (14, 85), (29, 100)] [(35, 40)] mixed hng (by kernel_rfl) [3, 10, 11, 12, 13, 114] fun hf C S K hC hS hK => ?_; simp (disch := first | omega | assumption) only [go_sem, List.length_map, hz1, hz2, hy, hyp, hv, hrlen, hoo, hg, Bool.not_true, decide_true, decide_false, ne_eq, not_true_eq_false, not_false_eq_true]
          (repeat' (first | (refine evG_split (fun hv => ?_) (fun hv => ?_) <;> (try simp only [zb1, zb2, zb3, zb4, zb5] at hv) <;> simp (disch := first | omega | assumption) only [go_sem, hv, List.length_map, hz1, hz2, hy, hyp, hv, hrlen, hoo, hg, Bool.not_true, decide_true, decide_false, ne_eq, not_true_eq_false, not_false_eq_true]) | (refine hC _ (cL2 _) (by simp (disch := first | omega | assumption) only [go_sem, List.length_map, hz1, hz2, hy, hyp, hv, hrlen, hoo, hg, Bool.not_true, decide_true, decide_false, ne_eq, not_true_eq_false, not_false_eq_true]) ?_; simp (disch := first | omega | assumption) only [go_sem, List.length_map, hz1, hz2, hy, hyp, hv, hrlen, hoo, hg, Bool.not_true, decide_true, decide_false, ne_eq, not_true_eq_false, not_false_eq_true]) | (refine hC _ (cS2 _) (by simp (disch := first | omega | assumption) only [go_sem, List.length_map, hz1, hz2, hy, hyp, hv, hrlen, hoo, hg, Bool.not_true, decide_true, decide_false, ne_eq, not_true_eq_false, not_false_eq_true]) ?_; simp (disch := first | omega | assumption) only [go_sem, List.length_map, hz1, hz2, hy, hyp, hv, hrlen, hoo, hg, Bool.not_true, decide_true, decide_false, ne_eq, not_true_eq_false, not_false_eq_true]) | ((first | refine hK (dynN_quiet rfl) ?_ | refine hK (by simp (disch := first | omega | assumption) only [go_sem, List.reverse_cons, List.reverse_nil, ne_eq, not_false_eq_true, implies_true]) ?_); clear hK hS hC K S C hf)))
          all_goals first | contradiction | exact K_cutN ⟨_, rfl⟩
        · obtain rfl : i = 0 := by omega
          have hg : (0 < ((0 : Nat) : Int)) = False := eq_false (by omega)
          refine K_evd nmd [(2, 73), (14, 85), (29, 100)] [(35, 40)] mixed hng (by kernel_rfl) [3, 10, 11, 12, 13, 114] fun hf C S K hC hS hK => ?_; simp (disch := first | omega | assumption) only [go_sem, List.length_map, hz1, hz2, hy, hyp, hv, hrlen, hg, decide_true, decide_false, ne_eq, not_true_eq_false, not_false_eq_true]
          (repeat' (first | (refine evG_split (fun hv => ?_) (fun hv => ?_) <;> (try simp only [zb1, zb2, zb3, zb4, zb5] at hv) <;> simp (disch := first | omega | assumption) only [go_sem, hv, List.length_map, hz1, hz2, hy, hyp, hv, hrlen, hg, decide_true, decide_false, ne_eq, not_true_eq_false, not_false_eq_true]) | (refine hC _ (cL2 _) (by simp (disch := first | omega | assumption) only [go_sem, List.length_map, hz1, hz2, hy, hyp, hv, hrlen, hg, decide_true, decide_false, ne_eq, not_true_eq_false, not_false_eq_true]) ?_; simp (disch := first | omega | assumption) only [go_sem, List.length_map, hz1, hz2, hy, hyp, hv, hrlen, hg, decide_true, decide_false, ne_eq, not_true_eq_false, not_false_eq_true]) | (refine hC _ (cS2 _) (by simp (disch := first | omega | assumption) only [go_sem, List.length_map, hz1, hz2, hy, hyp, hv, hrlen, hg, decide_true, decide_false, ne_eq, not_true_eq_false, not_false_eq_true]) ?_; simp (disch := first | omega | assumption) only [go_sem, List.length_map, hz1, hz2, hy, hyp, hv, hrlen, hg, decide_true, decide_false, ne_eq, not_true_eq_false, not_false_eq_true]) | ((first | refine hK (dynN_quiet rfl) ?_ | refine hK (by simp (disch := first | omega | assumption) only [go_sem, List.reverse_cons, List.reverse_nil, ne_eq, not_false_eq_true, implies_true]) ?_); clear hK hS hC K S C hf)))
          all_goals first | contradiction | exact K_cutN ⟨_, rfl⟩
      rintro s' ⟨d, rfl⟩
      (repeat (first | (refine K_ifT rfl rfl ?_) | (refine K_ifF rfl rfl ?_) | (refine K_ev nmd [] hng (by kernel_rfl) fun hf C S K hC1 hC hS hK => ?_; simp (disch := first | omega | assumption) only [go_sem]; refine hK ?_; clear hK hS hC hC1 K S C hf) | ((first | refine zk ?_ | refine zn ?_ | refine ze ?_); with_reducible (constructor; repeat constructor); try refine zl ?_)))
      exact ⟨_, _, by omega, fun _ _ h => h, i + 1, _, rfl, by omega, rfl⟩
    · (repeat (first | (refine K_ifT rfl rfl ?_) | (refine K_ifF rfl rfl ?_) | (refine K_ev nmd [] hng (by kernel_rfl) fun hf C S K hC1 hC hS hK => ?_; simp (disch := first | omega | assumption) only [go_sem]; refine hK ?_; clear hK hS hC hC1 K S C hf) | ((first | refine zk ?_ | refine zn ?_ | refine ze ?_); with_reducible (constructor; repeat constructor); try refine zl ?_)))
      exact K_ret (done1 rfl)
  · have hz : (300 < (t.length : Int)) = True := eq_true (by omega)
    refine fnOK (n := 116) (rs := [.tmp 2]) Tryz.func5 rfl rfl (by decide) rfl rfl rfl ?_; rintro x rfl hrd hng
    (repeat (first | (refine K_ifT rfl rfl ?_) | (refine K_ifF rfl rfl ?_) | (refine K_ev nmd [] hng (by kernel_rfl) fun hf C S K hC1 hC hS hK => ?_; simp (disch := first | omega | assumption) only [go_sem, hz, decide_true, decide_false, ne_eq, not_true_eq_false, not_false_eq_true]; (repeat ((first | refine hC1 _ (awake_ok _ (mono_sub' rfl hp)) (by simp (disch := first | omega | assumption) only [go_sem]) ?_); simp (disch := first | omega | assumption) only [go_sem])); refine hK ?_; clear hK hS hC hC1 K S C hf) | ((first | refine zk ?_ | refine zn ?_ | refine ze ?_); with_reducible (constructor; repeat constructor); try refine zl ?_)))
    exact K_ret (done1 rfl)
end Go.Proofs.YtiaiggbimlbkfaaGreatDoor
