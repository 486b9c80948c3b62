/- Filter: uniq of the program. -/
import Derived.Test.YtiaiggbimlbkfaaGreatDoorQ18
set_option linter.unusedVariables false
set_option linter.unusedSimpArgs false
namespace Go.Proofs.YtiaiggbimlbkfaaGreatDoor
open Go Go.Ab
set_option maxRecDepth 20000
set_option maxHeartbeats 4000000
theorem row_young2 {c e j k : Nat} {t : Nat} {p : Oid} (h : ¬ c = e) : ¬ Oid.under (.sub c k p) (.ty t (.sub 2 6 (.sub e j p))) := by
  have hself : ¬ Oid.under (.sub c k p) p := fun h => by have := Oid.under_depth h; simp [Oid.depth] at this; omega
  have h' : ¬ e = c := fun e => h e.symm
  simp only [Oid.under, reduceCtorEq, false_or, Oid.sub.injEq, h, h', false_and, and_false, hself, or_false, not_false_eq_true]
  intro hh
  have := congrArg Oid.depth hh.2.2
  simp [Oid.depth] at this
theorem uniq_ok (args : List Str) (cnt : Bool) (h : UniqV args cnt) (t : Str) (htl : t.length ≤ 4000000) (p : Oid) (hp : p.mono = false) :
    CallOK Tryz.prog 34 [.list 1 (args.map AV.str), .str t] (Oid.under p) ⟨[], .tuple [(toldR (runsT cnt (grp (linesL t)))).av, .bool true], []⟩ := by
  have hjl := joinN_lines t
  have hjn := joinN_len (linesL t)
  have hrl := runsT_len cnt (linesL t)
  have hal : args.length ≤ 4000000000 := by rcases h with ⟨rfl, _⟩ | ⟨rfl, _⟩ <;> simp
  have heq := fun p => equal_ok args [[45, 99]] hal p
  have hcnt : decide (args = [[45, 99]]) = cnt := by rcases h with ⟨rfl, rfl⟩ | ⟨rfl, rfl⟩ <;> rfl
  rw [hcnt] at heq
  have hlr := fun p => lines_ok t (by omega) p
  generalize hL : linesL t = L at hjl hjn hrl hlr ⊢
  generalize hT : runsT cnt (grp L) = tot at hrl ⊢
  simp only [List.map_cons, List.map_nil] at heq
  refine fnOK (n := 61) (rs := [.cell 4 32, .tmp 5]) Tryz.func34 rfl rfl (by decide) rfl rfl rfl ?_; rintro x rfl hrd hng
  (repeat (first | (refine K_ifT rfl rfl ?_) | (refine K_ifF rfl rfl ?_) | (refine K_ev nmd [] hng (by kernel_rfl) fun hf C S K hC1 hC hS hK => ?_; simp (disch := first | omega | assumption) only [go_sem]; (repeat ((first | refine hC1 _ (heq _) (by simp (disch := first | omega | assumption) only [go_sem]) ?_); simp (disch := first | omega | assumption) only [go_sem])); refine hK ?_; clear hK hS hC hC1 K S C hf) | ((first | refine zk ?_ | refine zn ?_ | refine ze ?_); with_reducible (constructor; repeat constructor); try refine zl ?_)))
  refine K_cut [1, 4, 6, 19] (fun s' => ∃ c : Nat, s' = ⟨[(1, .str t), (4, .ptr (.sub 0 0 x.p) 0), (6, .bool cnt), (19, .bool false)], Mem.of [(.sub 0 0 x.p, .cells [.int .i64 0, .str [], .str []])], c, []⟩ ∧ 1 < c) ?_ ?_
  · rcases h with ⟨rfl, rfl⟩ | ⟨rfl, rfl⟩
    · refine K_ev nmd [(3, 16)] hng (by kernel_rfl) fun hf C S K hC1 hC hS hK => ?_; simp (disch := first | omega | assumption) only [go_sem, decide_true, decide_false, ne_eq, not_true_eq_false, not_false_eq_true]
      (repeat' (first | (refine evG_split (fun hv => ?_) (fun hv => ?_) <;> (try simp only [zb1, zb2, zb3, zb4, zb5] at hv) <;> simp (disch := first | omega | assumption) only [go_sem, hv, decide_true, decide_false, ne_eq, not_true_eq_false, not_false_eq_true]) | (refine hK ?_; clear hK hS hC hC1 K S C hf)))
      all_goals first | contradiction | exact K_cutN ⟨_, rfl, by omega⟩
    · refine K_ev nmd [(3, 16)] hng (by kernel_rfl) fun hf C S K hC1 hC hS hK => ?_; simp (disch := first | omega | assumption) only [go_sem, decide_true, decide_false, ne_eq, not_true_eq_false, not_false_eq_true]
      (repeat' (first | (refine evG_split (fun hv => ?_) (fun hv => ?_) <;> (try simp only [zb1, zb2, zb3, zb4, zb5] at hv) <;> simp (disch := first | omega | assumption) only [go_sem, hv, decide_true, decide_false, ne_eq, not_true_eq_false, not_false_eq_true]) | (refine hK ?_; clear hK hS hC hC1 K S C hf)))
      all_goals first | contradiction | exact absurd rfl hv | exact K_cutN ⟨_, rfl, by omega⟩
  rintro s' ⟨c0, rfl, hc0⟩
  (repeat (first | (refine K_ifT rfl rfl ?_) | (refine K_ifF rfl rfl ?_) | (refine K_ev nmd [] hng (by kernel_rfl) fun hf C S K hC1 hC hS hK => ?_; simp (disch := first | omega | assumption) only [go_sem]; (repeat ((first | refine hC1 _ (hlr _) (by simp (disch := first | omega | assumption) only [go_sem]) ?_); simp (disch := first | omega | assumption) only [go_sem])); refine hK ?_; clear hK hS hC hC1 K S C hf) | ((first | refine zk ?_ | refine zn ?_ | refine ze ?_); with_reducible (constructor; repeat constructor); try refine zl ?_)))
  refine K_loop [4, 6, 7, 8] (fun k s' => ∃ (R : List Str) (u : Str) (M : List (Oid × AObj)) (c : Nat), R.length = k ∧ c0 + 1 < c ∧ R.length ≤ 4000001 ∧ tot = u ++ runsT cnt (grp R) ∧
    ((u = [] ∧ M = [(.sub 0 0 x.p, .cells [.int .i64 0, .str [], .str []]), (.ty 67 (.sub c0 0 x.p), .cells [.nilPtr, .nilSl])]) ∨ (¬ u = [] ∧ ∃ e j, c0 < e ∧ e < c ∧ M = [(.sub 0 0 x.p, .cells [.int .i64 0, .str [], .str []]), (.ty 67 (.sub c0 0 x.p), .cells [.ptr (.ty 67 (.sub c0 0 x.p)) 0, .sl (.ty 5 (.sub 2 6 (.sub e j x.p))) 1 u.length]), (.ty 5 (.sub 2 6 (.sub e j x.p)), .arr 1 (u.map byA))])) ∧
    s' = ⟨[(4, .ptr (.sub 0 0 x.p) 0), (6, .bool cnt), (7, .ptr (.ty 67 (.sub c0 0 x.p)) 0), (8, .list 1 (R.map AV.str))], Mem.of M, c, []⟩) _ ⟨L, [], _, _, rfl, by omega, by omega, hT.symm, .inl ⟨rfl, rfl⟩, rfl⟩ ?_
  rintro k s' ⟨R, u, M, c, rfl, hcc, hRl, htot, hM, rfl⟩
  have hul : u.length ≤ 12000003 := by have := congrArg List.length htot; rw [List.length_append] at this; omega
  (repeat (first | (refine K_ifT rfl rfl ?_) | (refine K_ifF rfl rfl ?_) | (refine K_ev nmd [] hng (by kernel_rfl) fun hf C S K hC1 hC hS hK => ?_; simp (disch := first | omega | assumption) only [go_sem, List.length_map]; (repeat ((first | refine hC1 _ () (by simp (disch := first | omega | assumption) only [go_sem]) ?_); simp (disch := first | omega | assumption) only [go_sem])); refine hK ?_; clear hK hS hC hC1 K S C hf) | ((first | refine zk ?_ | refine zn ?_ | refine ze ?_); with_reducible (constructor; repeat constructor); try refine zl ?_)))
  refine K_ifd rfl rfl (fun hb => ?_) (fun hb => ?_)
  · have hR0 : 0 < R.length := by omega
    generalize hq : R.getD 0 default = q
    (repeat (first | (refine K_ifT rfl rfl ?_) | (refine K_ifF rfl rfl ?_) | (refine K_ev nmd [] hng (by kernel_rfl) fun hf C S K hC1 hC hS hK => ?_; simp (disch := first | omega | assumption) only [go_sem]; refine hK ?_; clear hK hS hC hC1 K S C hf) | ((first | refine zk ?_ | refine zn ?_ | refine ze ?_); with_reducible (constructor; repeat constructor); try refine zl ?_)))
    refine K_loop [4, 6, 7, 8, 9] (fun k s' => ∃ (m c' : Nat), k = R.length - m ∧ 1 ≤ m ∧ m ≤ R.length ∧ c < c' ∧ grp R = addX m q (grp (R.drop m)) ∧
      s' = ⟨[(4, .ptr (.sub 0 0 x.p) 0), (6, .bool cnt), (7, .ptr (.ty 67 (.sub c0 0 x.p)) 0), (8, .list 1 (R.map AV.str)), (9, .int .i64 (m : Int))], Mem.of M, c', []⟩) _ ⟨1, _, rfl, Nat.le_refl _, hR0, by omega, by
        have h1 := str_drop_cons (l := R) (i := 0) hR0
        rw [List.drop_zero, hq] at h1
        conv => lhs; rw [h1]
        rw [grp], rfl⟩ ?_
    rintro k s' ⟨m, c', rfl, hm1, hmR, hc', hg, rfl⟩
    (try ((first | refine zk ?_ | refine zn ?_ | refine ze ?_); with_reducible (constructor; repeat constructor)); try refine zl ?_)
    refine K_cut [4, 6, 7, 8, 9, 41] (fun s' => ∃ (b : Bool) (d : Nat), s' = ⟨[(4, .ptr (.sub 0 0 x.p) 0), (6, .bool cnt), (7, .ptr (.ty 67 (.sub c0 0 x.p)) 0), (8, .list 1 (R.map AV.str)), (9, .int .i64 (m : Int)), (41, .bool b)], Mem.of M, d, []⟩ ∧ c < d ∧ (b = true ↔ (m < R.length ∧ R.getD m default = q))) ?_ ?_
    · refine K_evd nmd [(4, 32)] [] mixed hng (by kernel_rfl) [4, 6, 7, 8, 9, 41] fun hf C S K hC hS hK => ?_; simp (disch := first | omega | assumption) only [go_sem, List.length_map, hq, decide_true, decide_false, ne_eq, not_true_eq_false, not_false_eq_true]
      (repeat' (first | (refine evG_split (fun hv => ?_) (fun hv => ?_) <;> (try simp only [zb1, zb2, zb3, zb4, zb5] at hv) <;> simp (disch := first | omega | assumption) only [go_sem, hv, List.length_map, hq, decide_true, decide_false, ne_eq, not_true_eq_false, not_false_eq_true]) | ((first | refine hK (dynN_quiet rfl) ?_ | refine hK (by simp (disch := first | omega | assumption) only [go_sem, List.reverse_cons, List.reverse_nil, ne_eq, not_false_eq_true, implies_true]) ?_); clear hK hS hC K S C hf)))
      all_goals first
        | contradiction
        | exact K_cutN ⟨_, _, rfl, by omega, by simp only [decide_eq_true_eq]; exact ⟨fun h => ⟨by omega, h⟩, fun h => h.2⟩⟩
        | exact K_cutN ⟨_, _, rfl, by omega, by simp only [Bool.false_eq_true, false_iff]; omega⟩
    rintro s' ⟨b, d, rfl, hcd, hiff⟩
    refine K_if rfl rfl (fun hb => ?_) (fun hb => ?_)
    · obtain ⟨h1, h2⟩ := hiff.1 hb
      have hd2 := str_drop_cons h1
      rw [h2] at hd2
      rw [hd2, grp, addX_add] at hg
      (repeat (first | (refine K_ifT rfl rfl ?_) | (refine K_ifF rfl rfl ?_) | (refine K_ev nmd [] hng (by kernel_rfl) fun hf C S K hC1 hC hS hK => ?_; simp (disch := first | omega | assumption) only [go_sem]; refine hK ?_; clear hK hS hC hC1 K S C hf) | ((first | refine zk ?_ | refine zn ?_ | refine ze ?_); with_reducible (constructor; repeat constructor); try refine zl ?_)))
      refine ⟨_, _, ?_, fun _ _ h => h, m + 1, d + 1, rfl, by omega, by omega, by omega, hg, rfl⟩
      omega
    · have hne : ∀ y r, R.drop m = y :: r → ¬ y = q := fun y r hy e => by
        have h1 : m < R.length := by
          have := congrArg List.length hy
          rw [List.length_drop, List.length_cons] at this; omega
        rw [str_drop_cons h1, List.cons.injEq] at hy
        rw [hiff.2 ⟨h1, by rw [hy.1, e]⟩] at hb; cases hb
      rw [addX_new hne] at hg
      rw [hg] at htot
      have hlen := congrArg List.length htot
      have hdm : (R.drop m).length < R.length := by rw [List.length_drop]; omega
      have hdl : (R.drop m).length ≤ 4000001 := by omega
      cases cnt with
      | true =>
        simp only [runsT, if_true] at htot hlen
        simp only [List.length_append, List.length_singleton] at hlen
        have htot2 : tot = (u ++ (Lib.decDigits m ++ [32])) ++ (q ++ [10]) ++ runsT true (grp (R.drop m)) := by rw [htot]; simp
        have hw1 : (Lib.decDigits m ++ [32]).length ≤ 140737488355328 := by rw [List.length_append, List.length_singleton]; omega
        have hw2 : u.length + (Lib.decDigits m ++ [32]).length ≤ 140737488355328 := by rw [List.length_append, List.length_singleton]; omega
        have hw3 : (u ++ (Lib.decDigits m ++ [32])).length + (q ++ [10]).length ≤ 140737488355328 := by simp only [List.length_append, List.length_singleton]; omega
        rcases hM with ⟨rfl, rfl⟩ | ⟨hu0, e, j, he1, he2, rfl⟩
        · (repeat (first | (refine K_ifT rfl rfl ?_) | (refine K_ifF rfl rfl ?_) | (refine K_ev nmd [] hng (by kernel_rfl) fun hf C S K hC1 hC hS hK => ?_; simp (disch := first | omega | assumption) only [go_sem, List.length_map, hq, ← List.map_drop]; (repeat ((first | refine hC1 _ (itoaN_ok m (by omega) _ (mono_sub' rfl hp)) (by simp (disch := first | omega | assumption) only [go_sem]) ?_ | refine hC1 _ (ws_fresh (.sub c0 0 x.p) (Lib.decDigits m ++ [32]) hw1 _ (under_next2 (by omega))) (by simp (disch := first | omega | assumption) only [go_sem]) ?_ | refine hC1 _ (ws_used (.sub c0 0 x.p) (.sub 2 6 (.sub (d + 1) 3 x.p)) (Lib.decDigits m ++ [32]) (q ++ [10]) hw3 _ (under_next2 (by omega)) (row_young2 (by omega))) (by simp (disch := first | omega | assumption) only [go_sem]) ?_); simp (disch := first | omega | assumption) only [go_sem])); refine hK ?_; clear hK hS hC hC1 K S C hf) | ((first | refine zk ?_ | refine zn ?_ | refine ze ?_); with_reducible (constructor; repeat constructor); try refine zl ?_)))
          refine ⟨_, _, ?_, fun _ _ h => h, R.drop m, Lib.decDigits m ++ [32] ++ (q ++ [10]), [(.sub 0 0 x.p, .cells [.int .i64 0, .str [], .str []]), (.ty 67 (.sub c0 0 x.p), .cells [.ptr (.ty 67 (.sub c0 0 x.p)) 0, .sl (.ty 5 (.sub 2 6 (.sub (d + 1 + 1) 4 x.p))) 1 (Lib.decDigits m ++ [32] ++ (q ++ [10])).length]), ((.ty 5 (.sub 2 6 (.sub (d + 1 + 1) 4 x.p))), .arr 1 ((Lib.decDigits m ++ [32] ++ (q ++ [10])).map byA))], d + 1 + 1 + 1 + 1, rfl, by omega, hdl, by rw [htot]; simp, .inr ⟨by simp, d + 1 + 1, 4, by omega, by omega, rfl⟩, ?_⟩
          · exact hdm
          · first | rfl | (simp only [List.length_append, List.length_singleton, List.length_cons, List.length_nil, Nat.zero_add, ← Nat.add_assoc]; rfl)
        · (repeat (first | (refine K_ifT rfl rfl ?_) | (refine K_ifF rfl rfl ?_) | (refine K_ev nmd [] hng (by kernel_rfl) fun hf C S K hC1 hC hS hK => ?_; simp (disch := first | omega | assumption) only [go_sem, List.length_map, hq, ← List.map_drop]; (repeat ((first | refine hC1 _ (itoaN_ok m (by omega) _ (mono_sub' rfl hp)) (by simp (disch := first | omega | assumption) only [go_sem]) ?_ | refine hC1 _ (ws_used (.sub c0 0 x.p) (.sub 2 6 (.sub e j x.p)) u (Lib.decDigits m ++ [32]) hw2 _ (under_next2 (by omega)) (row_young2 (by omega))) (by simp (disch := first | omega | assumption) only [go_sem]) ?_ | refine hC1 _ (ws_used (.sub c0 0 x.p) (.sub 2 6 (.sub (d + 1) 3 x.p)) (u ++ (Lib.decDigits m ++ [32])) (q ++ [10]) hw3 _ (under_next2 (by omega)) (row_young2 (by omega))) (by simp (disch := first | omega | assumption) only [go_sem]) ?_); simp (disch := first | omega | assumption) only [go_sem])); refine hK ?_; clear hK hS hC hC1 K S C hf) | ((first | refine zk ?_ | refine zn ?_ | refine ze ?_); with_reducible (constructor; repeat constructor); try refine zl ?_)))
          refine ⟨_, _, ?_, fun _ _ h => h, R.drop m, u ++ (Lib.decDigits m ++ [32]) ++ (q ++ [10]), [(.sub 0 0 x.p, .cells [.int .i64 0, .str [], .str []]), (.ty 67 (.sub c0 0 x.p), .cells [.ptr (.ty 67 (.sub c0 0 x.p)) 0, .sl (.ty 5 (.sub 2 6 (.sub (d + 1 + 1) 4 x.p))) 1 (u ++ (Lib.decDigits m ++ [32]) ++ (q ++ [10])).length]), ((.ty 5 (.sub 2 6 (.sub (d + 1 + 1) 4 x.p))), .arr 1 ((u ++ (Lib.decDigits m ++ [32]) ++ (q ++ [10])).map byA))], d + 1 + 1 + 1 + 1, rfl, by omega, hdl, by rw [htot]; simp, .inr ⟨by simp, d + 1 + 1, 4, by omega, by omega, rfl⟩, ?_⟩
          · exact hdm
          · first | rfl | (simp only [List.length_append, List.length_singleton, List.length_cons, List.length_nil, Nat.zero_add, ← Nat.add_assoc]; rfl)
      | false =>
        simp only [runsT, Bool.false_eq_true, if_false, List.nil_append] at htot hlen
        simp only [List.length_append, List.length_singleton] at hlen
        have hw2 : u.length + (q ++ [10]).length ≤ 140737488355328 := by simp only [List.length_append, List.length_singleton]; omega
        rcases hM with ⟨rfl, rfl⟩ | ⟨hu0, e, j, he1, he2, rfl⟩
        · (repeat (first | (refine K_ifT rfl rfl ?_) | (refine K_ifF rfl rfl ?_) | (refine K_ev nmd [] hng (by kernel_rfl) fun hf C S K hC1 hC hS hK => ?_; simp (disch := first | omega | assumption) only [go_sem, List.length_map, hq, ← List.map_drop]; (repeat ((first | refine hC1 _ (ws_fresh (.sub c0 0 x.p) (q ++ [10]) (by simp only [List.length_append, List.length_singleton]; omega) _ (under_next2 (by omega))) (by simp (disch := first | omega | assumption) only [go_sem]) ?_); simp (disch := first | omega | assumption) only [go_sem])); refine hK ?_; clear hK hS hC hC1 K S C hf) | ((first | refine zk ?_ | refine zn ?_ | refine ze ?_); with_reducible (constructor; repeat constructor); try refine zl ?_)))
          refine ⟨_, _, ?_, fun _ _ h => h, R.drop m, q ++ [10], [(.sub 0 0 x.p, .cells [.int .i64 0, .str [], .str []]), (.ty 67 (.sub c0 0 x.p), .cells [.ptr (.ty 67 (.sub c0 0 x.p)) 0, .sl (.ty 5 (.sub 2 6 (.sub (d + 1) 4 x.p))) 1 (q ++ [10]).length]), ((.ty 5 (.sub 2 6 (.sub (d + 1) 4 x.p))), .arr 1 ((q ++ [10]).map byA))], d + 1 + 1 + 1, rfl, by omega, hdl, by rw [htot]; simp, .inr ⟨by simp, d + 1, 4, by omega, by omega, rfl⟩, ?_⟩
          · exact hdm
          · first | rfl | (simp only [List.length_append, List.length_singleton, List.length_cons, List.length_nil, Nat.zero_add, ← Nat.add_assoc]; rfl)
        · (repeat (first | (refine K_ifT rfl rfl ?_) | (refine K_ifF rfl rfl ?_) | (refine K_ev nmd [] hng (by kernel_rfl) fun hf C S K hC1 hC hS hK => ?_; simp (disch := first | omega | assumption) only [go_sem, List.length_map, hq, ← List.map_drop]; (repeat ((first | refine hC1 _ (ws_used (.sub c0 0 x.p) (.sub 2 6 (.sub e j x.p)) u (q ++ [10]) hw2 _ (under_next2 (by omega)) (row_young2 (by omega))) (by simp (disch := first | omega | assumption) only [go_sem]) ?_); simp (disch := first | omega | assumption) only [go_sem])); refine hK ?_; clear hK hS hC hC1 K S C hf) | ((first | refine zk ?_ | refine zn ?_ | refine ze ?_); with_reducible (constructor; repeat constructor); try refine zl ?_)))
          refine ⟨_, _, ?_, fun _ _ h => h, R.drop m, u ++ (q ++ [10]), [(.sub 0 0 x.p, .cells [.int .i64 0, .str [], .str []]), (.ty 67 (.sub c0 0 x.p), .cells [.ptr (.ty 67 (.sub c0 0 x.p)) 0, .sl (.ty 5 (.sub 2 6 (.sub (d + 1) 4 x.p))) 1 (u ++ (q ++ [10])).length]), ((.ty 5 (.sub 2 6 (.sub (d + 1) 4 x.p))), .arr 1 ((u ++ (q ++ [10])).map byA))], d + 1 + 1 + 1, rfl, by omega, hdl, by rw [htot]; simp, .inr ⟨by simp, d + 1, 4, by omega, by omega, rfl⟩, ?_⟩
          · exact hdm
          · first | rfl | (simp only [List.length_append, List.length_singleton, List.length_cons, List.length_nil, Nat.zero_add, ← Nat.add_assoc]; rfl)
  · have hR : R = [] := List.eq_nil_of_length_eq_zero (by omega)
    subst hR
    simp only [grp, runsT, List.append_nil] at htot
    subst htot
    rcases hM with ⟨rfl, rfl⟩ | ⟨hu0, e, j, he1, he2, rfl⟩
    · (repeat (first | (refine K_ifT rfl rfl ?_) | (refine K_ifF rfl rfl ?_) | (refine K_ev nmd [] hng (by kernel_rfl) fun hf C S K hC1 hC hS hK => ?_; simp (disch := first | omega | assumption) only [go_sem]; (repeat ((first | refine hC1 _ (string_nil (.sub c0 0 _) _) (by simp (disch := first | omega | assumption) only [go_sem]) ?_ | refine hC1 _ (told_x [] _) (by simp (disch := first | omega | assumption) only [go_sem]) ?_); simp (disch := first | omega | assumption) only [go_sem])); refine hK ?_; clear hK hS hC hC1 K S C hf) | ((first | refine zk ?_ | refine zn ?_ | refine ze ?_); with_reducible (constructor; repeat constructor); try refine zl ?_)))
      exact K_ret (done_plain (by simp (disch := first | omega | assumption) only [go_sem, Res.av, toldR, badR, usageR]))
    · have hup := List.length_pos_iff.2 hu0
      (repeat (first | (refine K_ifT rfl rfl ?_) | (refine K_ifF rfl rfl ?_) | (refine K_ev nmd [] hng (by kernel_rfl) fun hf C S K hC1 hC hS hK => ?_; simp (disch := first | omega | assumption) only [go_sem]; (repeat ((first | refine hC1 _ (string_ok (.sub c0 0 _) (.sub 2 6 (.sub e j x.p)) tot hup (by omega) _) (by simp (disch := first | omega | assumption) only [go_sem]) ?_ | refine hC1 _ (told_x tot _) (by simp (disch := first | omega | assumption) only [go_sem]) ?_); simp (disch := first | omega | assumption) only [go_sem])); refine hK ?_; clear hK hS hC hC1 K S C hf) | ((first | refine zk ?_ | refine zn ?_ | refine ze ?_); with_reducible (constructor; repeat constructor); try refine zl ?_)))
      exact K_ret (done_plain (by simp (disch := first | omega | assumption) only [go_sem, Res.av, toldR, badR, usageR]))
theorem uniq_bad (args : List Str) (h : ¬ args.length = 0 ∧ ¬ args = [[45, 99]]) (hal : args.length ≤ 4000000000) (t : Str) (p : Oid) :
    CallOK Tryz.prog 34 [.list 1 (args.map AV.str), .str t] (Oid.under p) ⟨[], .tuple [badR.av, .bool false], []⟩ := by
  have heq := fun p => equal_ok args [[45, 99]] hal p
  rw [decide_eq_false h.2] at heq
  simp only [List.map_cons, List.map_nil] at heq
  have hz0 : (0 < (args.length : Int)) = True := eq_true (by omega)
  refine fnOK (n := 61) (rs := [.cell 4 32, .tmp 5]) Tryz.func34 rfl rfl (by decide) rfl rfl rfl ?_; rintro x rfl hrd hng
  (repeat (first | (refine K_ifT rfl rfl ?_) | (refine K_ifF rfl rfl ?_) | (refine K_ev nmd [] hng (by kernel_rfl) fun hf C S K hC1 hC hS hK => ?_; simp (disch := first | omega | assumption) only [go_sem]; (repeat ((first | refine hC1 _ (heq _) (by simp (disch := first | omega | assumption) only [go_sem]) ?_); simp (disch := first | omega | assumption) only [go_sem])); refine hK ?_; clear hK hS hC hC1 K S C hf) | ((first | refine zk ?_ | refine zn ?_ | refine ze ?_); with_reducible (constructor; repeat constructor); try refine zl ?_)))
  refine K_ev nmd [(3, 16)] hng (by kernel_rfl) fun hf C S K hC1 hC hS hK => ?_; simp (disch := first | omega | assumption) only [go_sem, List.length_map, hz0, decide_true, decide_false, ne_eq, not_true_eq_false, not_false_eq_true]
  (repeat' (first | (refine evG_split (fun hv => ?_) (fun hv => ?_) <;> (try simp only [zb1, zb2, zb3, zb4, zb5] at hv) <;> simp (disch := first | omega | assumption) only [go_sem, hv, List.length_map, hz0, decide_true, decide_false, ne_eq, not_true_eq_false, not_false_eq_true]) | (refine hK ?_; clear hK hS hC hC1 K S C hf)))
  all_goals first | contradiction | skip
  (repeat (first | (refine K_ifT rfl rfl ?_) | (refine K_ifF rfl rfl ?_) | (refine K_ev nmd [] hng (by kernel_rfl) fun hf C S K hC1 hC hS hK => ?_; simp (disch := first | omega | assumption) only [go_sem]; (repeat ((first | refine hC1 _ (bad_x _) (by simp (disch := first | omega | assumption) only [go_sem]) ?_); simp (disch := first | omega | assumption) only [go_sem])); refine hK ?_; clear hK hS hC hC1 K S C hf) | ((first | refine zk ?_ | refine zn ?_ | refine ze ?_); with_reducible (constructor; repeat constructor); try refine zl ?_)))
  exact K_ret (done_plain (by simp (disch := first | omega | assumption) only [go_sem, Res.av, badR]))
end Go.Proofs.YtiaiggbimlbkfaaGreatDoor
