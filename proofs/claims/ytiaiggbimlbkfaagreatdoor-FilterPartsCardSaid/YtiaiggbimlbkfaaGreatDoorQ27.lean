/- Filter: sort of the reference. -/
import Derived.Test.YtiaiggbimlbkfaaGreatDoorQ18
import Derived.Test.YtiaiggbimlbkfaaGreatDoorQL2
set_option linter.unusedVariables false
set_option linter.unusedSimpArgs false
namespace Go.Proofs.YtiaiggbimlbkfaaGreatDoor
open Go Go.Ab
set_option maxRecDepth 20000
set_option maxHeartbeats 4000000
theorem any_take_succ {q : Str → Bool} {l : List Str} {i : Nat} (h : i < l.length) : (l.take (i + 1)).any q = ((l.take i).any q || q (l.getD i default)) := by
  rw [List.take_add_one, List.any_append, List.getElem?_eq_getElem h, List.getD_eq_getElem?_getD, List.getElem?_eq_getElem h]
  simp
theorem any_hit {q : Str → Bool} {l : List Str} {i : Nat} (h : i < l.length) (hq : q (l.getD i default) = true) : l.any q = true := by
  rw [List.any_eq_true]
  refine ⟨_, ?_, hq⟩
  rw [List.getD_eq_getElem?_getD, List.getElem?_eq_getElem h]
  exact List.getElem_mem _
theorem sortRow_len (args : List Str) (t : Str) : (joinN (sortRow args t)).length ≤ t.length + 1 := by
  have hcs := compact_sub (sortS (linesL t))
  have hjl : ∀ r : List Str, r.Sublist (sortS (linesL t)) → (joinN r).length ≤ t.length + 1 := fun r hr => by
    have h1 := joinN_sub hr
    have h2 := joinN_perm (sortS_perm (linesL t))
    have h3 := joinN_lines t
    omega
  have hjr : ∀ r : List Str, r.Sublist (sortS (linesL t)) → (joinN r.reverse).length ≤ t.length + 1 := fun r hr => by
    rw [joinN_perm (List.reverse_perm r)]; exact hjl r hr
  unfold sortRow
  split
  · split
    · exact hjr _ hcs
    · exact hjr _ (List.Sublist.refl _)
  · split
    · exact hjl _ hcs
    · exact hjl _ (List.Sublist.refl _)
theorem kI_go {rv : Bool} {x : Str} {o : List Str} {k : Nat} (h : k < o.length) (hp : pB rv x (o.getD k default) = true) : k + kI rv x (o.drop k) = (k + 1) + kI rv x (o.drop (k + 1)) := by
  rw [str_drop_cons h]
  unfold kI
  rw [List.takeWhile_cons, if_pos hp, List.length_cons]; omega
theorem kI_stop {rv : Bool} {x : Str} {o : List Str} {k : Nat} (h : ¬ (k < o.length ∧ pB rv x (o.getD k default) = true)) : kI rv x (o.drop k) = 0 := by
  by_cases hk : k < o.length
  · rw [str_drop_cons hk]
    unfold kI
    rw [List.takeWhile_cons, if_neg (fun hp => h ⟨hk, hp⟩)]; rfl
  · rw [List.drop_eq_nil_of_le (by omega)]; rfl
theorem ins_len (rv on : Bool) (x : Str) (o : List Str) : (ins rv on x o).length ≤ o.length + 1 := by
  unfold ins
  split
  · omega
  · simp only [List.length_append, List.length_take, List.length_cons, List.length_drop]; omega
theorem pB_lt (rv : Bool) (x y : Str) : pB rv x y = ((ltS y x != rv) || decide (y = x)) := by
  unfold pB
  rw [show ltS y x = decide (y < x) from Go.Proofs.bytesLess_eq y x]
theorem sortedRef_ok (args : List Str) (hal : args.length ≤ 4000000) (t : Str) (htl : t.length ≤ 4000000) (p : Oid) :
    CallOK Tryz.prog 44 [.list 1 (args.map AV.str), .str t] (Oid.under p) ⟨[], (if args.any oddS = true then usageR [115, 111, 114, 116] else toldR (joinN (sortRow args t))).av, []⟩ := by
  have hu := fun p => usageR_ok [115, 111, 114, 116] (by decide) p
  simp only [Res.av, usageR] at hu
  have hjl := joinN_lines t
  have hjn := joinN_len (linesL t)
  have hsl := sortRow_len args t
  refine fnOK (n := 103) (rs := [.cell 4 32]) Tryz.func44 rfl rfl (by decide) rfl rfl rfl ?_; rintro x rfl hrd hng
  (repeat (first | (refine K_ifT rfl rfl ?_) | (refine K_ifF rfl rfl ?_) | (refine K_ev nmd [] hng (by kernel_rfl) fun hf C S K hC1 hC hS hK => ?_; simp (disch := first | omega | assumption) only [go_sem]; refine hK ?_; clear hK hS hC hC1 K S C hf) | ((first | refine zk ?_ | refine zn ?_ | refine ze ?_); with_reducible (constructor; repeat constructor); try refine zl ?_)))
  refine K_loop [0, 1, 4, 5, 6, 7] (fun k s' => ∃ i c : Nat, k = args.length - i ∧ i ≤ args.length ∧ (args.take i).any oddS = false ∧
    s' = ⟨[(0, .list 1 (args.map AV.str)), (1, .str t), (4, .ptr (.sub 0 0 x.p) 0), (5, .bool (hasR (args.take i))), (6, .bool (hasU (args.take i))), (7, .int .i64 i)], Mem.of [(.sub 0 0 x.p, .cells [.int .i64 0, .str [], .str []])], c, []⟩) _ ⟨0, _, rfl, Nat.zero_le _, rfl, rfl⟩ ?_
  rintro k s' ⟨i, c, rfl, hi, hno, rfl⟩
  (repeat (first | (refine K_ifT rfl rfl ?_) | (refine K_ifF rfl rfl ?_) | (refine K_ev nmd [] hng (by kernel_rfl) fun hf C S K hC1 hC hS hK => ?_; simp (disch := first | omega | assumption) only [go_sem, List.length_map]; (repeat ((first | refine hC1 _ () (by simp (disch := first | omega | assumption) only [go_sem]) ?_); simp (disch := first | omega | assumption) only [go_sem])); refine hK ?_; clear hK hS hC hC1 K S C hf) | ((first | refine zk ?_ | refine zn ?_ | refine ze ?_); with_reducible (constructor; repeat constructor); try refine zl ?_)))
  refine K_ifd rfl rfl (fun hb => ?_) (fun hb => ?_)
  · have hlt : i < args.length := by omega
    have hR := any_take_succ (q := fun s => decide ([45, 114] = s)) hlt
    have hU := any_take_succ (q := fun s => decide ([45, 117] = s)) hlt
    have hO := any_take_succ (q := oddS) hlt
    have hH := any_hit (q := oddS) hlt
    change hasR (args.take (i + 1)) = (hasR (args.take i) || _) at hR
    change hasU (args.take (i + 1)) = (hasU (args.take i) || _) at hU
    generalize hq : args.getD i default = q at hR hU hO hH
    (repeat (first | (refine K_ifT rfl rfl ?_) | (refine K_ifF rfl rfl ?_) | (refine K_ev nmd [] hng (by kernel_rfl) fun hf C S K hC1 hC hS hK => ?_; simp (disch := first | omega | assumption) only [go_sem, List.length_map, hq]; (repeat ((first | refine hC1 _ () (by simp (disch := first | omega | assumption) only [go_sem]) ?_); simp (disch := first | omega | assumption) only [go_sem])); refine hK ?_; clear hK hS hC hC1 K S C hf) | ((first | refine zk ?_ | refine zn ?_ | refine ze ?_); with_reducible (constructor; repeat constructor); try refine zl ?_)))
    refine K_ifd rfl rfl (fun hb => ?_) (fun hb => ?_)
    · subst hb
      rw [decide_eq_true rfl, Bool.or_true] at hR
      rw [decide_eq_false (by decide), Bool.or_false] at hU
      rw [hno, show oddS [45, 114] = false by decide] at hO
      (repeat (first | (refine K_ifT rfl rfl ?_) | (refine K_ifF rfl rfl ?_) | (refine K_ev nmd [] hng (by kernel_rfl) fun hf C S K hC1 hC hS hK => ?_; simp (disch := first | omega | assumption) only [go_sem]; refine hK ?_; clear hK hS hC hC1 K S C hf) | ((first | refine zk ?_ | refine zn ?_ | refine ze ?_); with_reducible (constructor; repeat constructor); try refine zl ?_)))
      refine ⟨_, _, ?_, fun _ _ h => h, i + 1, c + 1 + 1 + 1 + 1 + 1, rfl, by omega, hO, ?_⟩
      · omega
      · rw [hR, hU]; rfl
    · have hb1 := hb
      (repeat (first | (refine K_ifT rfl rfl ?_) | (refine K_ifF rfl rfl ?_) | (refine K_ev nmd [] hng (by kernel_rfl) fun hf C S K hC1 hC hS hK => ?_; simp (disch := first | omega | assumption) only [go_sem]; refine hK ?_; clear hK hS hC hC1 K S C hf) | ((first | refine zk ?_ | refine zn ?_ | refine ze ?_); with_reducible (constructor; repeat constructor); try refine zl ?_)))
      refine K_ifd rfl rfl (fun hb => ?_) (fun hb => ?_)
      · subst hb
        rw [decide_eq_true rfl, Bool.or_true] at hU
        rw [decide_eq_false (by decide), Bool.or_false] at hR
        rw [hno, show oddS [45, 117] = false by decide] at hO
        (repeat (first | (refine K_ifT rfl rfl ?_) | (refine K_ifF rfl rfl ?_) | (refine K_ev nmd [] hng (by kernel_rfl) fun hf C S K hC1 hC hS hK => ?_; simp (disch := first | omega | assumption) only [go_sem]; refine hK ?_; clear hK hS hC hC1 K S C hf) | ((first | refine zk ?_ | refine zn ?_ | refine ze ?_); with_reducible (constructor; repeat constructor); try refine zl ?_)))
        refine ⟨_, _, ?_, fun _ _ h => h, i + 1, c + 1 + 1 + 1 + 1 + 1 + 1, rfl, by omega, hO, ?_⟩
        · omega
        · rw [hR, hU]; rfl
      · rw [if_pos (hH (by simp only [oddS, decide_eq_false hb1, decide_eq_false hb, Bool.not_false, Bool.and_self]))]
        (repeat (first | (refine K_ifT rfl rfl ?_) | (refine K_ifF rfl rfl ?_) | (refine K_ev nmd [] hng (by kernel_rfl) fun hf C S K hC1 hC hS hK => ?_; simp (disch := first | omega | assumption) only [go_sem]; (repeat ((first | refine hC1 _ (hu _) (by simp (disch := first | omega | assumption) only [go_sem]) ?_); simp (disch := first | omega | assumption) only [go_sem])); refine hK ?_; clear hK hS hC hC1 K S C hf) | ((first | refine zk ?_ | refine zn ?_ | refine ze ?_); with_reducible (constructor; repeat constructor); try refine zl ?_)))
        exact K_ret (done_plain (by simp (disch := first | omega | assumption) only [go_sem, Res.av, toldR, badR, usageR]))
  · obtain rfl : i = args.length := by omega
    rw [List.take_length] at hno
    rw [List.take_length, if_neg (by rw [hno]; exact Bool.false_ne_true)]
    have hrow : insAll (hasR args) (hasU args) (linesL t) = sortRow args t := by rw [insAll_row]; rfl
    generalize hT : sortRow args t = tot at hsl hrow ⊢
    generalize hasR args = rv at hrow ⊢
    generalize hasU args = on at hrow ⊢
    have hlr := fun p => linesR_ok t (by omega) p
    generalize hL : linesL t = L at hjl hjn hrow hlr
    (repeat (first | (refine K_ifT rfl rfl ?_) | (refine K_ifF rfl rfl ?_) | (refine K_ev nmd [] hng (by kernel_rfl) fun hf C S K hC1 hC hS hK => ?_; simp (disch := first | omega | assumption) only [go_sem]; (repeat ((first | refine hC1 _ (hlr _) (by simp (disch := first | omega | assumption) only [go_sem]) ?_); simp (disch := first | omega | assumption) only [go_sem])); refine hK ?_; clear hK hS hC hC1 K S C hf) | ((first | refine zk ?_ | refine zn ?_ | refine ze ?_); with_reducible (constructor; repeat constructor); try refine zl ?_)))
    refine K_void 9 1 rfl ?_
    simp (disch := first | omega | assumption) only [go_sem]
    refine K_freeze (.sub (c + 1 + 1 + 1 + 1) 0 x.p) 1 [] (by simp (disch := first | omega | assumption) only [go_sem]) ?_
    simp (disch := first | omega | assumption) only [go_sem]
    refine K_loop [4, 5, 6, 8, 9, 10] (fun k s' => ∃ (i c : Nat) (o : List Str), k = L.length - i ∧ i ≤ L.length ∧ o.length ≤ i ∧ (L.drop i).foldl (fun o x => ins rv on x o) o = tot ∧
      s' = ⟨[(4, .ptr (.sub 0 0 x.p) 0), (5, .bool rv), (6, .bool on), (8, .list 1 (L.map AV.str)), (9, .list 1 (o.map AV.str)), (10, .int .i64 i)], Mem.of [(.sub 0 0 x.p, .cells [.int .i64 0, .str [], .str []])], c, []⟩) _ ⟨0, _, [], rfl, Nat.zero_le _, Nat.le_refl _, hrow, rfl⟩ ?_
    rintro k s' ⟨i, c, o, rfl, hi, hol, hfold, rfl⟩
    (repeat (first | (refine K_ifT rfl rfl ?_) | (refine K_ifF rfl rfl ?_) | (refine K_ev nmd [] hng (by kernel_rfl) fun hf C S K hC1 hC hS hK => ?_; simp (disch := first | omega | assumption) only [go_sem, List.length_map]; (repeat ((first | refine hC1 _ () (by simp (disch := first | omega | assumption) only [go_sem]) ?_); simp (disch := first | omega | assumption) only [go_sem])); refine hK ?_; clear hK hS hC hC1 K S C hf) | ((first | refine zk ?_ | refine zn ?_ | refine ze ?_); with_reducible (constructor; repeat constructor); try refine zl ?_)))
    refine K_ifd rfl rfl (fun hb => ?_) (fun hb => ?_)
    · have hlt : i < L.length := by omega
      rw [str_drop_cons hlt, List.foldl_cons] at hfold
      have hil := ins_len rv on (L.getD i default) o
      generalize hq : L.getD i default = q at hfold hil
      (repeat (first | (refine K_ifT rfl rfl ?_) | (refine K_ifF rfl rfl ?_) | (refine K_ev nmd [] hng (by kernel_rfl) fun hf C S K hC1 hC hS hK => ?_; simp (disch := first | omega | assumption) only [go_sem]; refine hK ?_; clear hK hS hC hC1 K S C hf) | ((first | refine zk ?_ | refine zn ?_ | refine ze ?_); with_reducible (constructor; repeat constructor); try refine zl ?_)))
      refine K_loop [4, 5, 6, 8, 9, 10, 11] (fun k s' => ∃ m c : Nat, k = o.length - m ∧ m ≤ o.length ∧ kI rv q o = m + kI rv q (o.drop m) ∧
        s' = ⟨[(4, .ptr (.sub 0 0 x.p) 0), (5, .bool rv), (6, .bool on), (8, .list 1 (L.map AV.str)), (9, .list 1 (o.map AV.str)), (10, .int .i64 i), (11, .int .i64 (m : Int))], Mem.of [(.sub 0 0 x.p, .cells [.int .i64 0, .str [], .str []])], c, []⟩) _ ⟨0, _, rfl, Nat.zero_le _, by rw [List.drop_zero, Nat.zero_add], rfl⟩ ?_
      rintro k s' ⟨m, c, rfl, hm, hk, rfl⟩
      generalize hy : o.getD m default = y
      (try ((first | refine zk ?_ | refine zn ?_ | refine ze ?_); with_reducible (constructor; repeat constructor)); try refine zl ?_)
      refine K_cut [4, 5, 6, 8, 9, 10, 11, 63] (fun s' => ∃ (b : Bool) (d : Nat), s' = ⟨[(4, .ptr (.sub 0 0 x.p) 0), (5, .bool rv), (6, .bool on), (8, .list 1 (L.map AV.str)), (9, .list 1 (o.map AV.str)), (10, .int .i64 i), (11, .int .i64 (m : Int)), (63, .bool b)], Mem.of [(.sub 0 0 x.p, .cells [.int .i64 0, .str [], .str []])], d, []⟩ ∧ (b = true ↔ (m < o.length ∧ pB rv q y = true))) ?_ ?_
      · refine K_evd nmd [(4, 40), (16, 52)] [] mixed hng (by kernel_rfl) [4, 5, 6, 8, 9, 10, 11, 63] fun hf C S K hC hS hK => ?_; simp (disch := first | omega | assumption) only [go_sem, List.length_map, hq, hy, decide_true, decide_false, ne_eq, not_true_eq_false, not_false_eq_true]
        (repeat' (first | (refine evG_split (fun hv => ?_) (fun hv => ?_) <;> (try simp only [zb1, zb2, zb3, zb4, zb5] at hv) <;> simp (disch := first | omega | assumption) only [go_sem, hv, List.length_map, hq, hy, decide_true, decide_false, ne_eq, not_true_eq_false, not_false_eq_true]) | ((first | refine hK (dynN_quiet rfl) ?_ | refine hK (by simp (disch := first | omega | assumption) only [go_sem, List.reverse_cons, List.reverse_nil, ne_eq, not_false_eq_true, implies_true]) ?_); clear hK hS hC K S C hf)))
        · refine K_cutN ⟨_, _, rfl, ?_⟩
          rw [pB_lt, hv, Bool.false_or]
          exact ⟨fun h => ⟨by omega, h⟩, fun h => h.2⟩
        · refine K_cutN ⟨_, _, rfl, ?_⟩
          rw [pB_lt, hv, Bool.true_or]
          exact ⟨fun _ => ⟨by omega, rfl⟩, fun _ => rfl⟩
        · exact K_cutN ⟨_, _, rfl, by simp only [Bool.false_eq_true, false_iff]; omega⟩
      rintro s' ⟨b, d, rfl, hiff⟩
      refine K_if rfl rfl (fun hb => ?_) (fun hb => ?_)
      · obtain ⟨h1, h2⟩ := hiff.1 hb
        rw [← hy] at h2
        rw [kI_go h1 h2] at hk
        (repeat (first | (refine K_ifT rfl rfl ?_) | (refine K_ifF rfl rfl ?_) | (refine K_ev nmd [] hng (by kernel_rfl) fun hf C S K hC1 hC hS hK => ?_; simp (disch := first | omega | assumption) only [go_sem]; refine hK ?_; clear hK hS hC hC1 K S C hf) | ((first | refine zk ?_ | refine zn ?_ | refine ze ?_); with_reducible (constructor; repeat constructor); try refine zl ?_)))
        exact ⟨_, _, by omega, fun _ _ h => h, m + 1, d + 1, rfl, by omega, hk, rfl⟩
      · have hst : ¬ (m < o.length ∧ pB rv q (o.getD m default) = true) := fun h => by rw [hy] at h; rw [hiff.2 h] at hb; cases hb
        rw [kI_stop hst, Nat.add_zero] at hk
        have hm1 : ((m : Int) - 1).toNat = m - 1 := by omega
        generalize hz : o.getD (m - 1) default = z
        (try ((first | refine zk ?_ | refine zn ?_ | refine ze ?_); with_reducible (constructor; repeat constructor)); try refine zl ?_)
        refine K_cut [4, 5, 6, 8, 9, 10, 11, 82] (fun s' => ∃ (b : Bool) (d : Nat), s' = ⟨[(4, .ptr (.sub 0 0 x.p) 0), (5, .bool rv), (6, .bool on), (8, .list 1 (L.map AV.str)), (9, .list 1 (o.map AV.str)), (10, .int .i64 i), (11, .int .i64 (m : Int)), (82, .bool b)], Mem.of [(.sub 0 0 x.p, .cells [.int .i64 0, .str [], .str []])], d, []⟩ ∧ (b = true ↔ (on = true ∧ 0 < m ∧ z = q))) ?_ ?_
        · cases on with
          | true =>
            refine K_evd nmd [(1, 67), (5, 71)] [] mixed hng (by kernel_rfl) [4, 5, 6, 8, 9, 10, 11, 82] fun hf C S K hC hS hK => ?_; simp (disch := first | omega | assumption) only [go_sem, List.length_map, hq, hz, hm1, decide_true, decide_false, ne_eq, not_true_eq_false, not_false_eq_true]
            (repeat' (first | (refine evG_split (fun hv => ?_) (fun hv => ?_) <;> (try simp only [zb1, zb2, zb3, zb4, zb5] at hv) <;> simp (disch := first | omega | assumption) only [go_sem, hv, List.length_map, hq, hz, hm1, decide_true, decide_false, ne_eq, not_true_eq_false, not_false_eq_true]) | ((first | refine hK (dynN_quiet rfl) ?_ | refine hK (by simp (disch := first | omega | assumption) only [go_sem, List.reverse_cons, List.reverse_nil, ne_eq, not_false_eq_true, implies_true]) ?_); clear hK hS hC K S C hf)))
            · exact K_cutN ⟨_, _, rfl, by simp only [decide_eq_true_eq]; exact ⟨fun h => ⟨trivial, by omega, h⟩, fun h => h.2.2⟩⟩
            · exact K_cutN ⟨_, _, rfl, by simp only [Bool.false_eq_true, false_iff]; exact fun h => by omega⟩
          | false =>
            refine K_evd nmd [(1, 67), (5, 71)] [] mixed hng (by kernel_rfl) [4, 5, 6, 8, 9, 10, 11, 82] fun hf C S K hC hS hK => ?_; simp (disch := first | omega | assumption) only [go_sem, List.length_map, hq, hz, hm1, decide_true, decide_false, ne_eq, not_true_eq_false, not_false_eq_true]
            (repeat' (first | (refine evG_split (fun hv => ?_) (fun hv => ?_) <;> (try simp only [zb1, zb2, zb3, zb4, zb5] at hv) <;> simp (disch := first | omega | assumption) only [go_sem, hv, List.length_map, hq, hz, hm1, decide_true, decide_false, ne_eq, not_true_eq_false, not_false_eq_true]) | ((first | refine hK (dynN_quiet rfl) ?_ | refine hK (by simp (disch := first | omega | assumption) only [go_sem, List.reverse_cons, List.reverse_nil, ne_eq, not_false_eq_true, implies_true]) ?_); clear hK hS hC K S C hf)))
            all_goals exact K_cutN ⟨_, _, rfl, by simp only [Bool.false_eq_true, false_iff]; exact fun h => h.1⟩
        rintro s' ⟨b, d, rfl, hif⟩
        refine K_if rfl rfl (fun hb => ?_) (fun hb => ?_)
        · have hins : ins rv on q o = o := by
            have h3 := hif.1 hb
            rw [ins, hk, hz, if_pos h3]
          rw [hins] at hfold
          (repeat (first | (refine K_ifT rfl rfl ?_) | (refine K_ifF rfl rfl ?_) | (refine K_ev nmd [] hng (by kernel_rfl) fun hf C S K hC1 hC hS hK => ?_; simp (disch := first | omega | assumption) only [go_sem]; refine hK ?_; clear hK hS hC hC1 K S C hf) | ((first | refine zk ?_ | refine zn ?_ | refine ze ?_); with_reducible (constructor; repeat constructor); try refine zl ?_)))
          exact ⟨_, _, by omega, fun _ _ h => h, i + 1, _, o, rfl, by omega, by omega, hfold, rfl⟩
        · have hins : ins rv on q o = o.take m ++ q :: o.drop m := by
            rw [ins, hk, hz, if_neg (fun h => by rw [hif.2 h] at hb; cases hb)]
          rw [hins] at hfold hil
          (try ((first | refine zk ?_ | refine zn ?_ | refine ze ?_); with_reducible (constructor; repeat constructor)); try refine zl ?_)
          refine K_ev nmd [] hng (by kernel_rfl) fun hf C S K hC1 hC hS hK => ?_; simp (disch := first | omega | assumption) only [go_sem]
          refine hK ?_; clear hK hS hC hC1 K S C hf
          refine K_void 12 1 rfl ?_
          simp (disch := first | omega | assumption) only [go_sem]
          (try ((first | refine zk ?_ | refine zn ?_ | refine ze ?_); with_reducible (constructor; repeat constructor)); try refine zl ?_)
          refine K_ev nmd [] hng (by kernel_rfl) fun hf C S K hC1 hC hS hK => ?_; simp (disch := first | omega | assumption) only [go_sem, List.length_map, ← List.map_take]
          refine hK ?_; clear hK hS hC hC1 K S C hf
          (try ((first | refine zk ?_ | refine zn ?_ | refine ze ?_); with_reducible (constructor; repeat constructor)); try refine zl ?_)
          refine K_ev nmd [] hng (by kernel_rfl) fun hf C S K hC1 hC hS hK => ?_; simp (disch := first | omega | assumption) only [go_sem, List.length_map, hq]
          refine hK ?_; clear hK hS hC hC1 K S C hf
          (try ((first | refine zk ?_ | refine zn ?_ | refine ze ?_); with_reducible (constructor; repeat constructor)); try refine zl ?_)
          refine K_ev nmd [] hng (by kernel_rfl) fun hf C S K hC1 hC hS hK => ?_; simp (disch := first | omega | assumption) only [go_sem, List.length_map, ← List.map_drop]
          refine hK ?_; clear hK hS hC hC1 K S C hf
          have hrw : (o.take m).map AV.str ++ [AV.str q] ++ (o.drop m).map AV.str = (o.take m ++ q :: o.drop m).map AV.str := by simp
          rw [hrw]
          refine K_freeze (.sub (d + 1 + 1 + 1 + 1) 4 x.p) 1 ((o.take m ++ q :: o.drop m).map AV.str) (by simp (disch := first | omega | assumption) only [go_sem]) ?_
          have hlen : (0 + min m o.length + 1 + (o.length - m) = min m o.length + (o.length - m + 1)) = True := eq_true (by omega)
          simp (disch := first | omega | assumption) only [go_sem, List.length_append, List.length_map, List.length_take, List.length_cons, List.length_drop, hlen, if_true]
          (repeat (first | (refine K_ifT rfl rfl ?_) | (refine K_ifF rfl rfl ?_) | (refine K_ev nmd [] hng (by kernel_rfl) fun hf C S K hC1 hC hS hK => ?_; simp (disch := first | omega | assumption) only [go_sem]; refine hK ?_; clear hK hS hC hC1 K S C hf) | ((first | refine zk ?_ | refine zn ?_ | refine ze ?_); with_reducible (constructor; repeat constructor); try refine zl ?_)))
          exact ⟨_, _, by omega, fun _ _ h => h, i + 1, _, _, rfl, by omega, by omega, hfold, rfl⟩
    · obtain rfl : i = L.length := by omega
      rw [List.drop_length] at hfold
      change o = tot at hfold
      subst hfold
      (repeat (first | (refine K_ifT rfl rfl ?_) | (refine K_ifF rfl rfl ?_) | (refine K_ev nmd [] hng (by kernel_rfl) fun hf C S K hC1 hC hS hK => ?_; simp (disch := first | omega | assumption) only [go_sem]; (repeat ((first | refine hC1 _ (joinedR_ok o (by omega) _) (by simp (disch := first | omega | assumption) only [go_sem]) ?_); simp (disch := first | omega | assumption) only [go_sem])); refine hK ?_; clear hK hS hC hC1 K S C hf) | ((first | refine zk ?_ | refine zn ?_ | refine ze ?_); with_reducible (constructor; repeat constructor); try refine zl ?_)))
      exact K_ret (done_plain (by simp (disch := first | omega | assumption) only [go_sem, Res.av, toldR, badR, usageR]))
end Go.Proofs.YtiaiggbimlbkfaaGreatDoor
