/- Filter: uniq of the reference. -/
import Derived.Test.YtiaiggbimlbkfaaGreatDoorQ17
set_option linter.unusedVariables false
set_option linter.unusedSimpArgs false
namespace Go.Proofs.YtiaiggbimlbkfaaGreatDoor
open Go Go.Ab
set_option maxRecDepth 20000
set_option maxHeartbeats 4000000
/-- n more of the first. -/
def addN (n : Nat) : List (Nat × Str) → List (Nat × Str)
  | [] => []
  | q :: g => (q.1 + n, q.2) :: g
theorem addN_addX (n m : Nat) (x : Str) (g : List (Nat × Str)) : addN n (addX m x g) = addX (m + n) x g := by
  cases g with
  | nil => rfl
  | cons q g =>
    by_cases he : q.2 = x
    · rw [addX, if_pos he, addX, if_pos he, addN, Nat.add_assoc]
    · rw [addX, if_neg he, addX, if_neg he, addN]
theorem addN_zero (g : List (Nat × Str)) : addN 0 g = g := by cases g <;> rfl
def UniqV (args : List Str) (cnt : Bool) : Prop := (args = [] ∧ cnt = false) ∨ (args = [[45, 99]] ∧ cnt = true)
theorem uniq_cases (args : List Str) : (∃ cnt, UniqV args cnt) ∨ (¬ args.length = 0 ∧ ¬ args = [[45, 99]]) := by
  by_cases h0 : args = []
  · exact .inl ⟨false, .inl ⟨h0, rfl⟩⟩
  · by_cases h1 : args = [[45, 99]]
    · exact .inl ⟨true, .inr ⟨h1, rfl⟩⟩
    · exact .inr ⟨fun e => h0 (List.eq_nil_of_length_eq_zero e), h1⟩
theorem str_drop_cons {l : List Str} {i : Nat} (h : i < l.length) : l.drop i = l.getD i default :: l.drop (i + 1) := by
  rw [List.drop_eq_getElem_cons h, List.getD_eq_getElem?_getD, List.getElem?_eq_getElem h]; rfl
theorem unique_ok (args : List Str) (cnt : Bool) (h : UniqV args cnt) (t : Str) (htl : t.length ≤ 4000000) (p : Oid) :
    CallOK Tryz.prog 45 [.list 1 (args.map AV.str), .str t] (Oid.under p) ⟨[], (toldR (runsT cnt (grp (linesL t)))).av, []⟩ := by
  have hjl := joinN_lines t
  have hjn := joinN_len (linesL t)
  have hrl := runsT_len cnt (linesL t)
  generalize hL : linesL t = L at hjl hjn hrl ⊢
  generalize hT : runsT cnt (grp L) = tot at hrl ⊢
  refine fnOK (n := 69) (rs := [.cell 4 32]) Tryz.func45 rfl rfl (by decide) rfl rfl rfl ?_; rintro x rfl hrd hng
  (try ((first | refine zk ?_ | refine zn ?_ | refine ze ?_); with_reducible (constructor; repeat constructor)); try refine zl ?_)
  refine K_ev nmd [] hng (by kernel_rfl) fun hf C S K hC1 hC hS hK => ?_; simp (disch := first | omega | assumption) only [go_sem]
  refine hK ?_; clear hK hS hC hC1 K S C hf
  (try ((first | refine zk ?_ | refine zn ?_ | refine ze ?_); with_reducible (constructor; repeat constructor)); try refine zl ?_)
  refine K_cut [0, 1, 4, 5] (fun s' => ∃ c : Nat, s' = ⟨[(0, .list 1 (args.map AV.str)), (1, .str t), (4, .ptr (.sub 0 0 x.p) 0), (5, .bool cnt)], Mem.of [(.sub 0 0 x.p, .cells [.int .i64 0, .str [], .str []])], c, []⟩) ?_ ?_
  · rcases h with ⟨rfl, rfl⟩ | ⟨rfl, rfl⟩
    · refine K_ev nmd [(3, 13)] hng (by kernel_rfl) fun hf C S K hC1 hC hS hK => ?_; simp (disch := first | omega | assumption) only [go_sem, decide_true, decide_false, ne_eq, not_true_eq_false, not_false_eq_true]
      (repeat' (first | (refine evG_split (fun hv => ?_) (fun hv => ?_) <;> (try simp only [zb1, zb2, zb3, zb4, zb5] at hv) <;> simp (disch := first | omega | assumption) only [go_sem, hv, decide_true, decide_false, ne_eq, not_true_eq_false, not_false_eq_true]) | (refine hK ?_; clear hK hS hC hC1 K S C hf)))
      all_goals first | contradiction | exact K_cutN ⟨_, rfl⟩
    · refine K_ev nmd [(3, 13)] hng (by kernel_rfl) fun hf C S K hC1 hC hS hK => ?_; simp (disch := first | omega | assumption) only [go_sem, decide_true, decide_false, ne_eq, not_true_eq_false, not_false_eq_true]
      (repeat' (first | (refine evG_split (fun hv => ?_) (fun hv => ?_) <;> (try simp only [zb1, zb2, zb3, zb4, zb5] at hv) <;> simp (disch := first | omega | assumption) only [go_sem, hv, decide_true, decide_false, ne_eq, not_true_eq_false, not_false_eq_true]) | (refine hK ?_; clear hK hS hC hC1 K S C hf)))
      all_goals first | contradiction | exact absurd rfl hv | exact K_cutN ⟨_, rfl⟩
  rintro s' ⟨c, rfl⟩
  (try ((first | refine zk ?_ | refine zn ?_ | refine ze ?_); with_reducible (constructor; repeat constructor)); try refine zl ?_)
  refine K_cut [1, 4, 5, 25] (fun s' => ∃ c : Nat, s' = ⟨[(1, .str t), (4, .ptr (.sub 0 0 x.p) 0), (5, .bool cnt), (25, .bool false)], Mem.of [(.sub 0 0 x.p, .cells [.int .i64 0, .str [], .str []])], c, []⟩) ?_ ?_
  · rcases h with ⟨rfl, rfl⟩ | ⟨rfl, rfl⟩
    · refine K_ev nmd [(3, 22)] hng (by kernel_rfl) fun hf C S K hC1 hC hS hK => ?_; simp (disch := first | omega | assumption) only [go_sem, decide_true, decide_false, ne_eq, not_true_eq_false, not_false_eq_true]
      (repeat' (first | (refine evG_split (fun hv => ?_) (fun hv => ?_) <;> (try simp only [zb1, zb2, zb3, zb4, zb5] at hv) <;> simp (disch := first | omega | assumption) only [go_sem, hv, decide_true, decide_false, ne_eq, not_true_eq_false, not_false_eq_true]) | (refine hK ?_; clear hK hS hC hC1 K S C hf)))
      all_goals first | contradiction | exact K_cutN ⟨_, rfl⟩
    · refine K_ev nmd [(3, 22)] hng (by kernel_rfl) fun hf C S K hC1 hC hS hK => ?_; simp (disch := first | omega | assumption) only [go_sem, decide_true, decide_false, ne_eq, not_true_eq_false, not_false_eq_true]
      (repeat' (first | (refine evG_split (fun hv => ?_) (fun hv => ?_) <;> (try simp only [zb1, zb2, zb3, zb4, zb5] at hv) <;> simp (disch := first | omega | assumption) only [go_sem, hv, decide_true, decide_false, ne_eq, not_true_eq_false, not_false_eq_true]) | (refine hK ?_; clear hK hS hC hC1 K S C hf)))
      all_goals first | contradiction | exact absurd rfl hv | exact K_cutN ⟨_, rfl⟩
  rintro s' ⟨c, rfl⟩
  have hlr := fun p => linesR_ok t (by omega) p
  rw [hL] at hlr
  (repeat (first | (refine K_ifT rfl rfl ?_) | (refine K_ifF rfl rfl ?_) | (refine K_ev nmd [] hng (by kernel_rfl) fun hf C S K hC1 hC hS hK => ?_; simp (disch := first | omega | assumption) only [go_sem]; (repeat ((first | refine hC1 _ (hlr _) (by simp (disch := first | omega | assumption) only [go_sem]) ?_); simp (disch := first | omega | assumption) only [go_sem])); refine hK ?_; clear hK hS hC hC1 K S C hf) | ((first | refine zk ?_ | refine zn ?_ | refine ze ?_); with_reducible (constructor; repeat constructor); try refine zl ?_)))
  refine K_loop [4, 5, 6, 7, 8, 9] (fun k s' => ∃ (i nn c : Nat) (out : Str), k = L.length - i ∧ i ≤ L.length ∧ nn ≤ i ∧ tot = out ++ runsT cnt (addN nn (grp (L.drop i))) ∧
    s' = ⟨[(4, .ptr (.sub 0 0 x.p) 0), (5, .bool cnt), (6, .list 1 (L.map AV.str)), (7, .str out), (8, .int .i64 (nn : Int)), (9, .int .i64 i)], Mem.of [(.sub 0 0 x.p, .cells [.int .i64 0, .str [], .str []])], c, []⟩) _ ⟨0, 0, _, [], rfl, Nat.zero_le _, Nat.le_refl _, by rw [addN_zero, List.drop_zero, hT]; rfl, rfl⟩ ?_
  rintro k s' ⟨i, nn, c, out, rfl, hi, hnn, htot, rfl⟩
  (repeat (first | (refine K_ifT rfl rfl ?_) | (refine K_ifF rfl rfl ?_) | (refine K_ev nmd [] hng (by kernel_rfl) fun hf C S K hC1 hC hS hK => ?_; simp (disch := first | omega | assumption) only [go_sem, List.length_map]; (repeat ((first | refine hC1 _ () (by simp (disch := first | omega | assumption) only [go_sem]) ?_); simp (disch := first | omega | assumption) only [go_sem])); refine hK ?_; clear hK hS hC hC1 K S C hf) | ((first | refine zk ?_ | refine zn ?_ | refine ze ?_); with_reducible (constructor; repeat constructor); try refine zl ?_)))
  refine K_ifd rfl rfl (fun hb => ?_) (fun hb => ?_)
  · have hlt : i < L.length := by omega
    have hdr := str_drop_cons hlt
    rw [hdr, grp, addN_addX] at htot
    generalize hq : L.getD i default = q at hdr htot
    (repeat (first | (refine K_ifT rfl rfl ?_) | (refine K_ifF rfl rfl ?_) | (refine K_ev nmd [] hng (by kernel_rfl) fun hf C S K hC1 hC hS hK => ?_; simp (disch := first | omega | assumption) only [go_sem]; refine hK ?_; clear hK hS hC hC1 K S C hf) | ((first | refine zk ?_ | refine zn ?_ | refine ze ?_); with_reducible (constructor; repeat constructor); try refine zl ?_)))
    refine K_cut [4, 5, 6, 7, 8, 9, 53] (fun s' => ∃ (b : Bool) (c' : Nat), s' = ⟨[(4, .ptr (.sub 0 0 x.p) 0), (5, .bool cnt), (6, .list 1 (L.map AV.str)), (7, .str out), (8, .int .i64 ((nn : Int) + 1)), (9, .int .i64 i), (53, .bool b)], Mem.of [(.sub 0 0 x.p, .cells [.int .i64 0, .str [], .str []])], c', []⟩ ∧ (b = true ↔ (i + 1 < L.length ∧ L.getD (i + 1) default = q))) ?_ ?_
    · have hi1 : ((i : Int) + 1).toNat = i + 1 := by omega
      refine K_evd nmd [(5, 42)] [] mixed hng (by kernel_rfl) [4, 5, 6, 7, 8, 9, 53] fun hf C S K hC hS hK => ?_; simp (disch := first | omega | assumption) only [go_sem, List.length_map, hi1, hq, decide_true, decide_false, ne_eq, not_true_eq_false, not_false_eq_true]
      (repeat' (first | (refine evG_split (fun hv => ?_) (fun hv => ?_) <;> (try simp only [zb1, zb2, zb3, zb4, zb5] at hv) <;> simp (disch := first | omega | assumption) only [go_sem, hv, List.length_map, hi1, hq, decide_true, decide_false, ne_eq, not_true_eq_false, not_false_eq_true]) | ((first | refine hK (dynN_quiet rfl) ?_ | refine hK (by simp (disch := first | omega | assumption) only [go_sem, List.reverse_cons, List.reverse_nil, ne_eq, not_false_eq_true, implies_true]) ?_); clear hK hS hC K S C hf)))
      all_goals first
        | contradiction
        | exact K_cutN ⟨_, _, rfl, by simp only [decide_eq_true_eq]; exact ⟨fun h => ⟨by omega, h⟩, fun h => h.2⟩⟩
        | exact K_cutN ⟨_, _, rfl, by simp only [Bool.false_eq_true, false_iff]; omega⟩
    rintro s' ⟨b, c', rfl, hiff⟩
    refine K_if rfl rfl (fun hb => ?_) (fun hb => ?_)
    · obtain ⟨h1, h2⟩ := hiff.1 hb
      have hd2 := str_drop_cons h1
      rw [h2] at hd2
      (repeat (first | (refine K_ifT rfl rfl ?_) | (refine K_ifF rfl rfl ?_) | (refine K_ev nmd [] hng (by kernel_rfl) fun hf C S K hC1 hC hS hK => ?_; simp (disch := first | omega | assumption) only [go_sem]; refine hK ?_; clear hK hS hC hC1 K S C hf) | ((first | refine zk ?_ | refine zn ?_ | refine ze ?_); with_reducible (constructor; repeat constructor); try refine zl ?_)))
      refine ⟨_, _, ?_, fun _ _ h => h, i + 1, nn + 1, c' + 1, out, rfl, by omega, by omega, ?_, ?_⟩
      · omega
      · rw [htot, hd2, grp, addX_add, addN_addX]; congr 3
      · rfl
    · have hne : ∀ y r, L.drop (i + 1) = y :: r → ¬ y = q := fun y r hy e => by
        have h1 : i + 1 < L.length := by
          have := congrArg List.length hy
          rw [List.length_drop, List.length_cons] at this; omega
        rw [str_drop_cons h1, List.cons.injEq] at hy
        rw [hiff.2 ⟨h1, by rw [hy.1, e]⟩] at hb; cases hb
      rw [addX_new hne] at htot
      have hlen := congrArg List.length htot
      cases cnt with
      | true =>
        simp only [runsT, if_true] at htot hlen
        simp only [List.length_append, List.length_singleton] at hlen
        have hc1 : ((nn : Int) + 1) = ((1 + nn : Nat) : Int) := by omega
        rw [hc1]
        (repeat (first | (refine K_ifT rfl rfl ?_) | (refine K_ifF rfl rfl ?_) | (refine K_ev nmd [] hng (by kernel_rfl) fun hf C S K hC1 hC hS hK => ?_; simp (disch := first | omega | assumption) only [go_sem, List.length_map, hq]; (repeat ((first | refine hC1 _ (digits13_ok (1 + nn) (by omega) _) (by simp (disch := first | omega | assumption) only [go_sem]) ?_); simp (disch := first | omega | assumption) only [go_sem])); refine hK ?_; clear hK hS hC hC1 K S C hf) | ((first | refine zk ?_ | refine zn ?_ | refine ze ?_); with_reducible (constructor; repeat constructor); try refine zl ?_)))
        refine ⟨_, _, ?_, fun _ _ h => h, i + 1, 0, c' + 1 + 1 + 1 + 1 + 1, out ++ Lib.decDigits (1 + nn) ++ [32] ++ q ++ [10], rfl, by omega, by omega, ?_, ?_⟩
        · omega
        · rw [addN_zero, htot]; simp
        · rfl
      | false =>
        simp only [runsT, Bool.false_eq_true, if_false, List.nil_append] at htot hlen
        simp only [List.length_append, List.length_singleton] at hlen
        (repeat (first | (refine K_ifT rfl rfl ?_) | (refine K_ifF rfl rfl ?_) | (refine K_ev nmd [] hng (by kernel_rfl) fun hf C S K hC1 hC hS hK => ?_; simp (disch := first | omega | assumption) only [go_sem, List.length_map, hq]; (repeat ((first | refine hC1 _ () (by simp (disch := first | omega | assumption) only [go_sem]) ?_); simp (disch := first | omega | assumption) only [go_sem])); refine hK ?_; clear hK hS hC hC1 K S C hf) | ((first | refine zk ?_ | refine zn ?_ | refine ze ?_); with_reducible (constructor; repeat constructor); try refine zl ?_)))
        refine ⟨_, _, ?_, fun _ _ h => h, i + 1, 0, c' + 1 + 1 + 1 + 1, out ++ q ++ [10], rfl, by omega, by omega, ?_, ?_⟩
        · omega
        · rw [addN_zero, htot]; simp
        · rfl
  · obtain rfl : i = L.length := by omega
    rw [List.drop_length] at htot
    simp only [grp, addN, runsT, List.append_nil] at htot
    subst htot
    (repeat (first | (refine K_ifT rfl rfl ?_) | (refine K_ifF rfl rfl ?_) | (refine K_ev nmd [] hng (by kernel_rfl) fun hf C S K hC1 hC hS hK => ?_; simp (disch := first | omega | assumption) only [go_sem]; refine hK ?_; clear hK hS hC hC1 K S C hf) | ((first | refine zk ?_ | refine zn ?_ | refine ze ?_); with_reducible (constructor; repeat constructor); try refine zl ?_)))
    exact K_ret (done_plain (by simp (disch := first | omega | assumption) only [go_sem, Res.av, toldR, badR, usageR]))
theorem unique_bad (args : List Str) (h : ¬ args.length = 0 ∧ ¬ args = [[45, 99]]) (t : Str) (p : Oid) :
    CallOK Tryz.prog 45 [.list 1 (args.map AV.str), .str t] (Oid.under p) ⟨[], (usageR [117, 110, 105, 113]).av, []⟩ := by
  have hu := fun p => usageR_ok [117, 110, 105, 113] (by decide) p
  simp only [Res.av, usageR] at hu
  have hz0 : (0 < (args.length : Int)) = True := eq_true (by omega)
  refine fnOK (n := 69) (rs := [.cell 4 32]) Tryz.func45 rfl rfl (by decide) rfl rfl rfl ?_; rintro x rfl hrd hng
  (try ((first | refine zk ?_ | refine zn ?_ | refine ze ?_); with_reducible (constructor; repeat constructor)); try refine zl ?_)
  refine K_ev nmd [] hng (by kernel_rfl) fun hf C S K hC1 hC hS hK => ?_; simp (disch := first | omega | assumption) only [go_sem]
  refine hK ?_; clear hK hS hC hC1 K S C hf
  (try ((first | refine zk ?_ | refine zn ?_ | refine ze ?_); with_reducible (constructor; repeat constructor)); try refine zl ?_)
  refine K_cut [0, 1, 4, 5] (fun s' => ∃ c : Nat, s' = ⟨[(0, .list 1 (args.map AV.str)), (1, .str t), (4, .ptr (.sub 0 0 x.p) 0), (5, .bool false)], Mem.of [(.sub 0 0 x.p, .cells [.int .i64 0, .str [], .str []])], c, []⟩) ?_ ?_
  · by_cases h1 : args.length = 1
    · match args, h1, h with
      | [a], _, h =>
        have ha : (a = [45, 99]) = False := eq_false fun e => h.2 (by rw [e])
        refine K_ev nmd [(3, 13)] hng (by kernel_rfl) fun hf C S K hC1 hC hS hK => ?_; simp (disch := first | omega | assumption) only [go_sem, ha, decide_true, decide_false, ne_eq, not_true_eq_false, not_false_eq_true]
        (repeat' (first | (refine evG_split (fun hv => ?_) (fun hv => ?_) <;> (try simp only [zb1, zb2, zb3, zb4, zb5] at hv) <;> simp (disch := first | omega | assumption) only [go_sem, hv, ha, decide_true, decide_false, ne_eq, not_true_eq_false, not_false_eq_true]) | (refine hK ?_; clear hK hS hC hC1 K S C hf)))
        all_goals first | contradiction | exact absurd rfl hv | exact K_cutN ⟨_, rfl⟩
    · have hz1 : ((args.length : Int) = 1) = False := eq_false (by omega)
      refine K_ev nmd [(3, 13)] hng (by kernel_rfl) fun hf C S K hC1 hC hS hK => ?_; simp (disch := first | omega | assumption) only [go_sem, List.length_map, hz1, decide_true, decide_false, ne_eq, not_true_eq_false, not_false_eq_true]
      (repeat' (first | (refine evG_split (fun hv => ?_) (fun hv => ?_) <;> (try simp only [zb1, zb2, zb3, zb4, zb5] at hv) <;> simp (disch := first | omega | assumption) only [go_sem, hv, List.length_map, hz1, decide_true, decide_false, ne_eq, not_true_eq_false, not_false_eq_true]) | (refine hK ?_; clear hK hS hC hC1 K S C hf)))
      all_goals first | contradiction | exact absurd rfl hv | exact K_cutN ⟨_, rfl⟩
  rintro s' ⟨c, rfl⟩
  (try ((first | refine zk ?_ | refine zn ?_ | refine ze ?_); with_reducible (constructor; repeat constructor)); try refine zl ?_)
  refine K_ev nmd [(3, 22)] hng (by kernel_rfl) fun hf C S K hC1 hC hS hK => ?_; simp (disch := first | omega | assumption) only [go_sem, List.length_map, hz0, decide_true, decide_false, ne_eq, not_true_eq_false, not_false_eq_true]
  (repeat' (first | (refine evG_split (fun hv => ?_) (fun hv => ?_) <;> (try simp only [zb1, zb2, zb3, zb4, zb5] at hv) <;> simp (disch := first | omega | assumption) only [go_sem, hv, List.length_map, hz0, decide_true, decide_false, ne_eq, not_true_eq_false, not_false_eq_true]) | (refine hK ?_; clear hK hS hC hC1 K S C hf)))
  all_goals first | contradiction | skip
  (repeat (first | (refine K_ifT rfl rfl ?_) | (refine K_ifF rfl rfl ?_) | (refine K_ev nmd [] hng (by kernel_rfl) fun hf C S K hC1 hC hS hK => ?_; simp (disch := first | omega | assumption) only [go_sem]; (repeat ((first | refine hC1 _ (hu _) (by simp (disch := first | omega | assumption) only [go_sem]) ?_); simp (disch := first | omega | assumption) only [go_sem])); refine hK ?_; clear hK hS hC hC1 K S C hf) | ((first | refine zk ?_ | refine zn ?_ | refine ze ?_); with_reducible (constructor; repeat constructor); try refine zl ?_)))
  exact K_ret (done_plain (by simp (disch := first | omega | assumption) only [go_sem, Res.av, toldR, badR, usageR]))
end Go.Proofs.YtiaiggbimlbkfaaGreatDoor
