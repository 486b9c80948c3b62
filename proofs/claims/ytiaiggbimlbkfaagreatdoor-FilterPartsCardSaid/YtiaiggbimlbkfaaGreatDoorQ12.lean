/- Filter: tr of the reference; what both refuse. -/
import Derived.Test.YtiaiggbimlbkfaaGreatDoorQ9
set_option linter.unusedVariables false
set_option linter.unusedSimpArgs false
namespace Go.Proofs.YtiaiggbimlbkfaaGreatDoor
open Go Go.Ab
set_option maxRecDepth 20000
set_option maxHeartbeats 4000000
theorem translate_ok (a b t f g : Str) (h : (a = [45, 100] ∧ f = setP b ∧ g = []) ∨ (¬ a = [45, 100] ∧ ¬ b = [] ∧ f = setP a ∧ g = setP b)) (hal : a.length ≤ 4000000) (hbl : b.length ≤ 4000000) (htl : t.length ≤ 4000000) (p : Oid) :
    CallOK Tryz.prog 47 [.list 1 [.str a, .str b], .str t] (Oid.under p) ⟨[], (toldR (t.flatMap (trB f g))).av, []⟩ := by
  have hla := setP_len a
  have hlb := setP_len b
  have hfl : f.length ≤ 4000000000 := by rcases h with ⟨_, rfl, _⟩ | ⟨_, _, rfl, _⟩ <;> omega
  have hgl : g.length ≤ 4000000000 := by
    rcases h with ⟨_, _, rfl⟩ | ⟨_, _, _, rfl⟩
    · exact Nat.zero_le _
    · omega
  refine fnOK (n := 75) (rs := [.cell 4 32]) Tryz.func47 rfl rfl (by decide) rfl rfl rfl ?_; rintro x rfl hrd hng
  (try ((first | refine zk ?_ | refine zn ?_ | refine ze ?_); with_reducible (constructor; repeat constructor)); try refine zl ?_)
  refine K_ev nmd [] hng (by kernel_rfl) fun hf C S K hC1 hC hS hK => ?_; simp (disch := first | omega | assumption) only [go_sem]
  refine hK ?_; clear hK hS hC hC1 K S C hf
  (try ((first | refine zk ?_ | refine zn ?_ | refine ze ?_); with_reducible (constructor; repeat constructor)); try refine zl ?_)
  refine K_cut [0, 1, 4, 24] (fun s' => s' = ⟨[(0, .list 1 [.str a, .str b]), (1, .str t), (4, .ptr (.sub 0 0 x.p) 0), (24, .bool false)], Mem.of [(.sub 0 0 x.p, .cells [.int .i64 0, .str [], .str []])], 2, []⟩) ?_ ?_
  · rcases h with ⟨rfl, _, _⟩ | ⟨ha, hb0, _, _⟩
    · refine K_ev nmd [(3, 13), (8, 18)] hng (by kernel_rfl) fun hf C S K hC1 hC hS hK => ?_; simp (disch := first | omega | assumption) only [go_sem]
      (repeat' (first | (refine evG_split (fun hv => ?_) (fun hv => ?_) <;> (try simp only [zb1, zb2, zb3, zb4, zb5] at hv) <;> simp (disch := first | omega | assumption) only [go_sem, hv, decide_true, decide_false, ne_eq, not_true_eq_false, not_false_eq_true]) | (refine hK ?_; clear hK hS hC hC1 K S C hf)))
      all_goals first | exact absurd rfl hv | exact K_cutN rfl
    · refine K_ev nmd [(3, 13), (8, 18)] hng (by kernel_rfl) fun hf C S K hC1 hC hS hK => ?_; simp (disch := first | omega | assumption) only [go_sem]
      (repeat' (first | (refine evG_split (fun hv => ?_) (fun hv => ?_) <;> (try simp only [zb1, zb2, zb3, zb4, zb5] at hv) <;> simp (disch := first | omega | assumption) only [go_sem, hv, ha, hb0, decide_true, decide_false, ne_eq, not_true_eq_false, not_false_eq_true]) | (refine hK ?_; clear hK hS hC hC1 K S C hf)))
      all_goals first | exact absurd rfl hv | exact K_cutN rfl
  rintro s' rfl
  (repeat (first | (refine K_ifT rfl rfl ?_) | (refine K_ifF rfl rfl ?_) | (refine K_ev nmd [] hng (by kernel_rfl) fun hf C S K hC1 hC hS hK => ?_; simp (disch := first | omega | assumption) only [go_sem]; refine hK ?_; clear hK hS hC hC1 K S C hf) | ((first | refine zk ?_ | refine zn ?_ | refine ze ?_); with_reducible (constructor; repeat constructor); try refine zl ?_)))
  refine K_evd nmd [] [(3, 6)] mixed hng (by kernel_rfl) [0, 1, 4, 5, 6] fun hf C S K hC hS hK => ?_; simp (disch := first | omega | assumption) only [go_sem]
  (repeat' (first | (refine evG_split (fun hv => ?_) (fun hv => ?_) <;> (try simp only [zb1, zb2, zb3, zb4, zb5] at hv) <;> simp (disch := first | omega | assumption) only [go_sem, hv]) | (refine hC _ (setR_ok a hal _) (by simp (disch := first | omega | assumption) only [go_sem]) ?_; simp (disch := first | omega | assumption) only [go_sem]) | (refine hC _ (setR_ok b hbl _) (by simp (disch := first | omega | assumption) only [go_sem]) ?_; simp (disch := first | omega | assumption) only [go_sem]) | ((first | refine hK (dynN_quiet rfl) ?_ | refine hK (by simp (disch := first | omega | assumption) only [go_sem, List.reverse_cons, List.reverse_nil, ne_eq, not_false_eq_true, implies_true]) ?_); clear hK hS hC K S C hf)))
  (repeat (first | (refine K_ifT rfl rfl ?_) | (refine K_ifF rfl rfl ?_) | (refine K_ev nmd [] hng (by kernel_rfl) fun hf C S K hC1 hC hS hK => ?_; simp (disch := first | omega | assumption) only [go_sem]; refine hK ?_; clear hK hS hC hC1 K S C hf) | ((first | refine zk ?_ | refine zn ?_ | refine ze ?_); with_reducible (constructor; repeat constructor); try refine zl ?_)))
  refine K_cut [1, 4, 5, 6] (fun s' => ∃ (c : Nat), s' = ⟨[(1, .str t), (4, .ptr (.sub 0 0 x.p) 0), (5, .str f), (6, .str g)], Mem.of [(.sub 0 0 x.p, .cells [.int .i64 0, .str [], .str []])], c, []⟩ ∧ 3 ≤ c) ?_ ?_
  · refine K_ifd rfl rfl (fun hb => ?_) (fun hb => ?_)
    · obtain ⟨_, rfl, rfl⟩ := h.resolve_right fun hh => hh.1 hb
      (repeat (first | (refine K_ifT rfl rfl ?_) | (refine K_ifF rfl rfl ?_) | (refine K_ev nmd [] hng (by kernel_rfl) fun hf C S K hC1 hC hS hK => ?_; simp (disch := first | omega | assumption) only [go_sem]; refine hK ?_; clear hK hS hC hC1 K S C hf) | ((first | refine zk ?_ | refine zn ?_ | refine ze ?_); with_reducible (constructor; repeat constructor); try refine zl ?_)))
      exact K_cutN ⟨_, rfl, by omega⟩
    · obtain ⟨_, hb0, rfl, rfl⟩ := h.resolve_left fun hh => hb hh.1
      (repeat (first | (refine K_ifT rfl rfl ?_) | (refine K_ifF rfl rfl ?_) | (refine K_ev nmd [] hng (by kernel_rfl) fun hf C S K hC1 hC hS hK => ?_; simp (disch := first | omega | assumption) only [go_sem]; refine hK ?_; clear hK hS hC hC1 K S C hf) | ((first | refine zk ?_ | refine zn ?_ | refine ze ?_); with_reducible (constructor; repeat constructor); try refine zl ?_)))
      exact K_cutN ⟨_, rfl, by omega⟩
  rintro s' ⟨c, rfl, hc3⟩
  (repeat (first | (refine K_ifT rfl rfl ?_) | (refine K_ifF rfl rfl ?_) | (refine K_ev nmd [] hng (by kernel_rfl) fun hf C S K hC1 hC hS hK => ?_; simp (disch := first | omega | assumption) only [go_sem]; refine hK ?_; clear hK hS hC hC1 K S C hf) | ((first | refine zk ?_ | refine zn ?_ | refine ze ?_); with_reducible (constructor; repeat constructor); try refine zl ?_)))
  refine K_loop [1, 4, 5, 6, 7, 8] (fun k s' => ∃ (i c : Nat) (done : Str) (v : AV) (M : List (Oid × AObj)), k = t.length - i ∧ i ≤ t.length ∧ 3 ≤ c ∧ done = (t.take i).flatMap (trB f g) ∧
      ((done = [] ∧ v = .nilSl ∧ M = [(.sub 0 0 x.p, .cells [.int .i64 0, .str [], .str []])]) ∨ (¬ done = [] ∧ ∃ d j, d < c ∧ v = .sl (.ty 5 (.sub d j x.p)) 1 done.length ∧ M = [(.sub 0 0 x.p, .cells [.int .i64 0, .str [], .str []]), (.ty 5 (.sub d j x.p), .arr 1 (done.map byA))])) ∧
      s' = ⟨[(1, .str t), (4, .ptr (.sub 0 0 x.p) 0), (5, .str f), (6, .str g), (7, v), (8, .int .i64 i)], Mem.of M, c, []⟩) _ ⟨0, _, [], .nilSl, _, rfl, Nat.zero_le _, by omega, rfl, .inl ⟨rfl, rfl, rfl⟩, rfl⟩ ?_
  rintro k s' ⟨i, c, done, v, M, rfl, hi, hc3, hdn, hM, rfl⟩
  have hdl : done.length ≤ 4000000 := by
    have := flat_len (trB_one f g) (t.take i)
    rw [← hdn, List.length_take] at this; omega
  (repeat (first | (refine K_ifT rfl rfl ?_) | (refine K_ifF rfl rfl ?_) | (refine K_ev nmd [] hng (by kernel_rfl) fun hf C S K hC1 hC hS hK => ?_; simp (disch := first | omega | assumption) only [go_sem]; refine hK ?_; clear hK hS hC hC1 K S C hf) | ((first | refine zk ?_ | refine zn ?_ | refine ze ?_); with_reducible (constructor; repeat constructor); try refine zl ?_)))
  refine K_ifd rfl rfl (fun hb => ?_) (fun hb => ?_)
  · have hlt : i < t.length := by omega
    have hft := flat_take (h := trB f g) hlt
    rw [← hdn] at hft
    have hkl := lastK_le f (t.getD i 0) f.length
    (repeat (first | (refine K_ifT rfl rfl ?_) | (refine K_ifF rfl rfl ?_) | (refine K_ev nmd [] hng (by kernel_rfl) fun hf C S K hC1 hC hS hK => ?_; simp (disch := first | omega | assumption) only [go_sem]; (repeat ((first | refine hC1 _ (last_ok f (t.getD i 0) hfl _) (by simp (disch := first | omega | assumption) only [go_sem]) ?_); simp (disch := first | omega | assumption) only [go_sem])); refine hK ?_; clear hK hS hC hC1 K S C hf) | ((first | refine zk ?_ | refine zn ?_ | refine ze ?_); with_reducible (constructor; repeat constructor); try refine zl ?_)))
    refine K_ifd rfl rfl (fun hb => ?_) (fun hb => ?_)
    · have htb : trB f g (t.getD i 0) = [t.getD i 0] := by rw [trB, if_pos hb]
      rw [htb] at hft
      rcases hM with ⟨rfl, rfl, rfl⟩ | ⟨hd0, d, j, hdc, rfl, rfl⟩
      · (repeat (first | (refine K_ifT rfl rfl ?_) | (refine K_ifF rfl rfl ?_) | (refine K_ev nmd [] hng (by kernel_rfl) fun hf C S K hC1 hC hS hK => ?_; simp (disch := first | omega | assumption) only [go_sem]; refine hK ?_; clear hK hS hC hC1 K S C hf) | ((first | refine zk ?_ | refine zn ?_ | refine ze ?_); with_reducible (constructor; repeat constructor); try refine zl ?_)))
        refine ⟨_, _, by omega, fun _ _ h => h, i + 1, c + 1 + 1 + 1 + 1 + 1, [] ++ [t.getD i 0], .sl (.ty 5 (.sub (c + 1 + 1 + 1) 5 x.p)) 1 ([] ++ [t.getD i 0]).length, [(.sub 0 0 x.p, .cells [.int .i64 0, .str [], .str []]), ((.ty 5 (.sub (c + 1 + 1 + 1) 5 x.p)), .arr 1 (([] ++ [t.getD i 0]).map byA))], rfl, by omega, by omega, hft.symm, .inr ⟨by simp, c + 1 + 1 + 1, 5, by omega, rfl, rfl⟩, ?_⟩
        first | rfl | (rw [List.map_append, List.length_append]; rfl)
      · (repeat (first | (refine K_ifT rfl rfl ?_) | (refine K_ifF rfl rfl ?_) | (refine K_ev nmd [] hng (by kernel_rfl) fun hf C S K hC1 hC hS hK => ?_; simp (disch := first | omega | assumption) only [go_sem]; refine hK ?_; clear hK hS hC hC1 K S C hf) | ((first | refine zk ?_ | refine zn ?_ | refine ze ?_); with_reducible (constructor; repeat constructor); try refine zl ?_)))
        refine ⟨_, _, by omega, fun _ _ h => h, i + 1, c + 1 + 1 + 1 + 1 + 1, done ++ [t.getD i 0], .sl (.ty 5 (.sub (c + 1 + 1 + 1) 5 x.p)) 1 (done ++ [t.getD i 0]).length, [(.sub 0 0 x.p, .cells [.int .i64 0, .str [], .str []]), ((.ty 5 (.sub (c + 1 + 1 + 1) 5 x.p)), .arr 1 ((done ++ [t.getD i 0]).map byA))], rfl, by omega, by omega, hft.symm, .inr ⟨by simp, c + 1 + 1 + 1, 5, by omega, rfl, rfl⟩, ?_⟩
        first | rfl | (rw [List.map_append, List.length_append]; rfl)
    · have hk0 := hb
      (repeat (first | (refine K_ifT rfl rfl ?_) | (refine K_ifF rfl rfl ?_) | (refine K_ev nmd [] hng (by kernel_rfl) fun hf C S K hC1 hC hS hK => ?_; simp (disch := first | omega | assumption) only [go_sem]; refine hK ?_; clear hK hS hC hC1 K S C hf) | ((first | refine zk ?_ | refine zn ?_ | refine ze ?_); with_reducible (constructor; repeat constructor); try refine zl ?_)))
      refine K_ifd rfl rfl (fun hb => ?_) (fun hb => ?_)
      · have htb : trB f g (t.getD i 0) = [g.getD (min (lastK f (t.getD i 0) f.length).toNat (g.length - 1)) 0] := by rw [trB, if_neg hk0, if_neg hb]
        rw [htb] at hft
        have hgp := List.length_pos_iff.2 hb
        generalize hkk : lastK f (t.getD i 0) f.length = kk at hk0 hft hkl
        have hmin : (if (g.length : Int) - 1 < kk then (g.length : Int) - 1 else kk).toNat = min kk.toNat (g.length - 1) := by split <;> omega
        rcases hM with ⟨rfl, rfl, rfl⟩ | ⟨hd0, d, j, hdc, rfl, rfl⟩
        · (repeat (first | (refine K_ifT rfl rfl ?_) | (refine K_ifF rfl rfl ?_) | (refine K_ev nmd [] hng (by kernel_rfl) fun hf C S K hC1 hC hS hK => ?_; simp (disch := first | omega | assumption) only [go_sem, hmin]; (repeat ((first | refine hC1 _ () (by simp (disch := first | omega | assumption) only [go_sem]) ?_); simp (disch := first | omega | assumption) only [go_sem])); refine hK ?_; clear hK hS hC hC1 K S C hf) | ((first | refine zk ?_ | refine zn ?_ | refine ze ?_); with_reducible (constructor; repeat constructor); try refine zl ?_)))
          refine ⟨_, _, by omega, fun _ _ h => h, i + 1, c + 1 + 1 + 1 + 1 + 1 + 1, [] ++ [g.getD (min kk.toNat (g.length - 1)) 0], .sl (.ty 5 (.sub (c + 1 + 1 + 1 + 1) 9 x.p)) 1 ([] ++ [g.getD (min kk.toNat (g.length - 1)) 0]).length, [(.sub 0 0 x.p, .cells [.int .i64 0, .str [], .str []]), ((.ty 5 (.sub (c + 1 + 1 + 1 + 1) 9 x.p)), .arr 1 (([] ++ [g.getD (min kk.toNat (g.length - 1)) 0]).map byA))], rfl, by omega, by omega, hft.symm, .inr ⟨by simp, c + 1 + 1 + 1 + 1, 9, by omega, rfl, rfl⟩, ?_⟩
          first | rfl | (rw [List.map_append, List.length_append]; rfl)
        · (repeat (first | (refine K_ifT rfl rfl ?_) | (refine K_ifF rfl rfl ?_) | (refine K_ev nmd [] hng (by kernel_rfl) fun hf C S K hC1 hC hS hK => ?_; simp (disch := first | omega | assumption) only [go_sem, hmin]; (repeat ((first | refine hC1 _ () (by simp (disch := first | omega | assumption) only [go_sem]) ?_); simp (disch := first | omega | assumption) only [go_sem])); refine hK ?_; clear hK hS hC hC1 K S C hf) | ((first | refine zk ?_ | refine zn ?_ | refine ze ?_); with_reducible (constructor; repeat constructor); try refine zl ?_)))
          refine ⟨_, _, by omega, fun _ _ h => h, i + 1, c + 1 + 1 + 1 + 1 + 1 + 1, done ++ [g.getD (min kk.toNat (g.length - 1)) 0], .sl (.ty 5 (.sub (c + 1 + 1 + 1 + 1) 9 x.p)) 1 (done ++ [g.getD (min kk.toNat (g.length - 1)) 0]).length, [(.sub 0 0 x.p, .cells [.int .i64 0, .str [], .str []]), ((.ty 5 (.sub (c + 1 + 1 + 1 + 1) 9 x.p)), .arr 1 ((done ++ [g.getD (min kk.toNat (g.length - 1)) 0]).map byA))], rfl, by omega, by omega, hft.symm, .inr ⟨by simp, c + 1 + 1 + 1 + 1, 9, by omega, rfl, rfl⟩, ?_⟩
          first | rfl | (rw [List.map_append, List.length_append]; rfl)
      · have hg0 : g = [] := Classical.not_not.1 hb
        have htb : trB f g (t.getD i 0) = [] := by rw [trB, if_neg hk0, if_pos hg0]
        rw [htb, List.append_nil] at hft
        (repeat (first | (refine K_ifT rfl rfl ?_) | (refine K_ifF rfl rfl ?_) | (refine K_ev nmd [] hng (by kernel_rfl) fun hf C S K hC1 hC hS hK => ?_; simp (disch := first | omega | assumption) only [go_sem]; refine hK ?_; clear hK hS hC hC1 K S C hf) | ((first | refine zk ?_ | refine zn ?_ | refine ze ?_); with_reducible (constructor; repeat constructor); try refine zl ?_)))
        refine ⟨_, _, by omega, fun _ _ h => h, i + 1, _, done, _, _, rfl, by omega, by omega, hft.symm, ?_, rfl⟩
        rcases hM with ⟨h1, h2, h3⟩ | ⟨h1, d, j, h2, h3, h4⟩
        · exact .inl ⟨h1, h2, h3⟩
        · exact .inr ⟨h1, d, j, by omega, h3, h4⟩
  · obtain rfl : i = t.length := by omega
    rw [List.take_length] at hdn
    rw [← hdn]
    rcases hM with ⟨rfl, rfl, rfl⟩ | ⟨hd0, d, j, hdc, rfl, rfl⟩
    · (repeat (first | (refine K_ifT rfl rfl ?_) | (refine K_ifF rfl rfl ?_) | (refine K_ev nmd [] hng (by kernel_rfl) fun hf C S K hC1 hC hS hK => ?_; simp (disch := first | omega | assumption) only [go_sem]; refine hK ?_; clear hK hS hC hC1 K S C hf) | ((first | refine zk ?_ | refine zn ?_ | refine ze ?_); with_reducible (constructor; repeat constructor); try refine zl ?_)))
      exact K_ret (done_plain (by simp (disch := first | omega | assumption) only [go_sem, Res.av, toldR, badR, usageR]))
    · have hdp := List.length_pos_iff.2 hd0
      (try ((first | refine zk ?_ | refine zn ?_ | refine ze ?_); with_reducible (constructor; repeat constructor)); try refine zl ?_)
      refine K_freeze (.ty 5 (.sub d j x.p)) 1 (done.map byA) (by simp (disch := first | omega | assumption) only [go_sem]) ?_
      simp (disch := first | omega | assumption) only [go_sem]
      (repeat (first | (refine K_ifT rfl rfl ?_) | (refine K_ifF rfl rfl ?_) | (refine K_ev nmd [] hng (by kernel_rfl) fun hf C S K hC1 hC hS hK => ?_; simp (disch := first | omega | assumption) only [go_sem]; refine hK ?_; clear hK hS hC hC1 K S C hf) | ((first | refine zk ?_ | refine zn ?_ | refine ze ?_); with_reducible (constructor; repeat constructor); try refine zl ?_)))
      exact K_ret (done_plain (by simp (disch := first | omega | assumption) only [go_sem, Res.av, toldR, badR, usageR]))
theorem tr_bad (args : List Str) (t : Str) (h : ¬ args.length = 2 ∨ ∃ a, args = [a, []] ∧ ¬ a = [45, 100]) (p : Oid) :
    CallOK Tryz.prog 36 [.list 1 (args.map AV.str), .str t] (Oid.under p) ⟨[], .tuple [badR.av, .bool false], []⟩ := by
  rcases h with h | ⟨a, rfl, ha⟩
  · have hz2 : ((args.length : Int) = 2) = False := eq_false (by omega)
    refine fnOK (n := 106) (rs := [.cell 4 32, .tmp 5]) Tryz.func36 rfl rfl (by decide) rfl rfl rfl ?_; rintro x rfl hrd hng
    (try ((first | refine zk ?_ | refine zn ?_ | refine ze ?_); with_reducible (constructor; repeat constructor)); try refine zl ?_)
    refine K_ev nmd [] hng (by kernel_rfl) fun hf C S K hC1 hC hS hK => ?_; simp (disch := first | omega | assumption) only [go_sem]
    refine hK ?_; clear hK hS hC hC1 K S C hf
    (try ((first | refine zk ?_ | refine zn ?_ | refine ze ?_); with_reducible (constructor; repeat constructor)); try refine zl ?_)
    refine K_ev nmd [(3, 18), (8, 23)] hng (by kernel_rfl) fun hf C S K hC1 hC hS hK => ?_; simp (disch := first | omega | assumption) only [go_sem, List.length_map, hz2, decide_true, decide_false, ne_eq, not_true_eq_false, not_false_eq_true]
    (repeat' (first | (refine evG_split (fun hv => ?_) (fun hv => ?_) <;> (try simp only [zb1, zb2, zb3, zb4, zb5] at hv) <;> simp (disch := first | omega | assumption) only [go_sem, hv, List.length_map, hz2, decide_true, decide_false, ne_eq, not_true_eq_false, not_false_eq_true]) | (refine hK ?_; clear hK hS hC hC1 K S C hf)))
    all_goals first | contradiction | skip
    (repeat (first | (refine K_ifT rfl rfl ?_) | (refine K_ifF rfl rfl ?_) | (refine K_ev nmd [] hng (by kernel_rfl) fun hf C S K hC1 hC hS hK => ?_; simp (disch := first | omega | assumption) only [go_sem]; (repeat ((first | refine hC1 _ (bad_x _) (by simp (disch := first | omega | assumption) only [go_sem]) ?_); simp (disch := first | omega | assumption) only [go_sem])); refine hK ?_; clear hK hS hC hC1 K S C hf) | ((first | refine zk ?_ | refine zn ?_ | refine ze ?_); with_reducible (constructor; repeat constructor); try refine zl ?_)))
    exact K_ret (done_plain (by simp (disch := first | omega | assumption) only [go_sem, Res.av, badR]))
  · refine fnOK (n := 106) (rs := [.cell 4 32, .tmp 5]) Tryz.func36 rfl rfl (by decide) rfl rfl rfl ?_; rintro x rfl hrd hng
    (try ((first | refine zk ?_ | refine zn ?_ | refine ze ?_); with_reducible (constructor; repeat constructor)); try refine zl ?_)
    refine K_ev nmd [] hng (by kernel_rfl) fun hf C S K hC1 hC hS hK => ?_; simp (disch := first | omega | assumption) only [go_sem]
    refine hK ?_; clear hK hS hC hC1 K S C hf
    (try ((first | refine zk ?_ | refine zn ?_ | refine ze ?_); with_reducible (constructor; repeat constructor)); try refine zl ?_)
    refine K_ev nmd [(3, 18), (8, 23)] hng (by kernel_rfl) fun hf C S K hC1 hC hS hK => ?_; simp (disch := first | omega | assumption) only [go_sem, ha, decide_true, decide_false, ne_eq, not_true_eq_false, not_false_eq_true]
    (repeat' (first | (refine evG_split (fun hv => ?_) (fun hv => ?_) <;> (try simp only [zb1, zb2, zb3, zb4, zb5] at hv) <;> simp (disch := first | omega | assumption) only [go_sem, hv, ha, decide_true, decide_false, ne_eq, not_true_eq_false, not_false_eq_true]) | (refine hK ?_; clear hK hS hC hC1 K S C hf)))
    all_goals first | exact absurd rfl hv | skip
    (repeat (first | (refine K_ifT rfl rfl ?_) | (refine K_ifF rfl rfl ?_) | (refine K_ev nmd [] hng (by kernel_rfl) fun hf C S K hC1 hC hS hK => ?_; simp (disch := first | omega | assumption) only [go_sem]; (repeat ((first | refine hC1 _ (bad_x _) (by simp (disch := first | omega | assumption) only [go_sem]) ?_); simp (disch := first | omega | assumption) only [go_sem])); refine hK ?_; clear hK hS hC hC1 K S C hf) | ((first | refine zk ?_ | refine zn ?_ | refine ze ?_); with_reducible (constructor; repeat constructor); try refine zl ?_)))
    exact K_ret (done_plain (by simp (disch := first | omega | assumption) only [go_sem, Res.av, badR]))
theorem translate_bad (args : List Str) (t : Str) (h : ¬ args.length = 2 ∨ ∃ a, args = [a, []] ∧ ¬ a = [45, 100]) (p : Oid) :
    CallOK Tryz.prog 47 [.list 1 (args.map AV.str), .str t] (Oid.under p) ⟨[], (usageR [116, 114]).av, []⟩ := by
  have hu := fun p => usageR_ok [116, 114] (by decide) p
  simp only [Res.av, usageR] at hu
  rcases h with h | ⟨a, rfl, ha⟩
  · have hz2 : ((args.length : Int) = 2) = False := eq_false (by omega)
    refine fnOK (n := 75) (rs := [.cell 4 32]) Tryz.func47 rfl rfl (by decide) rfl rfl rfl ?_; rintro x rfl hrd hng
    (try ((first | refine zk ?_ | refine zn ?_ | refine ze ?_); with_reducible (constructor; repeat constructor)); try refine zl ?_)
    refine K_ev nmd [] hng (by kernel_rfl) fun hf C S K hC1 hC hS hK => ?_; simp (disch := first | omega | assumption) only [go_sem]
    refine hK ?_; clear hK hS hC hC1 K S C hf
    (try ((first | refine zk ?_ | refine zn ?_ | refine ze ?_); with_reducible (constructor; repeat constructor)); try refine zl ?_)
    refine K_ev nmd [(3, 13), (8, 18)] hng (by kernel_rfl) fun hf C S K hC1 hC hS hK => ?_; simp (disch := first | omega | assumption) only [go_sem, List.length_map, hz2, decide_true, decide_false, ne_eq, not_true_eq_false, not_false_eq_true]
    (repeat' (first | (refine evG_split (fun hv => ?_) (fun hv => ?_) <;> (try simp only [zb1, zb2, zb3, zb4, zb5] at hv) <;> simp (disch := first | omega | assumption) only [go_sem, hv, List.length_map, hz2, decide_true, decide_false, ne_eq, not_true_eq_false, not_false_eq_true]) | (refine hK ?_; clear hK hS hC hC1 K S C hf)))
    all_goals first | contradiction | skip
    (repeat (first | (refine K_ifT rfl rfl ?_) | (refine K_ifF rfl rfl ?_) | (refine K_ev nmd [] hng (by kernel_rfl) fun hf C S K hC1 hC hS hK => ?_; simp (disch := first | omega | assumption) only [go_sem]; (repeat ((first | refine hC1 _ (hu _) (by simp (disch := first | omega | assumption) only [go_sem]) ?_); simp (disch := first | omega | assumption) only [go_sem])); refine hK ?_; clear hK hS hC hC1 K S C hf) | ((first | refine zk ?_ | refine zn ?_ | refine ze ?_); with_reducible (constructor; repeat constructor); try refine zl ?_)))
    exact K_ret (done_plain (by simp (disch := first | omega | assumption) only [go_sem, Res.av, toldR, badR, usageR]))
  · refine fnOK (n := 75) (rs := [.cell 4 32]) Tryz.func47 rfl rfl (by decide) rfl rfl rfl ?_; rintro x rfl hrd hng
    (try ((first | refine zk ?_ | refine zn ?_ | refine ze ?_); with_reducible (constructor; repeat constructor)); try refine zl ?_)
    refine K_ev nmd [] hng (by kernel_rfl) fun hf C S K hC1 hC hS hK => ?_; simp (disch := first | omega | assumption) only [go_sem]
    refine hK ?_; clear hK hS hC hC1 K S C hf
    (try ((first | refine zk ?_ | refine zn ?_ | refine ze ?_); with_reducible (constructor; repeat constructor)); try refine zl ?_)
    refine K_ev nmd [(3, 13), (8, 18)] hng (by kernel_rfl) fun hf C S K hC1 hC hS hK => ?_; simp (disch := first | omega | assumption) only [go_sem, ha, decide_true, decide_false, ne_eq, not_true_eq_false, not_false_eq_true]
    (repeat' (first | (refine evG_split (fun hv => ?_) (fun hv => ?_) <;> (try simp only [zb1, zb2, zb3, zb4, zb5] at hv) <;> simp (disch := first | omega | assumption) only [go_sem, hv, ha, decide_true, decide_false, ne_eq, not_true_eq_false, not_false_eq_true]) | (refine hK ?_; clear hK hS hC hC1 K S C hf)))
    all_goals first | exact absurd rfl hv | skip
    (repeat (first | (refine K_ifT rfl rfl ?_) | (refine K_ifF rfl rfl ?_) | (refine K_ev nmd [] hng (by kernel_rfl) fun hf C S K hC1 hC hS hK => ?_; simp (disch := first | omega | assumption) only [go_sem]; (repeat ((first | refine hC1 _ (hu _) (by simp (disch := first | omega | assumption) only [go_sem]) ?_); simp (disch := first | omega | assumption) only [go_sem])); refine hK ?_; clear hK hS hC hC1 K S C hf) | ((first | refine zk ?_ | refine zn ?_ | refine ze ?_); with_reducible (constructor; repeat constructor); try refine zl ?_)))
    exact K_ret (done_plain (by simp (disch := first | omega | assumption) only [go_sem, Res.av, toldR, badR, usageR]))
end Go.Proofs.YtiaiggbimlbkfaaGreatDoor
