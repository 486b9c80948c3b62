/- Filter: head and tail. -/
import Derived.Test.YtiaiggbimlbkfaaGreatDoorQ12
set_option linter.unusedVariables false
set_option linter.unusedSimpArgs false
namespace Go.Proofs.YtiaiggbimlbkfaaGreatDoor
open Go Go.Ab
set_option maxRecDepth 20000
set_option maxHeartbeats 4000000
/-- The number of lines that arguments ask for; below nought: they may not be. -/
def manyN (args : List Str) : Int :=
  match args with
  | [] => 10
  | [a, b] => if a = [45, 110] then refN b else -1
  | _ => -1
def manyV (args : List Str) : Int :=
  match args with
  | [] => 10
  | [a, b] => if a = [45, 110] then atoiN b else 0
  | _ => 0
theorem manyV_eq {args : List Str} (h : 0 ≤ manyN args) : manyV args = manyN args := by
  unfold manyN at h
  unfold manyN manyV
  split
  · rfl
  · rename_i a b
    simp only at h
    by_cases ha : a = [45, 110]
    · rw [if_pos ha] at h; rw [if_pos ha, if_pos ha]
      exact (num_ref b).2 (by rw [(num_ref b).1, decide_eq_true h])
    · rw [if_neg ha] at h; omega
  · rename_i h1 h2
    split at h
    · exact absurd rfl h1
    · exact absurd rfl (h2 _ _)
    · omega
theorem refN_le (s : Str) : refN s ≤ 9223372036854775807 := by
  have := num_ref s
  have hb := atoiN_bounds s
  by_cases h : 0 ≤ refN s
  · rw [decide_eq_true h] at this; rw [← this.2 this.1]; exact hb.2
  · omega
theorem manyN_le (args : List Str) : manyN args ≤ 9223372036854775807 := by
  unfold manyN
  split
  · omega
  · split
    · exact refN_le _
    · omega
  · omega
theorem many_cases (args : List Str) : args = [] ∨ (∃ a b, args = [a, b]) ∨ (¬ args.length = 0 ∧ ¬ args.length = 2 ∧ manyN args = -1 ∧ manyV args = 0) := by
  match args with
  | [] => exact .inl rfl
  | [a] => exact .inr (.inr ⟨by simp, by simp, rfl, rfl⟩)
  | [a, b] => exact .inr (.inl ⟨a, b, rfl⟩)
  | a :: b :: c :: r => exact .inr (.inr ⟨by simp, by simp, rfl, rfl⟩)
theorem many_ok (args : List Str) (ha : ∀ s ∈ args, s.length ≤ 4000000) (p : Oid) (hp : p.mono = false) :
    CallOK Tryz.prog 54 [.list 1 (args.map AV.str)] (Oid.under p) ⟨[], .tuple [.int .i64 (manyV args), .bool (decide (0 ≤ manyN args))], []⟩ := by
  rcases many_cases args with rfl | ⟨a, b, rfl⟩ | ⟨h0, h2, hn, hv0⟩
  · refine fnOK (n := 24) (rs := [.tmp 2, .tmp 3]) Tryz.func54 rfl rfl (by decide) rfl rfl rfl ?_; rintro x rfl hrd hng
    (repeat (first | (refine K_ifT rfl rfl ?_) | (refine K_ifF rfl rfl ?_) | (refine K_ev nmd [] hng (by kernel_rfl) fun hf C S K hC1 hC hS hK => ?_; simp (disch := first | omega | assumption) only [go_sem]; refine hK ?_; clear hK hS hC hC1 K S C hf) | ((first | refine zk ?_ | refine zn ?_ | refine ze ?_); with_reducible (constructor; repeat constructor); try refine zl ?_)))
    exact K_ret (done_plain rfl)
  · have hbl := ha b (by simp)
    have hd : decide (0 ≤ refN b) = numG b := (num_ref b).1.symm
    refine fnOK (n := 24) (rs := [.tmp 2, .tmp 3]) Tryz.func54 rfl rfl (by decide) rfl rfl rfl ?_; rintro x rfl hrd hng
    (repeat (first | (refine K_ifT rfl rfl ?_) | (refine K_ifF rfl rfl ?_) | (refine K_ev nmd [] hng (by kernel_rfl) fun hf C S K hC1 hC hS hK => ?_; simp (disch := first | omega | assumption) only [go_sem]; refine hK ?_; clear hK hS hC hC1 K S C hf) | ((first | refine zk ?_ | refine zn ?_ | refine ze ?_); with_reducible (constructor; repeat constructor); try refine zl ?_)))
    refine K_cut [0, 8] (fun s' => s' = ⟨[(0, .list 1 [.str a, .str b]), (8, .bool (decide (a = [45, 110])))], Mem.of [], 0 + 1 + 1 + 1, []⟩) ?_ ?_
    · refine K_ev nmd [(3, 12)] hng (by kernel_rfl) fun hf C S K hC1 hC hS hK => ?_; simp (disch := first | omega | assumption) only [go_sem, decide_true, decide_false, ne_eq, not_true_eq_false, not_false_eq_true]
      (repeat' (first | (refine evG_split (fun hv => ?_) (fun hv => ?_) <;> (try simp only [zb1, zb2, zb3, zb4, zb5] at hv) <;> simp (disch := first | omega | assumption) only [go_sem, hv, decide_true, decide_false, ne_eq, not_true_eq_false, not_false_eq_true]) | (refine hK ?_; clear hK hS hC hC1 K S C hf)))
      all_goals first | exact absurd rfl hv | exact K_cutN rfl
    rintro s' rfl
    refine K_ifd rfl rfl (fun hb => ?_) (fun hb => ?_)
    · rw [show manyV [a, b] = atoiN b by simp only [manyV, if_pos hb], show manyN [a, b] = refN b by simp only [manyN, if_pos hb], hd]
      (repeat (first | (refine K_ifT rfl rfl ?_) | (refine K_ifF rfl rfl ?_) | (refine K_ev nmd [] hng (by kernel_rfl) fun hf C S K hC1 hC hS hK => ?_; simp (disch := first | omega | assumption) only [go_sem]; (repeat ((first | refine hC1 _ (number_ok b (by omega) _ (mono_sub' rfl hp)) (by simp (disch := first | omega | assumption) only [go_sem]) ?_); simp (disch := first | omega | assumption) only [go_sem])); refine hK ?_; clear hK hS hC hC1 K S C hf) | ((first | refine zk ?_ | refine zn ?_ | refine ze ?_); with_reducible (constructor; repeat constructor); try refine zl ?_)))
      exact K_ret (done_plain rfl)
    · rw [show manyV [a, b] = 0 by simp only [manyV, if_neg hb], show manyN [a, b] = -1 by simp only [manyN, if_neg hb]]
      (repeat (first | (refine K_ifT rfl rfl ?_) | (refine K_ifF rfl rfl ?_) | (refine K_ev nmd [] hng (by kernel_rfl) fun hf C S K hC1 hC hS hK => ?_; simp (disch := first | omega | assumption) only [go_sem]; refine hK ?_; clear hK hS hC hC1 K S C hf) | ((first | refine zk ?_ | refine zn ?_ | refine ze ?_); with_reducible (constructor; repeat constructor); try refine zl ?_)))
      exact K_ret (done_plain rfl)
  · rw [hn, hv0]
    have hz : ((args.length : Int) = 0) = False := eq_false (by omega)
    have hz2 : ((args.length : Int) = 2) = False := eq_false (by omega)
    refine fnOK (n := 24) (rs := [.tmp 2, .tmp 3]) Tryz.func54 rfl rfl (by decide) rfl rfl rfl ?_; rintro x rfl hrd hng
    (repeat (first | (refine K_ifT rfl rfl ?_) | (refine K_ifF rfl rfl ?_) | (refine K_ev nmd [] hng (by kernel_rfl) fun hf C S K hC1 hC hS hK => ?_; simp (disch := first | omega | assumption) only [go_sem, List.length_map, hz, decide_true, decide_false, ne_eq, not_true_eq_false, not_false_eq_true]; (repeat ((first | refine hC1 _ () (by simp (disch := first | omega | assumption) only [go_sem]) ?_); simp (disch := first | omega | assumption) only [go_sem])); refine hK ?_; clear hK hS hC hC1 K S C hf) | ((first | refine zk ?_ | refine zn ?_ | refine ze ?_); with_reducible (constructor; repeat constructor); try refine zl ?_)))
    refine K_ev nmd [(3, 12)] hng (by kernel_rfl) fun hf C S K hC1 hC hS hK => ?_; simp (disch := first | omega | assumption) only [go_sem, List.length_map, hz2, decide_true, decide_false, ne_eq, not_true_eq_false, not_false_eq_true]
    (repeat' (first | (refine evG_split (fun hv => ?_) (fun hv => ?_) <;> (try simp only [zb1, zb2, zb3, zb4, zb5] at hv) <;> simp (disch := first | omega | assumption) only [go_sem, hv, List.length_map, hz2, decide_true, decide_false, ne_eq, not_true_eq_false, not_false_eq_true]) | (refine hK ?_; clear hK hS hC hC1 K S C hf)))
    all_goals first | exact absurd rfl hv | ((repeat (first | (refine K_ifT rfl rfl ?_) | (refine K_ifF rfl rfl ?_) | (refine K_ev nmd [] hng (by kernel_rfl) fun hf C S K hC1 hC hS hK => ?_; simp (disch := first | omega | assumption) only [go_sem]; refine hK ?_; clear hK hS hC hC1 K S C hf) | ((first | refine zk ?_ | refine zn ?_ | refine ze ?_); with_reducible (constructor; repeat constructor); try refine zl ?_))); exact K_ret (done_plain rfl))
theorem number17_ok (args : List Str) (ha : ∀ s ∈ args, s.length ≤ 4000000) (p : Oid) :
    CallOK Tryz.prog 80 [.list 1 (args.map AV.str)] (Oid.under p) ⟨[], .int .i64 (manyN args), []⟩ := by
  rcases many_cases args with rfl | ⟨a, b, rfl⟩ | ⟨h0, h2, hn, _⟩
  · refine fnOK (n := 19) (rs := [.tmp 2]) Tryz.func80 rfl rfl (by decide) rfl rfl rfl ?_; rintro x rfl hrd hng
    (repeat (first | (refine K_ifT rfl rfl ?_) | (refine K_ifF rfl rfl ?_) | (refine K_ev nmd [] hng (by kernel_rfl) fun hf C S K hC1 hC hS hK => ?_; simp (disch := first | omega | assumption) only [go_sem]; refine hK ?_; clear hK hS hC hC1 K S C hf) | ((first | refine zk ?_ | refine zn ?_ | refine ze ?_); with_reducible (constructor; repeat constructor); try refine zl ?_)))
    exact K_ret (done1 rfl)
  · have hbl := ha b (by simp)
    refine fnOK (n := 19) (rs := [.tmp 2]) Tryz.func80 rfl rfl (by decide) rfl rfl rfl ?_; rintro x rfl hrd hng
    (repeat (first | (refine K_ifT rfl rfl ?_) | (refine K_ifF rfl rfl ?_) | (refine K_ev nmd [] hng (by kernel_rfl) fun hf C S K hC1 hC hS hK => ?_; simp (disch := first | omega | assumption) only [go_sem]; refine hK ?_; clear hK hS hC hC1 K S C hf) | ((first | refine zk ?_ | refine zn ?_ | refine ze ?_); with_reducible (constructor; repeat constructor); try refine zl ?_)))
    by_cases hab : a = [45, 110]
    · subst hab
      refine K_ev nmd [(3, 9)] hng (by kernel_rfl) fun hf C S K hC1 hC hS hK => ?_; simp (disch := first | omega | assumption) only [go_sem, decide_true, decide_false, ne_eq, not_true_eq_false, not_false_eq_true]
      (repeat' (first | (refine evG_split (fun hv => ?_) (fun hv => ?_) <;> (try simp only [zb1, zb2, zb3, zb4, zb5] at hv) <;> simp (disch := first | omega | assumption) only [go_sem, hv, decide_true, decide_false, ne_eq, not_true_eq_false, not_false_eq_true]) | (refine hK ?_; clear hK hS hC hC1 K S C hf)))
      all_goals first | exact absurd rfl hv | skip
      (repeat (first | (refine K_ifT rfl rfl ?_) | (refine K_ifF rfl rfl ?_) | (refine K_ev nmd [] hng (by kernel_rfl) fun hf C S K hC1 hC hS hK => ?_; simp (disch := first | omega | assumption) only [go_sem]; (repeat ((first | refine hC1 _ (numberR_ok b (by omega) _) (by simp (disch := first | omega | assumption) only [go_sem]) ?_); simp (disch := first | omega | assumption) only [go_sem])); refine hK ?_; clear hK hS hC hC1 K S C hf) | ((first | refine zk ?_ | refine zn ?_ | refine ze ?_); with_reducible (constructor; repeat constructor); try refine zl ?_)))
      exact K_ret (done1 rfl)
    · rw [show manyN [a, b] = -1 by simp only [manyN, if_neg hab]]
      refine K_ev nmd [(3, 9)] hng (by kernel_rfl) fun hf C S K hC1 hC hS hK => ?_; simp (disch := first | omega | assumption) only [go_sem, hab, decide_true, decide_false, ne_eq, not_true_eq_false, not_false_eq_true]
      (repeat' (first | (refine evG_split (fun hv => ?_) (fun hv => ?_) <;> (try simp only [zb1, zb2, zb3, zb4, zb5] at hv) <;> simp (disch := first | omega | assumption) only [go_sem, hv, hab, decide_true, decide_false, ne_eq, not_true_eq_false, not_false_eq_true]) | (refine hK ?_; clear hK hS hC hC1 K S C hf)))
      all_goals first | exact absurd rfl hv | skip
      (repeat (first | (refine K_ifT rfl rfl ?_) | (refine K_ifF rfl rfl ?_) | (refine K_ev nmd [] hng (by kernel_rfl) fun hf C S K hC1 hC hS hK => ?_; simp (disch := first | omega | assumption) only [go_sem]; refine hK ?_; clear hK hS hC hC1 K S C hf) | ((first | refine zk ?_ | refine zn ?_ | refine ze ?_); with_reducible (constructor; repeat constructor); try refine zl ?_)))
      exact K_ret (done1 rfl)
  · rw [hn]
    have hz : ((args.length : Int) = 0) = False := eq_false (by omega)
    have hz2 : ((args.length : Int) = 2) = False := eq_false (by omega)
    refine fnOK (n := 19) (rs := [.tmp 2]) Tryz.func80 rfl rfl (by decide) rfl rfl rfl ?_; rintro x rfl hrd hng
    (repeat (first | (refine K_ifT rfl rfl ?_) | (refine K_ifF rfl rfl ?_) | (refine K_ev nmd [] hng (by kernel_rfl) fun hf C S K hC1 hC hS hK => ?_; simp (disch := first | omega | assumption) only [go_sem, List.length_map, hz, decide_true, decide_false, ne_eq, not_true_eq_false, not_false_eq_true]; (repeat ((first | refine hC1 _ () (by simp (disch := first | omega | assumption) only [go_sem]) ?_); simp (disch := first | omega | assumption) only [go_sem])); refine hK ?_; clear hK hS hC hC1 K S C hf) | ((first | refine zk ?_ | refine zn ?_ | refine ze ?_); with_reducible (constructor; repeat constructor); try refine zl ?_)))
    refine K_ev nmd [(3, 9)] hng (by kernel_rfl) fun hf C S K hC1 hC hS hK => ?_; simp (disch := first | omega | assumption) only [go_sem, List.length_map, hz2, decide_true, decide_false, ne_eq, not_true_eq_false, not_false_eq_true]
    (repeat' (first | (refine evG_split (fun hv => ?_) (fun hv => ?_) <;> (try simp only [zb1, zb2, zb3, zb4, zb5] at hv) <;> simp (disch := first | omega | assumption) only [go_sem, hv, List.length_map, hz2, decide_true, decide_false, ne_eq, not_true_eq_false, not_false_eq_true]) | (refine hK ?_; clear hK hS hC hC1 K S C hf)))
    all_goals first | exact absurd rfl hv | skip
    (repeat (first | (refine K_ifT rfl rfl ?_) | (refine K_ifF rfl rfl ?_) | (refine K_ev nmd [] hng (by kernel_rfl) fun hf C S K hC1 hC hS hK => ?_; simp (disch := first | omega | assumption) only [go_sem]; refine hK ?_; clear hK hS hC hC1 K S C hf) | ((first | refine zk ?_ | refine zn ?_ | refine ze ?_); with_reducible (constructor; repeat constructor); try refine zl ?_)))
    exact K_ret (done1 rfl)
def headL (n : Int) (l : List Str) : List Str := l.take n.toNat
def tailL (n : Int) (l : List Str) : List Str := l.drop (l.length - n.toNat)
theorem joinN_take_le2 (l : List Str) (n : Nat) : (joinN (l.take n)).length ≤ (joinN l).length := joinN_sub (List.take_sublist _ _)
theorem joinN_drop_le2 (l : List Str) (n : Nat) : (joinN (l.drop n)).length ≤ (joinN l).length := joinN_sub (List.drop_sublist _ _)
theorem head_ok (args : List Str) (ha : ∀ s ∈ args, s.length ≤ 4000000) (t : Str) (htl : t.length ≤ 4000000) (h : 0 ≤ manyN args) (p : Oid) (hp : p.mono = false) :
    CallOK Tryz.prog 30 [.list 1 (args.map AV.str), .str t] (Oid.under p) ⟨[], .tuple [(toldR (joinN (headL (manyN args) (linesL t)))).av, .bool true], []⟩ := by
  have hjl := joinN_lines t
  have hjn := joinN_len (linesL t)
  have hm := fun p hp => many_ok args ha p hp
  rw [manyV_eq h, decide_eq_true h] at hm
  have hml := manyN_le args
  generalize manyN args = n at hm h hml
  have hj : (joinN (headL n (linesL t))).length ≤ (joinN (linesL t)).length := joinN_take_le2 (linesL t) n.toNat
  have hmin : (if ((linesL t).length : Int) < n then ((linesL t).length : Int) else n).toNat = min n.toNat (linesL t).length := by split <;> omega
  have htk : (linesL t).take (min n.toNat (linesL t).length) = headL n (linesL t) := by rw [headL]; simp [List.take_eq_take_iff]
  refine fnOK (n := 31) (rs := [.cell 4 32, .tmp 5]) Tryz.func30 rfl rfl (by decide) rfl rfl rfl ?_; rintro x rfl hrd hng
  (repeat (first | (refine K_ifT rfl rfl ?_) | (refine K_ifF rfl rfl ?_) | (refine K_ev nmd [] hng (by kernel_rfl) fun hf C S K hC1 hC hS hK => ?_; simp (disch := first | omega | assumption) only [go_sem, List.length_map, hmin, ← List.map_take, htk]; (repeat ((first | refine hC1 _ (hm _ (mono_sub' rfl hp)) (by simp (disch := first | omega | assumption) only [go_sem]) ?_ | refine hC1 _ (lines_ok t (by omega) _) (by simp (disch := first | omega | assumption) only [go_sem]) ?_ | refine hC1 _ (joined_ok (headL n (linesL t)) (by omega) _) (by simp (disch := first | omega | assumption) only [go_sem]) ?_ | refine hC1 _ (told_x (joinN (headL n (linesL t))) _) (by simp (disch := first | omega | assumption) only [go_sem]) ?_); simp (disch := first | omega | assumption) only [go_sem])); refine hK ?_; clear hK hS hC hC1 K S C hf) | ((first | refine zk ?_ | refine zn ?_ | refine ze ?_); with_reducible (constructor; repeat constructor); try refine zl ?_)))
  exact K_ret (done_plain (by simp (disch := first | omega | assumption) only [go_sem, Res.av, toldR, badR, usageR]))
theorem tail_ok (args : List Str) (ha : ∀ s ∈ args, s.length ≤ 4000000) (t : Str) (htl : t.length ≤ 4000000) (h : 0 ≤ manyN args) (p : Oid) (hp : p.mono = false) :
    CallOK Tryz.prog 31 [.list 1 (args.map AV.str), .str t] (Oid.under p) ⟨[], .tuple [(toldR (joinN (tailL (manyN args) (linesL t)))).av, .bool true], []⟩ := by
  have hjl := joinN_lines t
  have hjn := joinN_len (linesL t)
  have hm := fun p hp => many_ok args ha p hp
  rw [manyV_eq h, decide_eq_true h] at hm
  have hml := manyN_le args
  generalize manyN args = n at hm h hml
  have hj : (joinN (tailL n (linesL t))).length ≤ (joinN (linesL t)).length := joinN_drop_le2 (linesL t) _
  have hmax : (if (0 : Int) < ((linesL t).length : Int) - n then ((linesL t).length : Int) - n else 0).toNat = (linesL t).length - n.toNat := by split <;> omega
  have htk : (linesL t).drop ((linesL t).length - n.toNat) = tailL n (linesL t) := rfl
  refine fnOK (n := 32) (rs := [.cell 4 32, .tmp 5]) Tryz.func31 rfl rfl (by decide) rfl rfl rfl ?_; rintro x rfl hrd hng
  (repeat (first | (refine K_ifT rfl rfl ?_) | (refine K_ifF rfl rfl ?_) | (refine K_ev nmd [] hng (by kernel_rfl) fun hf C S K hC1 hC hS hK => ?_; simp (disch := first | omega | assumption) only [go_sem, List.length_map, hmax, ← List.map_drop, htk]; (repeat ((first | refine hC1 _ (hm _ (mono_sub' rfl hp)) (by simp (disch := first | omega | assumption) only [go_sem]) ?_ | refine hC1 _ (lines_ok t (by omega) _) (by simp (disch := first | omega | assumption) only [go_sem]) ?_ | refine hC1 _ (joined_ok (tailL n (linesL t)) (by omega) _) (by simp (disch := first | omega | assumption) only [go_sem]) ?_ | refine hC1 _ (told_x (joinN (tailL n (linesL t))) _) (by simp (disch := first | omega | assumption) only [go_sem]) ?_); simp (disch := first | omega | assumption) only [go_sem])); refine hK ?_; clear hK hS hC hC1 K S C hf) | ((first | refine zk ?_ | refine zn ?_ | refine ze ?_); with_reducible (constructor; repeat constructor); try refine zl ?_)))
  exact K_ret (done_plain (by simp (disch := first | omega | assumption) only [go_sem, Res.av, toldR, badR, usageR]))
theorem head_bad (args : List Str) (ha : ∀ s ∈ args, s.length ≤ 4000000) (t : Str) (h : ¬ 0 ≤ manyN args) (p : Oid) (hp : p.mono = false) :
    CallOK Tryz.prog 30 [.list 1 (args.map AV.str), .str t] (Oid.under p) ⟨[], .tuple [badR.av, .bool false], []⟩ := by
  have hm := fun p hp => many_ok args ha p hp
  rw [decide_eq_false h] at hm
  refine fnOK (n := 31) (rs := [.cell 4 32, .tmp 5]) Tryz.func30 rfl rfl (by decide) rfl rfl rfl ?_; rintro x rfl hrd hng
  (repeat (first | (refine K_ifT rfl rfl ?_) | (refine K_ifF rfl rfl ?_) | (refine K_ev nmd [] hng (by kernel_rfl) fun hf C S K hC1 hC hS hK => ?_; simp (disch := first | omega | assumption) only [go_sem]; (repeat ((first | refine hC1 _ (hm _ (mono_sub' rfl hp)) (by simp (disch := first | omega | assumption) only [go_sem]) ?_ | refine hC1 _ (bad_x _) (by simp (disch := first | omega | assumption) only [go_sem]) ?_); simp (disch := first | omega | assumption) only [go_sem])); refine hK ?_; clear hK hS hC hC1 K S C hf) | ((first | refine zk ?_ | refine zn ?_ | refine ze ?_); with_reducible (constructor; repeat constructor); try refine zl ?_)))
  exact K_ret (done_plain (by simp (disch := first | omega | assumption) only [go_sem, Res.av, badR]))
theorem tail_bad (args : List Str) (ha : ∀ s ∈ args, s.length ≤ 4000000) (t : Str) (h : ¬ 0 ≤ manyN args) (p : Oid) (hp : p.mono = false) :
    CallOK Tryz.prog 31 [.list 1 (args.map AV.str), .str t] (Oid.under p) ⟨[], .tuple [badR.av, .bool false], []⟩ := by
  have hm := fun p hp => many_ok args ha p hp
  rw [decide_eq_false h] at hm
  refine fnOK (n := 32) (rs := [.cell 4 32, .tmp 5]) Tryz.func31 rfl rfl (by decide) rfl rfl rfl ?_; rintro x rfl hrd hng
  (repeat (first | (refine K_ifT rfl rfl ?_) | (refine K_ifF rfl rfl ?_) | (refine K_ev nmd [] hng (by kernel_rfl) fun hf C S K hC1 hC hS hK => ?_; simp (disch := first | omega | assumption) only [go_sem]; (repeat ((first | refine hC1 _ (hm _ (mono_sub' rfl hp)) (by simp (disch := first | omega | assumption) only [go_sem]) ?_ | refine hC1 _ (bad_x _) (by simp (disch := first | omega | assumption) only [go_sem]) ?_); simp (disch := first | omega | assumption) only [go_sem])); refine hK ?_; clear hK hS hC hC1 K S C hf) | ((first | refine zk ?_ | refine zn ?_ | refine ze ?_); with_reducible (constructor; repeat constructor); try refine zl ?_)))
  exact K_ret (done_plain (by simp (disch := first | omega | assumption) only [go_sem, Res.av, badR]))
theorem ends_bad (nm : Str) (hn : nm.length ≤ 4000000) (args : List Str) (ha : ∀ s ∈ args, s.length ≤ 4000000) (t : Str) (h : ¬ 0 ≤ manyN args) (p : Oid) :
    CallOK Tryz.prog 42 [.str nm, .list 1 (args.map AV.str), .str t] (Oid.under p) ⟨[], (usageR nm).av, []⟩ := by
  have hm := fun p => number17_ok args ha p
  have hu := fun p => usageR_ok nm (by omega) p
  simp only [Res.av, usageR] at hu
  generalize manyN args = n at hm h
  have hz : (n < 0) = True := eq_true (by omega)
  refine fnOK (n := 36) (rs := [.cell 6 32]) Tryz.func42 rfl rfl (by decide) rfl rfl rfl ?_; rintro x rfl hrd hng
  (repeat (first | (refine K_ifT rfl rfl ?_) | (refine K_ifF rfl rfl ?_) | (refine K_ev nmd [] hng (by kernel_rfl) fun hf C S K hC1 hC hS hK => ?_; simp (disch := first | omega | assumption) only [go_sem, hz, decide_true]; (repeat ((first | refine hC1 _ (hm _) (by simp (disch := first | omega | assumption) only [go_sem]) ?_ | refine hC1 _ (hu _) (by simp (disch := first | omega | assumption) only [go_sem]) ?_); simp (disch := first | omega | assumption) only [go_sem])); refine hK ?_; clear hK hS hC hC1 K S C hf) | ((first | refine zk ?_ | refine zn ?_ | refine ze ?_); with_reducible (constructor; repeat constructor); try refine zl ?_)))
  exact K_ret (done_plain (by simp (disch := first | omega | assumption) only [go_sem, Res.av, toldR, badR, usageR]))
theorem ends_head (args : List Str) (ha : ∀ s ∈ args, s.length ≤ 4000000) (t : Str) (htl : t.length ≤ 4000000) (h : 0 ≤ manyN args) (p : Oid) :
    CallOK Tryz.prog 42 [.str [104, 101, 97, 100], .list 1 (args.map AV.str), .str t] (Oid.under p) ⟨[], (toldR (joinN (headL (manyN args) (linesL t)))).av, []⟩ := by
  have hjl := joinN_lines t
  have hjn := joinN_len (linesL t)
  have hm := fun p => number17_ok args ha p
  have hml := manyN_le args
  generalize manyN args = n at hm h hml
  have hz : (n < 0) = False := eq_false (by omega)
  have hj : (joinN (headL n (linesL t))).length ≤ (joinN (linesL t)).length := joinN_take_le2 (linesL t) n.toNat
  have hmin : (if ((linesL t).length : Int) < n then ((linesL t).length : Int) else n).toNat = min n.toNat (linesL t).length := by split <;> omega
  have htk : (linesL t).take (min n.toNat (linesL t).length) = headL n (linesL t) := by rw [headL]; simp [List.take_eq_take_iff]
  refine fnOK (n := 36) (rs := [.cell 6 32]) Tryz.func42 rfl rfl (by decide) rfl rfl rfl ?_; rintro x rfl hrd hng
  (repeat (first | (refine K_ifT rfl rfl ?_) | (refine K_ifF rfl rfl ?_) | (refine K_ev nmd [] hng (by kernel_rfl) fun hf C S K hC1 hC hS hK => ?_; simp (disch := first | omega | assumption) only [go_sem, hz, decide_false, List.length_map, hmin, ← List.map_take, htk]; (repeat ((first | refine hC1 _ (hm _) (by simp (disch := first | omega | assumption) only [go_sem]) ?_ | refine hC1 _ (linesR_ok t (by omega) _) (by simp (disch := first | omega | assumption) only [go_sem]) ?_ | refine hC1 _ (joinedR_ok (headL n (linesL t)) (by omega) _) (by simp (disch := first | omega | assumption) only [go_sem]) ?_); simp (disch := first | omega | assumption) only [go_sem])); refine hK ?_; clear hK hS hC hC1 K S C hf) | ((first | refine zk ?_ | refine zn ?_ | refine ze ?_); with_reducible (constructor; repeat constructor); try refine zl ?_)))
  exact K_ret (done_plain (by simp (disch := first | omega | assumption) only [go_sem, Res.av, toldR, badR, usageR]))
theorem ends_tail (args : List Str) (ha : ∀ s ∈ args, s.length ≤ 4000000) (t : Str) (htl : t.length ≤ 4000000) (h : 0 ≤ manyN args) (p : Oid) :
    CallOK Tryz.prog 42 [.str [116, 97, 105, 108], .list 1 (args.map AV.str), .str t] (Oid.under p) ⟨[], (toldR (joinN (tailL (manyN args) (linesL t)))).av, []⟩ := by
  have hjl := joinN_lines t
  have hjn := joinN_len (linesL t)
  have hm := fun p => number17_ok args ha p
  have hml := manyN_le args
  generalize manyN args = n at hm h hml
  have hz : (n < 0) = False := eq_false (by omega)
  have hj : (joinN (tailL n (linesL t))).length ≤ (joinN (linesL t)).length := joinN_drop_le2 (linesL t) _
  have hmin : (((linesL t).length : Int) - (if ((linesL t).length : Int) < n then ((linesL t).length : Int) else n)).toNat = (linesL t).length - n.toNat := by split <;> omega
  have htk : (linesL t).drop ((linesL t).length - n.toNat) = tailL n (linesL t) := rfl
  refine fnOK (n := 36) (rs := [.cell 6 32]) Tryz.func42 rfl rfl (by decide) rfl rfl rfl ?_; rintro x rfl hrd hng
  (repeat (first | (refine K_ifT rfl rfl ?_) | (refine K_ifF rfl rfl ?_) | (refine K_ev nmd [] hng (by kernel_rfl) fun hf C S K hC1 hC hS hK => ?_; simp (disch := first | omega | assumption) only [go_sem, hz, decide_false, List.length_map, hmin, ← List.map_drop, htk]; (repeat ((first | refine hC1 _ (hm _) (by simp (disch := first | omega | assumption) only [go_sem]) ?_ | refine hC1 _ (linesR_ok t (by omega) _) (by simp (disch := first | omega | assumption) only [go_sem]) ?_ | refine hC1 _ (joinedR_ok (tailL n (linesL t)) (by omega) _) (by simp (disch := first | omega | assumption) only [go_sem]) ?_); simp (disch := first | omega | assumption) only [go_sem])); refine hK ?_; clear hK hS hC hC1 K S C hf) | ((first | refine zk ?_ | refine zn ?_ | refine ze ?_); with_reducible (constructor; repeat constructor); try refine zl ?_)))
  exact K_ret (done_plain (by simp (disch := first | omega | assumption) only [go_sem, Res.av, toldR, badR, usageR]))
end Go.Proofs.YtiaiggbimlbkfaaGreatDoor
