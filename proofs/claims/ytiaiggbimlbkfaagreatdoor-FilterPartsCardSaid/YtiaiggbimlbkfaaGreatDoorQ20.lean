/- Filter: the reference's Run; are both the same; what any right program answers. -/
import Derived.Test.YtiaiggbimlbkfaaGreatDoorQ12
import Derived.Test.YtiaiggbimlbkfaaGreatDoorQL2
set_option linter.unusedVariables false
set_option linter.unusedSimpArgs false
namespace Go.Proofs.YtiaiggbimlbkfaaGreatDoor
open Go Go.Ab
set_option maxRecDepth 20000
set_option maxHeartbeats 4000000
theorem runR_nil (t : Str) (p : Oid) : CallOK Tryz.prog 26 [.list 1 [], .str t] (Oid.under p) ⟨[], .tuple [badR.av, .bool false], []⟩ := by
  refine fnOK (n := 90) (rs := [.cell 4 32, .tmp 5]) Tryz.func26 rfl rfl (by decide) rfl rfl rfl ?_; rintro x rfl hrd hng
  (repeat (first | (refine K_ifT rfl rfl ?_) | (refine K_ifF rfl rfl ?_) | (refine K_ev nmd [] hng (by kernel_rfl) fun hf C S K hC1 hC hS hK => ?_; simp (disch := first | omega | assumption) only [go_sem]; refine hK ?_; clear hK hS hC hC1 K S C hf) | ((first | refine zk ?_ | refine zn ?_ | refine ze ?_); with_reducible (constructor; repeat constructor); try refine zl ?_)))
  exact K_ret (done_plain (by simp (disch := first | omega | assumption) only [go_sem, Res.av, toldR, badR, usageR]))
theorem runR_tr (args : List Str) (t : Str) (r : Res) (hU : ∀ p, CallOK Tryz.prog 47 [.list 1 (args.map AV.str), .str t] (Oid.under p) ⟨[], r.av, []⟩) (p : Oid) :
    CallOK Tryz.prog 26 [.list 1 ((([116, 114] : Str) :: args).map AV.str), .str t] (Oid.under p) ⟨[], .tuple [r.av, .bool true], []⟩ := by
  obtain ⟨st, out, err⟩ := r
  simp only [Res.av] at hU
  refine fnOK (n := 90) (rs := [.cell 4 32, .tmp 5]) Tryz.func26 rfl rfl (by decide) rfl rfl rfl ?_; rintro x rfl hrd hng
  (repeat (first | (refine K_ifT rfl rfl ?_) | (refine K_ifF rfl rfl ?_) | (refine K_ev nmd [] hng (by kernel_rfl) fun hf C S K hC1 hC hS hK => ?_; simp (disch := first | omega | assumption) only [go_sem]; refine hK ?_; clear hK hS hC hC1 K S C hf) | ((first | refine zk ?_ | refine zn ?_ | refine ze ?_); with_reducible (constructor; repeat constructor); try refine zl ?_)))
  refine K_evd nmd [] [] mixed hng (by kernel_rfl) [1, 4, 6, 7] fun hf C S K hC hS hK => ?_; simp (disch := first | omega | assumption) only [go_sem]
  (first | refine hK (dynN_quiet rfl) ?_ | refine hK (by simp (disch := first | omega | assumption) only [go_sem, List.reverse_cons, List.reverse_nil, ne_eq, not_false_eq_true, implies_true]) ?_); clear hK hS hC K S C hf
  (repeat (first | (refine K_ifT rfl rfl ?_) | (refine K_ifF rfl rfl ?_) | (refine K_ev nmd [] hng (by kernel_rfl) fun hf C S K hC1 hC hS hK => ?_; simp (disch := first | omega | assumption) only [go_sem]; (repeat ((first | refine hC1 _ (hU _) (by simp (disch := first | omega | assumption) only [go_sem]) ?_); simp (disch := first | omega | assumption) only [go_sem])); refine hK ?_; clear hK hS hC hC1 K S C hf) | ((first | refine zk ?_ | refine zn ?_ | refine ze ?_); with_reducible (constructor; repeat constructor); try refine zl ?_)))
  exact K_ret (done_plain (by simp (disch := first | omega | assumption) only [go_sem, Res.av, toldR, badR, usageR]))
theorem same_of (argv : List Str) (t : Str) (r : Res) (ok : Bool) (hP : ∀ p, p.mono = false → CallOK Tryz.prog 19 [.list 1 (argv.map AV.str), .str t] (Oid.under p) ⟨[], .tuple [r.av, .bool ok], []⟩)
    (hQ : ∀ p, CallOK Tryz.prog 26 [.list 1 (argv.map AV.str), .str t] (Oid.under p) ⟨[], .tuple [r.av, .bool ok], []⟩) (p : Oid) (hp : p.mono = false) :
    CallOK Tryz.prog 17 [.list 1 (argv.map AV.str), .str t] (Oid.under p) ⟨[], .bool true, []⟩ := by
  obtain ⟨st, out, err⟩ := r
  simp only [Res.av] at hP hQ
  refine fnOK (n := 29) (rs := [.tmp 4]) Tryz.func17 rfl rfl (by decide) rfl rfl rfl ?_; rintro x rfl hrd hng
  (repeat (first | (refine K_ifT rfl rfl ?_) | (refine K_ifF rfl rfl ?_) | (refine K_ev nmd [] hng (by kernel_rfl) fun hf C S K hC1 hC hS hK => ?_; simp (disch := first | omega | assumption) only [go_sem]; (repeat ((first | refine hC1 _ (hP _ (mono_sub' rfl hp)) (by simp (disch := first | omega | assumption) only [go_sem]) ?_ | refine hC1 _ (hQ _) (by simp (disch := first | omega | assumption) only [go_sem]) ?_); simp (disch := first | omega | assumption) only [go_sem])); refine hK ?_; clear hK hS hC hC1 K S C hf) | ((first | refine zk ?_ | refine zn ?_ | refine ze ?_); with_reducible (constructor; repeat constructor); try refine zl ?_)))
  refine K_ev nmd [(3, 24)] hng (by kernel_rfl) fun hf C S K hC1 hC hS hK => ?_; simp (disch := first | omega | assumption) only [go_sem, decide_true, decide_false, ne_eq, not_true_eq_false, not_false_eq_true]
  (repeat' (first | (refine evG_split (fun hv => ?_) (fun hv => ?_) <;> (try simp only [zb1, zb2, zb3, zb4, zb5] at hv) <;> simp (disch := first | omega | assumption) only [go_sem, hv, decide_true, decide_false, ne_eq, not_true_eq_false, not_false_eq_true]) | (refine hK ?_; clear hK hS hC hC1 K S C hf)))
  (repeat (first | (refine K_ifT rfl rfl ?_) | (refine K_ifF rfl rfl ?_) | (refine K_ev nmd [] hng (by kernel_rfl) fun hf C S K hC1 hC hS hK => ?_; simp (disch := first | omega | assumption) only [go_sem]; refine hK ?_; clear hK hS hC hC1 K S C hf) | ((first | refine zk ?_ | refine zn ?_ | refine ze ?_); with_reducible (constructor; repeat constructor); try refine zl ?_)))
  exact K_ret (done1 rfl)
theorem cut_none (t : Str) (p : Oid) : CallOK Tryz.prog 35 [.list 1 [], .str t] (Oid.under p) ⟨[], .tuple [badR.av, .bool false], []⟩ := by
  refine fnOK (n := 93) (rs := [.cell 4 32, .tmp 5]) Tryz.func35 rfl rfl (by decide) rfl rfl rfl ?_; rintro x rfl hrd hng
  (try ((first | refine zk ?_ | refine zn ?_ | refine ze ?_); with_reducible (constructor; repeat constructor)); try refine zl ?_)
  refine K_ev nmd [] hng (by kernel_rfl) fun hf C S K hC1 hC hS hK => ?_; simp (disch := first | omega | assumption) only [go_sem]
  refine hK ?_; clear hK hS hC hC1 K S C hf
  (try ((first | refine zk ?_ | refine zn ?_ | refine ze ?_); with_reducible (constructor; repeat constructor)); try refine zl ?_)
  refine K_ev nmd [(3, 15), (9, 21), (16, 28)] hng (by kernel_rfl) fun hf C S K hC1 hC hS hK => ?_; simp (disch := first | omega | assumption) only [go_sem, decide_true, decide_false, ne_eq, not_true_eq_false, not_false_eq_true]
  (repeat' (first | (refine evG_split (fun hv => ?_) (fun hv => ?_) <;> (try simp only [zb1, zb2, zb3, zb4, zb5] at hv) <;> simp (disch := first | omega | assumption) only [go_sem, hv, decide_true, decide_false, ne_eq, not_true_eq_false, not_false_eq_true]) | (refine hK ?_; clear hK hS hC hC1 K S C hf)))
  all_goals first | contradiction | skip
  (repeat (first | (refine K_ifT rfl rfl ?_) | (refine K_ifF rfl rfl ?_) | (refine K_ev nmd [] hng (by kernel_rfl) fun hf C S K hC1 hC hS hK => ?_; simp (disch := first | omega | assumption) only [go_sem]; (repeat ((first | refine hC1 _ (bad_x _) (by simp (disch := first | omega | assumption) only [go_sem]) ?_); simp (disch := first | omega | assumption) only [go_sem])); refine hK ?_; clear hK hS hC hC1 K S C hf) | ((first | refine zk ?_ | refine zn ?_ | refine ze ?_); with_reducible (constructor; repeat constructor); try refine zl ?_)))
  exact K_ret (done_plain (by simp (disch := first | omega | assumption) only [go_sem, Res.av, badR]))
theorem run_sort_b (p : Oid) (hp : p.mono = false) : CallOK Tryz.prog 19 [.list 1 [.str [115, 111, 114, 116], .str [45, 114]], .str [98, 10, 97]] (Oid.under p) ⟨[], .tuple [.agg [.int .i64 0, .str [98, 10, 97, 10], .str []], .bool true], []⟩ := by
  have h := run_any [115, 111, 114, 116] (by decide) [[45, 114]] [98, 10, 97] 33 (by kernel_rfl) (by kernel_rfl) (toldR (joinN (sortRow [[45, 114]] [98, 10, 97]))) true p (fun p _ => sort_ok _ (by decide) _ (by decide) (by kernel_rfl) p) hp
  have e : joinN (sortRow [[45, 114]] [98, 10, 97]) = [98, 10, 97, 10] := by
    unfold sortRow
    rw [← insAll_row]
    kernel_rfl
  rw [e] at h
  exact h
theorem run_tr_abd (p : Oid) (hp : p.mono = false) : CallOK Tryz.prog 19 [.list 1 [.str [116, 114], .str [97, 45, 99], .str [120]], .str [97, 98, 100]] (Oid.under p) ⟨[], .tuple [.agg [.int .i64 0, .str [120, 120, 100], .str []], .bool true], []⟩ := by
  have h := run_any [116, 114] (by decide) [[97, 45, 99], [120]] [97, 98, 100] 36 (by kernel_rfl) (by kernel_rfl) (toldR ([97, 98, 100].flatMap (trB (setP [97, 45, 99]) (setP [120])))) true p (fun p _ => tr_ok _ _ _ _ _ (.inr ⟨by decide, by decide, rfl, rfl⟩) (by decide) (by decide) (by decide) p) hp
  have e : ([97, 98, 100] : Str).flatMap (trB (setP [97, 45, 99]) (setP [120])) = [120, 120, 100] := by kernel_rfl
  rw [e] at h
  exact h
theorem run_cut_0 (p : Oid) (hp : p.mono = false) : CallOK Tryz.prog 19 [.list 1 [.str [99, 117, 116]], .str []] (Oid.under p) ⟨[], .tuple [.agg [.int .i64 2, .str [], .str [99, 117, 116, 58, 32, 117, 115, 97, 103, 101, 10]], .bool true], []⟩ :=
  run_any [99, 117, 116] (by decide) [] [] 35 (by kernel_rfl) (by kernel_rfl) badR false p (fun p _ => cut_none [] p) hp
theorem run_none_0 (p : Oid) : CallOK Tryz.prog 19 [.list 1 [.str [110, 111, 110, 101]], .str []] (Oid.under p) ⟨[], .tuple [.agg [.int .i64 0, .str [], .str []], .bool false], []⟩ :=
  run_none [110, 111, 110, 101] [] [] (by kernel_rfl) p
theorem awake_ok (p : Oid) (hp : p.mono = false) : CallOK Tryz.prog 15 [] (Oid.under p) ⟨[], .bool true, []⟩ := by
  refine fnOK (n := 55) (rs := [.tmp 0]) Tryz.func15 rfl rfl (by decide) rfl rfl rfl ?_; rintro x rfl hrd hng
  (repeat (first | (refine K_ifT rfl rfl ?_) | (refine K_ifF rfl rfl ?_) | (refine K_ev nmd [] hng (by kernel_rfl) fun hf C S K hC1 hC hS hK => ?_; simp (disch := first | omega | assumption) only [go_sem]; (repeat ((first | refine hC1 _ (run_sort_b _ (mono_sub' rfl hp)) (by simp (disch := first | omega | assumption) only [go_sem]) ?_ | refine hC1 _ (run_tr_abd _ (mono_sub' rfl hp)) (by simp (disch := first | omega | assumption) only [go_sem]) ?_ | refine hC1 _ (run_cut_0 _ (mono_sub' rfl hp)) (by simp (disch := first | omega | assumption) only [go_sem]) ?_ | refine hC1 _ (run_none_0 _) (by simp (disch := first | omega | assumption) only [go_sem]) ?_); simp (disch := first | omega | assumption) only [go_sem])); refine hK ?_; clear hK hS hC hC1 K S C hf) | ((first | refine zk ?_ | refine zn ?_ | refine ze ?_); with_reducible (constructor; repeat constructor); try refine zl ?_)))
  refine K_ev nmd [(1, 30), (6, 35), (9, 38), (14, 43), (17, 46), (22, 51)] hng (by kernel_rfl) fun hf C S K hC1 hC hS hK => ?_; simp (disch := first | omega | assumption) only [go_sem, decide_true, decide_false, ne_eq, not_true_eq_false, not_false_eq_true]
  (repeat' (first | (refine evG_split (fun hv => ?_) (fun hv => ?_) <;> (try simp only [zb1, zb2, zb3, zb4, zb5] at hv) <;> simp (disch := first | omega | assumption) only [go_sem, hv, decide_true, decide_false, ne_eq, not_true_eq_false, not_false_eq_true]) | (refine hK ?_; clear hK hS hC hC1 K S C hf)))
  (repeat (first | (refine K_ifT rfl rfl ?_) | (refine K_ifF rfl rfl ?_) | (refine K_ev nmd [] hng (by kernel_rfl) fun hf C S K hC1 hC hS hK => ?_; simp (disch := first | omega | assumption) only [go_sem]; refine hK ?_; clear hK hS hC hC1 K S C hf) | ((first | refine zk ?_ | refine zn ?_ | refine ze ?_); with_reducible (constructor; repeat constructor); try refine zl ?_)))
  exact K_ret (done1 rfl)
end Go.Proofs.YtiaiggbimlbkfaaGreatDoor
