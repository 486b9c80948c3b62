/- Filter: grep is the document's; FilterGreps, walked. -/
import Derived.Test.YtiaiggbimlbkfaaGreatDoorQ36
import Derived.Test.YtiaiggbimlbkfaaGreatDoorQ20
set_option linter.unusedVariables false
set_option linter.unusedSimpArgs false
namespace Go.Proofs.YtiaiggbimlbkfaaGreatDoor
open Go Go.Ab
set_option maxRecDepth 20000
set_option maxHeartbeats 4000000
theorem runR_grep (args : List Str) (t : Str) (r : Res) (hU : ∀ p, CallOK Tryz.prog 48 [.list 1 (args.map AV.str), .str t] (Oid.under p) ⟨[], r.av, []⟩) (p : Oid) :
    CallOK Tryz.prog 26 [.list 1 ((([103, 114, 101, 112] : Str) :: args).map AV.str), .str t] (Oid.under p) ⟨[], .tuple [r.av, .bool true], []⟩ := by
  obtain ⟨st, out, err⟩ := r
  simp only [Res.av] at hU
  refine fnOK (n := 90) (rs := [.cell 4 32, .tmp 5]) Tryz.func26 rfl rfl (by decide) rfl rfl rfl ?_; rintro x rfl hrd hng
  (repeat (first | (refine K_ifT rfl rfl ?_) | (refine K_ifF rfl rfl ?_) | (refine K_ev nmd [] hng (by kernel_rfl) fun hf C S K hC1 hC hS hK => ?_; simp (disch := first | omega | assumption) only [go_sem]; refine hK ?_; clear hK hS hC hC1 K S C hf) | ((first | refine zk ?_ | refine zn ?_ | refine ze ?_); with_reducible (constructor; repeat constructor); try refine zl ?_)))
  refine K_evd nmd [] [] mixed hng (by kernel_rfl) [1, 4, 6, 7] fun hf C S K hC hS hK => ?_; simp (disch := first | omega | assumption) only [go_sem]
  (first | refine hK (dynN_quiet rfl) ?_ | refine hK (by simp (disch := first | omega | assumption) only [go_sem, List.reverse_cons, List.reverse_nil, ne_eq, not_false_eq_true, implies_true]) ?_); clear hK hS hC K S C hf
  (repeat (first | (refine K_ifT rfl rfl ?_) | (refine K_ifF rfl rfl ?_) | (refine K_ev nmd [] hng (by kernel_rfl) fun hf C S K hC1 hC hS hK => ?_; simp (disch := first | omega | assumption) only [go_sem]; (repeat ((first | refine hC1 _ (hU _) (by simp (disch := first | omega | assumption) only [go_sem]) ?_); simp (disch := first | omega | assumption) only [go_sem])); refine hK ?_; clear hK hS hC hC1 K S C hf) | ((first | refine zk ?_ | refine zn ?_ | refine ze ?_); with_reducible (constructor; repeat constructor); try refine zl ?_)))
  exact K_ret (done_plain (by simp (disch := first | omega | assumption) only [go_sem, Res.av, toldR, badR, usageR]))
theorem same_grep (args : List Str) (t : Str) (ha : ∀ s ∈ args, s.length ≤ 4000000) (ht : t.length ≤ 4000000) (p : Oid) (hp : p.mono = false) :
    CallOK Tryz.prog 17 [.list 1 ((([103, 114, 101, 112] : Str) :: args).map AV.str), .str t] (Oid.under p) ⟨[], .bool true, []⟩ := by
  rcases grep_cases args with ⟨no, u, hc⟩ | h
  · have hul : u.length ≤ 4000000 := by rcases hc with ⟨rfl, _⟩ | ⟨rfl, _⟩ <;> exact ha u (by simp)
    exact same_of _ t _ true (fun p hp => run_any ([103, 114, 101, 112] : Str) (by decide) args t 37 (by kernel_rfl) (by kernel_rfl) (grepR no u t) true p (fun p hp => grep_ok args no u hc t ht p) hp)
      (fun p => runR_grep args t _ (fun p => grepRef_ok args no u hc hul t ht p) p) p hp
  · exact same_of _ t _ true (fun p hp => run_any ([103, 114, 101, 112] : Str) (by decide) args t 37 (by kernel_rfl) (by kernel_rfl) badR false p (fun p _ => grep_bad args h t p) hp)
      (fun p => runR_grep args t _ (fun p => grepRef_bad args h t p) p) p hp
theorem filterGreps_ok (t u : Str) (h1 : t.length ≤ 140737488355328) (h2 : u.length ≤ 140737488355328) (p : Oid) (hp : p.mono = false) :
    CallOK Tryz.prog 11 [.str t, .str u] (Oid.under p) ⟨[], .bool true, []⟩ := by
  have hA := fun (h5 : t.length ≤ 500) (h6 : u.length ≤ 60) p hp => same_grep [u] t (by simp; omega) (by omega) p hp
  have hB := fun (h5 : t.length ≤ 500) (h6 : u.length ≤ 60) p hp => same_grep [[45, 118], u] t (by simp; omega) (by omega) p hp
  simp only [List.map_cons, List.map_nil] at hA hB
  refine fnOK (n := 28) (rs := [.tmp 4]) Tryz.func11 rfl rfl (by decide) rfl rfl rfl ?_; rintro x rfl hrd hng
  (try ((first | refine zk ?_ | refine zn ?_ | refine ze ?_); with_reducible (constructor; repeat constructor)); try refine zl ?_)
  refine K_ev nmd [] hng (by kernel_rfl) fun hf C S K hC1 hC hS hK => ?_; simp (disch := first | omega | assumption) only [go_sem]
  refine hK ?_; clear hK hS hC hC1 K S C hf
  (try ((first | refine zk ?_ | refine zn ?_ | refine ze ?_); with_reducible (constructor; repeat constructor)); try refine zl ?_)
  refine K_ev nmd [(1, 6), (5, 10), (10, 15), (15, 20)] hng (by kernel_rfl) fun hf C S K hC1 hC hS hK => ?_; simp (disch := first | omega | assumption) only [go_sem, decide_true, decide_false, ne_eq, not_true_eq_false, not_false_eq_true]
  (repeat' (first | (refine evG_split (fun hv => ?_) (fun hv => ?_) <;> (try simp only [zb1, zb2, zb3, zb4, zb5] at hv) <;> simp (disch := first | omega | assumption) only [go_sem, hv, decide_true, decide_false, ne_eq, not_true_eq_false, not_false_eq_true]) | (refine hC1 _ (awake_ok _ (mono_sub' rfl hp)) (by simp (disch := first | omega | assumption) only [go_sem, decide_true, decide_false, ne_eq, not_true_eq_false, not_false_eq_true]) ?_; simp (disch := first | omega | assumption) only [go_sem, decide_true, decide_false, ne_eq, not_true_eq_false, not_false_eq_true]) | (refine hC1 _ (hA (by omega) (by omega) _ (mono_sub' rfl hp)) (by simp (disch := first | omega | assumption) only [go_sem, decide_true, decide_false, ne_eq, not_true_eq_false, not_false_eq_true]) ?_; simp (disch := first | omega | assumption) only [go_sem, decide_true, decide_false, ne_eq, not_true_eq_false, not_false_eq_true]) | (refine hC1 _ (hB (by omega) (by omega) _ (mono_sub' rfl hp)) (by simp (disch := first | omega | assumption) only [go_sem, decide_true, decide_false, ne_eq, not_true_eq_false, not_false_eq_true]) ?_; simp (disch := first | omega | assumption) only [go_sem, decide_true, decide_false, ne_eq, not_true_eq_false, not_false_eq_true]) | (refine hK ?_; clear hK hS hC hC1 K S C hf)))
  all_goals first | contradiction | skip
  all_goals (repeat (first | (refine K_ifT rfl rfl ?_) | (refine K_ifF rfl rfl ?_) | (refine K_ev nmd [] hng (by kernel_rfl) fun hf C S K hC1 hC hS hK => ?_; simp (disch := first | omega | assumption) only [go_sem]; refine hK ?_; clear hK hS hC hC1 K S C hf) | ((first | refine zk ?_ | refine zn ?_ | refine ze ?_); with_reducible (constructor; repeat constructor); try refine zl ?_)))
  all_goals exact K_ret (done1 rfl)
end Go.Proofs.YtiaiggbimlbkfaaGreatDoor
