/- Filter: sort and uniq are the document's; FilterAlike, walked. -/
import Derived.Test.YtiaiggbimlbkfaaGreatDoorQ27
import Derived.Test.YtiaiggbimlbkfaaGreatDoorQ19
import Derived.Test.YtiaiggbimlbkfaaGreatDoorQ20
import Derived.Test.YtiaiggbimlbkfaaGreatDoorQ24
set_option linter.unusedVariables false
set_option linter.unusedSimpArgs false
namespace Go.Proofs.YtiaiggbimlbkfaaGreatDoor
open Go Go.Ab
set_option maxRecDepth 20000
set_option maxHeartbeats 4000000
theorem runR_sort (args : List Str) (t : Str) (r : Res) (hU : ∀ p, CallOK Tryz.prog 44 [.list 1 (args.map AV.str), .str t] (Oid.under p) ⟨[], r.av, []⟩) (p : Oid) :
    CallOK Tryz.prog 26 [.list 1 ((([115, 111, 114, 116] : Str) :: args).map AV.str), .str t] (Oid.under p) ⟨[], .tuple [r.av, .bool true], []⟩ := by
  obtain ⟨st, out, err⟩ := r
  simp only [Res.av] at hU
  refine fnOK (n := 90) (rs := [.cell 4 32, .tmp 5]) Tryz.func26 rfl rfl (by decide) rfl rfl rfl ?_; rintro x rfl hrd hng
  (repeat (first | (refine K_ifT rfl rfl ?_) | (refine K_ifF rfl rfl ?_) | (refine K_ev nmd [] hng (by kernel_rfl) fun hf C S K hC1 hC hS hK => ?_; simp (disch := first | omega | assumption) only [go_sem]; refine hK ?_; clear hK hS hC hC1 K S C hf) | ((first | refine zk ?_ | refine zn ?_ | refine ze ?_); with_reducible (constructor; repeat constructor); try refine zl ?_)))
  refine K_evd nmd [] [] mixed hng (by kernel_rfl) [1, 4, 6, 7] fun hf C S K hC hS hK => ?_; simp (disch := first | omega | assumption) only [go_sem]
  (first | refine hK (dynN_quiet rfl) ?_ | refine hK (by simp (disch := first | omega | assumption) only [go_sem, List.reverse_cons, List.reverse_nil, ne_eq, not_false_eq_true, implies_true]) ?_); clear hK hS hC K S C hf
  (repeat (first | (refine K_ifT rfl rfl ?_) | (refine K_ifF rfl rfl ?_) | (refine K_ev nmd [] hng (by kernel_rfl) fun hf C S K hC1 hC hS hK => ?_; simp (disch := first | omega | assumption) only [go_sem]; (repeat ((first | refine hC1 _ (hU _) (by simp (disch := first | omega | assumption) only [go_sem]) ?_); simp (disch := first | omega | assumption) only [go_sem])); refine hK ?_; clear hK hS hC hC1 K S C hf) | ((first | refine zk ?_ | refine zn ?_ | refine ze ?_); with_reducible (constructor; repeat constructor); try refine zl ?_)))
  exact K_ret (done_plain (by simp (disch := first | omega | assumption) only [go_sem, Res.av, toldR, badR, usageR]))
theorem runR_uniq (args : List Str) (t : Str) (r : Res) (hU : ∀ p, CallOK Tryz.prog 45 [.list 1 (args.map AV.str), .str t] (Oid.under p) ⟨[], r.av, []⟩) (p : Oid) :
    CallOK Tryz.prog 26 [.list 1 ((([117, 110, 105, 113] : Str) :: args).map AV.str), .str t] (Oid.under p) ⟨[], .tuple [r.av, .bool true], []⟩ := by
  obtain ⟨st, out, err⟩ := r
  simp only [Res.av] at hU
  refine fnOK (n := 90) (rs := [.cell 4 32, .tmp 5]) Tryz.func26 rfl rfl (by decide) rfl rfl rfl ?_; rintro x rfl hrd hng
  (repeat (first | (refine K_ifT rfl rfl ?_) | (refine K_ifF rfl rfl ?_) | (refine K_ev nmd [] hng (by kernel_rfl) fun hf C S K hC1 hC hS hK => ?_; simp (disch := first | omega | assumption) only [go_sem]; refine hK ?_; clear hK hS hC hC1 K S C hf) | ((first | refine zk ?_ | refine zn ?_ | refine ze ?_); with_reducible (constructor; repeat constructor); try refine zl ?_)))
  refine K_evd nmd [] [] mixed hng (by kernel_rfl) [1, 4, 6, 7] fun hf C S K hC hS hK => ?_; simp (disch := first | omega | assumption) only [go_sem]
  (first | refine hK (dynN_quiet rfl) ?_ | refine hK (by simp (disch := first | omega | assumption) only [go_sem, List.reverse_cons, List.reverse_nil, ne_eq, not_false_eq_true, implies_true]) ?_); clear hK hS hC K S C hf
  (repeat (first | (refine K_ifT rfl rfl ?_) | (refine K_ifF rfl rfl ?_) | (refine K_ev nmd [] hng (by kernel_rfl) fun hf C S K hC1 hC hS hK => ?_; simp (disch := first | omega | assumption) only [go_sem]; (repeat ((first | refine hC1 _ (hU _) (by simp (disch := first | omega | assumption) only [go_sem]) ?_); simp (disch := first | omega | assumption) only [go_sem])); refine hK ?_; clear hK hS hC hC1 K S C hf) | ((first | refine zk ?_ | refine zn ?_ | refine ze ?_); with_reducible (constructor; repeat constructor); try refine zl ?_)))
  exact K_ret (done_plain (by simp (disch := first | omega | assumption) only [go_sem, Res.av, toldR, badR, usageR]))
theorem same_sort (args : List Str) (hal : args.length ≤ 4000000) (t : Str) (ht : t.length ≤ 4000000) (p : Oid) (hp : p.mono = false) :
    CallOK Tryz.prog 17 [.list 1 ((([115, 111, 114, 116] : Str) :: args).map AV.str), .str t] (Oid.under p) ⟨[], .bool true, []⟩ := by
  have hr := fun p => sortedRef_ok args hal t ht p
  by_cases h : args.any oddS = true
  · rw [if_pos h] at hr
    exact same_of _ t _ true (fun p hp => run_any ([115, 111, 114, 116] : Str) (by decide) args t 33 (by kernel_rfl) (by kernel_rfl) badR false p (fun p _ => sort_bad args (by omega) t h p) hp)
      (fun p => runR_sort args t _ hr p) p hp
  · rw [if_neg h] at hr
    exact same_of _ t _ true (fun p hp => run_any ([115, 111, 114, 116] : Str) (by decide) args t 33 (by kernel_rfl) (by kernel_rfl) (toldR (joinN (sortRow args t))) true p (fun p _ => sort_ok args (by omega) t (by omega) (by simpa using h) p) hp)
      (fun p => runR_sort args t _ hr p) p hp
theorem same_uniq (args : List Str) (hal : args.length ≤ 4000000) (t : Str) (ht : t.length ≤ 4000000) (p : Oid) (hp : p.mono = false) :
    CallOK Tryz.prog 17 [.list 1 ((([117, 110, 105, 113] : Str) :: args).map AV.str), .str t] (Oid.under p) ⟨[], .bool true, []⟩ := by
  rcases uniq_cases args with ⟨cnt, hc⟩ | h
  · exact same_of _ t _ true (fun p hp => run_any ([117, 110, 105, 113] : Str) (by decide) args t 34 (by kernel_rfl) (by kernel_rfl) (toldR (runsT cnt (grp (linesL t)))) true p (fun p hp => uniq_ok args cnt hc t ht p hp) hp)
      (fun p => runR_uniq args t _ (fun p => unique_ok args cnt hc t ht p) p) p hp
  · exact same_of _ t _ true (fun p hp => run_any ([117, 110, 105, 113] : Str) (by decide) args t 34 (by kernel_rfl) (by kernel_rfl) badR false p (fun p _ => uniq_bad args h (by omega) t p) hp)
      (fun p => runR_uniq args t _ (fun p => unique_bad args h t p) p) p hp
def signsT : List Str := [[97], [98], [10], [97, 32, 98], [10, 98], [58], [99, 58, 100], [47], [10, 10], [97, 97], [32], [9]]
theorem text_ok (l : List UInt8) (hl : l.length ≤ 140737488355328) (p : Oid) : CallOK Tryz.prog 18 [.list 1 (l.map byA)] (Oid.under p) ⟨[], .str (piecesX signsT l), []⟩ := by
  have hpc := fun p => pieces_ok l signsT hl (by decide) (by decide) (by decide) p
  generalize piecesX signsT l = u at hpc
  simp only [List.map_cons, List.map_nil, signsT] at hpc
  refine fnOK (n := 6) (rs := [.tmp 2]) Tryz.func18 rfl rfl (by decide) rfl rfl rfl ?_; rintro x rfl hrd hng
  (repeat (first | (refine K_ifT rfl rfl ?_) | (refine K_ifF rfl rfl ?_) | (refine K_ev nmd [] hng (by kernel_rfl) fun hf C S K hC1 hC hS hK => ?_; simp (disch := first | omega | assumption) only [go_sem]; (repeat ((first | refine hC1 _ (hpc _) (by simp (disch := first | omega | assumption) only [go_sem]) ?_); simp (disch := first | omega | assumption) only [go_sem])); refine hK ?_; clear hK hS hC hC1 K S C hf) | ((first | refine zk ?_ | refine zn ?_ | refine ze ?_); with_reducible (constructor; repeat constructor); try refine zl ?_)))
  exact K_ret (done1 rfl)
theorem filterAlike_ok (t : Str) (l : List UInt8) (h1 : t.length ≤ 140737488355328) (h2 : l.length ≤ 140737488355328) (p : Oid) (hp : p.mono = false) :
    CallOK Tryz.prog 13 [.str t, .list 1 (l.map byA)] (Oid.under p) ⟨[], .bool true, []⟩ := by
  have htx := fun p => text_ok l h2 p
  have hpl := piecesX_len (ps := signsT) (by decide) l
  generalize piecesX signsT l = u at htx hpl
  have hA := fun (h5 : t.length ≤ 500) p hp => same_uniq [] (by decide) t (by omega) p hp
  have hB := fun (h5 : t.length ≤ 500) p hp => same_uniq [[45, 99]] (by decide) t (by omega) p hp
  have hD := fun (h5 : t.length ≤ 500) p hp => same_sort [[45, 117]] (by decide) t (by omega) p hp
  have hA2 := fun p hp => same_uniq [] (by decide) u (by omega) p hp
  have hB2 := fun p hp => same_uniq [[45, 99]] (by decide) u (by omega) p hp
  have hD2 := fun p hp => same_sort [[45, 117], [45, 114]] (by decide) u (by omega) p hp
  simp only [List.map_cons, List.map_nil] at hA hB hD hA2 hB2 hD2
  refine fnOK (n := 44) (rs := [.tmp 4]) Tryz.func13 rfl rfl (by decide) rfl rfl rfl ?_; rintro x rfl hrd hng
  (repeat (first | (refine K_ifT rfl rfl ?_) | (refine K_ifF rfl rfl ?_) | (refine K_ev nmd [] hng (by kernel_rfl) fun hf C S K hC1 hC hS hK => ?_; simp (disch := first | omega | assumption) only [go_sem]; (repeat ((first | refine hC1 _ (htx _) (by simp (disch := first | omega | assumption) only [go_sem]) ?_); simp (disch := first | omega | assumption) only [go_sem])); refine hK ?_; clear hK hS hC hC1 K S C hf) | ((first | refine zk ?_ | refine zn ?_ | refine ze ?_); with_reducible (constructor; repeat constructor); try refine zl ?_)))
  refine K_ev nmd [(1, 9), (5, 13), (9, 17), (14, 22), (19, 27), (24, 32), (29, 37)] hng (by kernel_rfl) fun hf C S K hC1 hC hS hK => ?_; simp (disch := first | omega | assumption) only [go_sem, decide_true, decide_false, ne_eq, not_true_eq_false, not_false_eq_true]
  (repeat' (first | (refine evG_split (fun hv => ?_) (fun hv => ?_) <;> (try simp only [zb1, zb2, zb3, zb4, zb5] at hv) <;> simp (disch := first | omega | assumption) only [go_sem, hv, decide_true, decide_false, ne_eq, not_true_eq_false, not_false_eq_true]) | (refine hC1 _ (awake_ok _ (mono_sub' rfl hp)) (by simp (disch := first | omega | assumption) only [go_sem, decide_true, decide_false, ne_eq, not_true_eq_false, not_false_eq_true]) ?_; simp (disch := first | omega | assumption) only [go_sem, decide_true, decide_false, ne_eq, not_true_eq_false, not_false_eq_true]) | (refine hC1 _ (hA (by omega) _ (mono_sub' rfl hp)) (by simp (disch := first | omega | assumption) only [go_sem, decide_true, decide_false, ne_eq, not_true_eq_false, not_false_eq_true]) ?_; simp (disch := first | omega | assumption) only [go_sem, decide_true, decide_false, ne_eq, not_true_eq_false, not_false_eq_true]) | (refine hC1 _ (hB (by omega) _ (mono_sub' rfl hp)) (by simp (disch := first | omega | assumption) only [go_sem, decide_true, decide_false, ne_eq, not_true_eq_false, not_false_eq_true]) ?_; simp (disch := first | omega | assumption) only [go_sem, decide_true, decide_false, ne_eq, not_true_eq_false, not_false_eq_true]) | (refine hC1 _ (hD (by omega) _ (mono_sub' rfl hp)) (by simp (disch := first | omega | assumption) only [go_sem, decide_true, decide_false, ne_eq, not_true_eq_false, not_false_eq_true]) ?_; simp (disch := first | omega | assumption) only [go_sem, decide_true, decide_false, ne_eq, not_true_eq_false, not_false_eq_true]) | (refine hC1 _ (hA2 _ (mono_sub' rfl hp)) (by simp (disch := first | omega | assumption) only [go_sem, decide_true, decide_false, ne_eq, not_true_eq_false, not_false_eq_true]) ?_; simp (disch := first | omega | assumption) only [go_sem, decide_true, decide_false, ne_eq, not_true_eq_false, not_false_eq_true]) | (refine hC1 _ (hB2 _ (mono_sub' rfl hp)) (by simp (disch := first | omega | assumption) only [go_sem, decide_true, decide_false, ne_eq, not_true_eq_false, not_false_eq_true]) ?_; simp (disch := first | omega | assumption) only [go_sem, decide_true, decide_false, ne_eq, not_true_eq_false, not_false_eq_true]) | (refine hC1 _ (hD2 _ (mono_sub' rfl hp)) (by simp (disch := first | omega | assumption) only [go_sem, decide_true, decide_false, ne_eq, not_true_eq_false, not_false_eq_true]) ?_; simp (disch := first | omega | assumption) only [go_sem, decide_true, decide_false, ne_eq, not_true_eq_false, not_false_eq_true]) | (refine hK ?_; clear hK hS hC hC1 K S C hf)))
  all_goals first | contradiction | skip
  all_goals (repeat (first | (refine K_ifT rfl rfl ?_) | (refine K_ifF rfl rfl ?_) | (refine K_ev nmd [] hng (by kernel_rfl) fun hf C S K hC1 hC hS hK => ?_; simp (disch := first | omega | assumption) only [go_sem]; refine hK ?_; clear hK hS hC hC1 K S C hf) | ((first | refine zk ?_ | refine zn ?_ | refine ze ?_); with_reducible (constructor; repeat constructor); try refine zl ?_)))
  all_goals exact K_ret (done1 rfl)
end Go.Proofs.YtiaiggbimlbkfaaGreatDoor
