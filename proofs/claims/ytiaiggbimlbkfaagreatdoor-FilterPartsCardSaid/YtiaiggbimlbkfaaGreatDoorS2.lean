/- strings.Builder: WriteString and String, walked. -/
import Derived.Test.YtiaiggbimlbkfaaGreatDoorS1
set_option linter.unusedVariables false
set_option linter.unusedSimpArgs false
namespace Go.Proofs.YtiaiggbimlbkfaaGreatDoor
open Go Go.Ab
set_option maxRecDepth 20000
set_option maxHeartbeats 2000000
theorem gdR_T {v : OpR} : gdR True v = v := if_pos trivial
theorem upd_sub {need : List (Oid × AObj)} {upd : List (Oid × Option AObj)} {m : Mem} (h1 : ∀ q, q ∈ upd → ∀ o, q.2 = some o → m q.1 = some o) (h2 : ∀ q, q ∈ need → (∀ r, r ∈ upd → ¬ r.1 = q.1) → m q.1 = some q.2) (i : Oid) (o : AObj)
    (h : ((Mem.of need).upds upd) i = some o) : m i = some o := by
  by_cases hk : ∃ q ∈ upd, q.1 = i
  · obtain ⟨q', k1, k2, k3⟩ := upds_mem (m := Mem.of need) hk
    rw [k3] at h
    rw [← k2]; exact h1 q' k1 o h
  · rw [upds_nokey fun q hq e => hk ⟨q, hq, e⟩] at h
    obtain ⟨q, k1, rfl, rfl⟩ := Mem.of_mem h
    exact h2 q k1 fun r hr e => hk ⟨r, hr, e⟩
theorem done_upd {P : Program} {rs : List ResultVar} {need : List (Oid × AObj)} {fr : List (Nat × AV)} {m : Mem} {c : Nat} {val : AV} {upd : List (Oid × Option AObj)} (h1 : retM P m fr rs = some val)
    (h2 : ∀ q, q ∈ upd → ∀ o, q.2 = some o → m q.1 = some o) (h3 : ∀ q, q ∈ need → (∀ r, r ∈ upd → ¬ r.1 = q.1) → m q.1 = some q.2) : DoneN P rs need (fun v u => v = val ∧ u = upd) (fun _ _ => False) .ret ⟨fr, m, c, []⟩ :=
  done_ret val upd h1 ⟨rfl, rfl⟩ (upd_sub h2 h3)
theorem ws_fresh (q : Oid) (s : List UInt8) (hl : s.length ≤ 140737488355328) (p : Oid) (hq : ¬ Oid.under p (.ty 67 q)) :
    CallOK Tryz.prog 69 [.ptr (.ty 67 q) 0, .str s] (Oid.under p) ⟨[(.ty 67 q, .cells [.nilPtr, .nilSl])], .tuple [.int .i64 s.length, .nilIface],
      [(.ty 67 q, some (.cells [.ptr (.ty 67 q) 0, .sl (.ty 5 (.sub 2 6 p)) 1 s.length])), (.ty 5 (.sub 2 6 p), some (.arr 1 (s.map byA)))]⟩ := by
  refine fnOK (n := 19) (rs := [.tmp 4, .tmp 5]) Tryz.func69 rfl rfl (by decide) rfl rfl rfl ?_; rintro x rfl hrd hng
  (repeat (first | (refine K_ifT rfl rfl ?_) | (refine K_ifF rfl rfl ?_) | (refine K_ev nmd [] hng (by kernel_rfl) fun hf C S K hC1 hC hS hK => ?_; simp (disch := first | omega | assumption) only [go_sem]; (repeat ((first | refine hC1 _ (cc_fresh _ .nilSl _) (by simp (disch := first | omega | assumption) only [go_sem]) ?_); simp (disch := first | omega | assumption) only [go_sem])); refine hK ?_; clear hK hS hC hC1 K S C hf) | ((first | refine zk ?_ | refine zn ?_ | refine ze ?_); with_reducible (constructor; repeat constructor); try refine zl ?_)))
  refine K_ret (done_upd rfl ?_ ?_)
  all_goals simp only [List.mem_cons, List.not_mem_nil, or_false, forall_eq_or_imp, forall_eq, Option.some.injEq, forall_eq', Mem.of_cons_at, eq_self, if_true, ↓reduceIte, reduceCtorEq, implies_true, not_true_eq_false, false_imp_iff, true_and, and_true, false_and, and_false, imp_self, Oid.not_under_ty hq, Oid.ty_not_under hq]
  rfl
theorem ws_used (q r : Oid) (s0 s : List UInt8) (hl : s0.length + s.length ≤ 140737488355328) (p : Oid) (hq : ¬ Oid.under p (.ty 67 q)) (hr : ¬ Oid.under p (.ty 5 r)) :
    CallOK Tryz.prog 69 [.ptr (.ty 67 q) 0, .str s] (Oid.under p) ⟨[(.ty 67 q, .cells [.ptr (.ty 67 q) 0, .sl (.ty 5 r) 1 s0.length]), (.ty 5 r, .arr 1 (s0.map byA))], .tuple [.int .i64 s.length, .nilIface],
      [(.ty 67 q, some (.cells [.ptr (.ty 67 q) 0, .sl (.ty 5 (.sub 2 6 p)) 1 (s0 ++ s).length])), (.ty 5 r, none), (.ty 5 (.sub 2 6 p), some (.arr 1 ((s0 ++ s).map byA)))]⟩ := by
  have hr' : (Oid.ty 5 r = Oid.ty 5 (.sub 2 6 p)) = False := Oid.not_under_ty hr _ _ _
  refine fnOK (n := 19) (rs := [.tmp 4, .tmp 5]) Tryz.func69 rfl rfl (by decide) rfl rfl rfl ?_; rintro x rfl hrd hng
  (repeat (first | (refine K_ifT rfl rfl ?_) | (refine K_ifF rfl rfl ?_) | (refine K_ev nmd [] hng (by kernel_rfl) fun hf C S K hC1 hC hS hK => ?_; simp (disch := first | omega | assumption) only [go_sem]; (repeat ((first | refine hC1 _ (cc_used _ (.sl (.ty 5 r) 1 s0.length) _) (by simp (disch := first | omega | assumption) only [go_sem]) ?_); simp (disch := first | omega | assumption) only [go_sem])); refine hK ?_; clear hK hS hC hC1 K S C hf) | ((first | refine zk ?_ | refine zn ?_ | refine ze ?_); with_reducible (constructor; repeat constructor); try refine zl ?_)))
  refine K_ret (done_upd rfl ?_ ?_)
  all_goals simp only [List.mem_cons, List.not_mem_nil, or_false, forall_eq_or_imp, forall_eq, Option.some.injEq, forall_eq', Mem.of_cons_at, eq_self, if_true, ↓reduceIte, reduceCtorEq, implies_true, not_true_eq_false, false_imp_iff, true_and, and_true, false_and, and_false, imp_self, Oid.not_under_ty hq, Oid.ty_not_under hq, Oid.not_under_ty hr, Oid.ty_not_under hr, List.length_append, List.map_append]
  rfl
theorem string_ok (q r : Oid) (s : List UInt8) (h0 : 0 < s.length) (hl : s.length ≤ 140737488355328) (p : Oid) :
    CallOK Tryz.prog 70 [.ptr (.ty 67 q) 0] (Oid.under p) ⟨[(.ty 67 q, .cells [.ptr (.ty 67 q) 0, .sl (.ty 5 r) 1 s.length]), (.ty 5 r, .arr 1 (s.map byA))], .str s, [(.ty 5 r, none)]⟩ := by
  refine fnOK (n := 14) (rs := [.tmp 2]) Tryz.func70 rfl rfl (by decide) rfl rfl rfl ?_; rintro x rfl hrd hng
  (repeat (first | (refine K_ifT rfl rfl ?_) | (refine K_ifF rfl rfl ?_) | (refine K_ev nmd [] hng (by kernel_rfl) fun hf C S K hC1 hC hS hK => ?_; simp (disch := first | omega | assumption) only [go_sem]; refine hK ?_; clear hK hS hC hC1 K S C hf) | ((first | refine zk ?_ | refine zn ?_ | refine ze ?_); with_reducible (constructor; repeat constructor); try refine zl ?_)))
  refine K_evd nmd [] [] mixed hng (by kernel_rfl) [0, 2] fun hf C S K hC hS hK => ?_; simp (disch := first | omega | assumption) only [go_sem]
  (first | refine hK (dynN_quiet rfl) ?_ | refine hK (by simp (disch := first | omega | assumption) only [go_sem, List.reverse_cons, List.reverse_nil, ne_eq, not_false_eq_true, implies_true]) ?_); clear hK hS hC K S C hf
  refine K_ret (done_upd rfl ?_ ?_)
  all_goals simp only [List.mem_cons, List.not_mem_nil, or_false, forall_eq_or_imp, forall_eq, Option.some.injEq, forall_eq', Mem.of_cons_at, eq_self, if_true, ↓reduceIte, reduceCtorEq, implies_true, not_true_eq_false, false_imp_iff, true_and, and_true, false_and, and_false, imp_self]
theorem string_nil (q : Oid) (p : Oid) :
    CallOK Tryz.prog 70 [.ptr (.ty 67 q) 0] (Oid.under p) ⟨[(.ty 67 q, .cells [.nilPtr, .nilSl])], .str [], []⟩ := by
  refine fnOK (n := 14) (rs := [.tmp 2]) Tryz.func70 rfl rfl (by decide) rfl rfl rfl ?_; rintro x rfl hrd hng
  (repeat (first | (refine K_ifT rfl rfl ?_) | (refine K_ifF rfl rfl ?_) | (refine K_ev nmd [] hng (by kernel_rfl) fun hf C S K hC1 hC hS hK => ?_; simp (disch := first | omega | assumption) only [go_sem]; refine hK ?_; clear hK hS hC hC1 K S C hf) | ((first | refine zk ?_ | refine zn ?_ | refine ze ?_); with_reducible (constructor; repeat constructor); try refine zl ?_)))
  refine K_evd nmd [] [] mixed hng (by kernel_rfl) [0, 2] fun hf C S K hC hS hK => ?_; simp (disch := first | omega | assumption) only [go_sem, gdR_T]
  (first | refine hK (dynN_quiet rfl) ?_ | refine hK (by simp (disch := first | omega | assumption) only [go_sem, List.reverse_cons, List.reverse_nil, ne_eq, not_false_eq_true, implies_true]) ?_); clear hK hS hC K S C hf
  refine K_ret (done_upd rfl ?_ ?_)
  all_goals simp only [List.mem_cons, List.not_mem_nil, or_false, forall_eq_or_imp, forall_eq, Option.some.injEq, forall_eq', Mem.of_cons_at, eq_self, if_true, ↓reduceIte, reduceCtorEq, implies_true, not_true_eq_false, false_imp_iff, true_and, and_true, false_and, and_false, imp_self]
end Go.Proofs.YtiaiggbimlbkfaaGreatDoor
