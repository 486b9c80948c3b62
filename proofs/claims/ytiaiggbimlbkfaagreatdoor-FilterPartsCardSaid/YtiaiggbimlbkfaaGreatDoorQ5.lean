/- Filter: the library's searches in rows of texts, walked; the lines as a row of one's own. -/
import Derived.Test.YtiaiggbimlbkfaaGreatDoorQ4
set_option linter.unusedVariables false
set_option linter.unusedSimpArgs false
namespace Go.Proofs.YtiaiggbimlbkfaaGreatDoor
open Go Go.Ab
set_option maxRecDepth 20000
set_option maxHeartbeats 4000000
/-- The first place of one that is such; -1: there is none. -/
def ixF (q : Str → Bool) : List Str → Int
  | [] => -1
  | s :: l => if q s = true then 0 else if ixF q l < 0 then -1 else ixF q l + 1
theorem ixF_none {q : Str → Bool} : ∀ {l : List Str}, l.any q = false → ixF q l = -1
  | [], _ => rfl
  | s :: l, h => by
    simp only [List.any_cons, Bool.or_eq_false_iff] at h
    rw [ixF, if_neg (by rw [h.1]; decide), ixF_none h.2, if_pos (by decide)]
theorem ixF_at {q : Str → Bool} : ∀ {l : List Str} {i : Nat}, i < l.length → (l.take i).any q = false → q (l.getD i default) = true → ixF q l = i
  | [], i, h, _, _ => absurd h (Nat.not_lt_zero _)
  | s :: l, 0, _, _, h => by rw [ixF, if_pos (show q s = true from h)]; rfl
  | s :: l, i + 1, h, h1, h2 => by
    simp only [List.take_succ_cons, List.any_cons, Bool.or_eq_false_iff] at h1
    have ih := ixF_at (l := l) (i := i) (by simpa using h) h1.2 (by simpa using h2)
    rw [ixF, if_neg (by rw [h1.1]; decide), ih, if_neg (by omega)]; rfl
theorem ixF_any {q : Str → Bool} (l : List Str) : decide (0 ≤ ixF q l) = l.any q := by
  induction l with
  | nil => rfl
  | cons s l ih =>
    rw [ixF, List.any_cons]
    by_cases h : q s = true
    · rw [if_pos h, h]; rfl
    · have h' : q s = false := by simpa using h
      rw [if_neg h, h', Bool.false_or, ← ih]
      by_cases h2 : ixF q l < 0
      · rw [if_pos h2, decide_eq_false (by omega), decide_eq_false (by omega)]
      · rw [if_neg h2, decide_eq_true (by omega), decide_eq_true (by omega)]
theorem any_step {q : Str → Bool} {l : List Str} {i : Nat} (hi : i < l.length) (h : (l.take i).any q = false) (h2 : q (l.getD i default) = false) : (l.take (i + 1)).any q = false := by
  rw [List.take_add_one, List.any_append, h, List.getElem?_eq_getElem hi]
  rw [List.getD_eq_getElem?_getD, List.getElem?_eq_getElem hi, Option.getD_some] at h2
  simp [h2]
theorem indexFunc_ok (q : Str → Bool) (fu : Nat) (hq : ∀ s p, CallOK Tryz.prog fu [.str s] (Oid.under p) ⟨[], .bool (q s), []⟩) (l : List Str) (hl : l.length ≤ 4000000000) (p : Oid) :
    CallOK Tryz.prog 91 [.list 1 (l.map AV.str), .fn (.func fu) [] []] (Oid.under p) ⟨[], .int .i64 (ixF q l), []⟩ := by
  refine fnOK (n := 19) (rs := [.tmp 4]) Tryz.func91 rfl rfl (by decide) rfl rfl rfl ?_; rintro x rfl hrd hng
  (repeat (first | (refine K_ifT rfl rfl ?_) | (refine K_ifF rfl rfl ?_) | (refine K_ev nmd [] hng (by kernel_rfl) fun hf C S K hC1 hC hS hK => ?_; simp (disch := first | omega | assumption) only [go_sem]; refine hK ?_; clear hK hS hC hC1 K S C hf) | ((first | refine zk ?_ | refine zn ?_ | refine ze ?_); with_reducible (constructor; repeat constructor); try refine zl ?_)))
  refine K_loop [0, 1, 7, 8] (fun k s' => ∃ i c : Nat, k = l.length - i ∧ i ≤ l.length ∧ (l.take i).any q = false ∧ s' = ⟨[(0, .list 1 (l.map AV.str)), (1, .fn (.func fu) [] []), (7, .int .i64 l.length), (8, .int .i64 i)], Mem.of [], c, []⟩) _ ⟨0, _, rfl, Nat.zero_le _, by simp, rfl⟩ ?_
  rintro k s' ⟨i, c, rfl, hi, hno, rfl⟩
  (repeat (first | (refine K_ifT rfl rfl ?_) | (refine K_ifF rfl rfl ?_) | (refine K_ev nmd [] hng (by kernel_rfl) fun hf C S K hC1 hC hS hK => ?_; simp (disch := first | omega | assumption) only [go_sem]; refine hK ?_; clear hK hS hC hC1 K S C hf) | ((first | refine zk ?_ | refine zn ?_ | refine ze ?_); with_reducible (constructor; repeat constructor); try refine zl ?_)))
  refine K_ifd rfl rfl (fun hb => ?_) (fun hb => ?_)
  · have hlt : i < l.length := by omega
    (repeat (first | (refine K_ifT rfl rfl ?_) | (refine K_ifF rfl rfl ?_) | (refine K_ev nmd [] hng (by kernel_rfl) fun hf C S K hC1 hC hS hK => ?_; simp (disch := first | omega | assumption) only [go_sem]; (repeat ((first | refine hC1 _ (hq (l.getD i default) _) (by simp (disch := first | omega | assumption) only [go_sem]) ?_); simp (disch := first | omega | assumption) only [go_sem])); refine hK ?_; clear hK hS hC hC1 K S C hf) | ((first | refine zk ?_ | refine zn ?_ | refine ze ?_); with_reducible (constructor; repeat constructor); try refine zl ?_)))
    refine K_if rfl rfl (fun hb => ?_) (fun hb => ?_)
    · rw [ixF_at hlt hno hb]
      (repeat (first | (refine K_ifT rfl rfl ?_) | (refine K_ifF rfl rfl ?_) | (refine K_ev nmd [] hng (by kernel_rfl) fun hf C S K hC1 hC hS hK => ?_; simp (disch := first | omega | assumption) only [go_sem]; refine hK ?_; clear hK hS hC hC1 K S C hf) | ((first | refine zk ?_ | refine zn ?_ | refine ze ?_); with_reducible (constructor; repeat constructor); try refine zl ?_)))
      exact K_ret (done1 rfl)
    · have hn := any_step hlt hno hb
      (repeat (first | (refine K_ifT rfl rfl ?_) | (refine K_ifF rfl rfl ?_) | (refine K_ev nmd [] hng (by kernel_rfl) fun hf C S K hC1 hC hS hK => ?_; simp (disch := first | omega | assumption) only [go_sem]; refine hK ?_; clear hK hS hC hC1 K S C hf) | ((first | refine zk ?_ | refine zn ?_ | refine ze ?_); with_reducible (constructor; repeat constructor); try refine zl ?_)))
      exact ⟨_, _, by omega, fun _ _ h => h, i + 1, _, rfl, by omega, hn, rfl⟩
  · obtain rfl : i = l.length := by omega
    rw [List.take_length] at hno
    rw [ixF_none hno]
    (repeat (first | (refine K_ifT rfl rfl ?_) | (refine K_ifF rfl rfl ?_) | (refine K_ev nmd [] hng (by kernel_rfl) fun hf C S K hC1 hC hS hK => ?_; simp (disch := first | omega | assumption) only [go_sem]; refine hK ?_; clear hK hS hC hC1 K S C hf) | ((first | refine zk ?_ | refine zn ?_ | refine ze ?_); with_reducible (constructor; repeat constructor); try refine zl ?_)))
    exact K_ret (done1 rfl)
theorem containsFunc_ok (q : Str → Bool) (fu : Nat) (hq : ∀ s p, CallOK Tryz.prog fu [.str s] (Oid.under p) ⟨[], .bool (q s), []⟩) (l : List Str) (hl : l.length ≤ 4000000000) (p : Oid) :
    CallOK Tryz.prog 62 [.list 1 (l.map AV.str), .fn (.func fu) [] []] (Oid.under p) ⟨[], .bool (l.any q), []⟩ := by
  refine fnOK (n := 9) (rs := [.tmp 4]) Tryz.func62 rfl rfl (by decide) rfl rfl rfl ?_; rintro x rfl hrd hng
  (repeat (first | (refine K_ifT rfl rfl ?_) | (refine K_ifF rfl rfl ?_) | (refine K_ev nmd [] hng (by kernel_rfl) fun hf C S K hC1 hC hS hK => ?_; simp (disch := first | omega | assumption) only [go_sem]; (repeat ((first | refine hC1 _ (indexFunc_ok q fu hq l hl _) (by simp (disch := first | omega | assumption) only [go_sem]) ?_); simp (disch := first | omega | assumption) only [go_sem])); refine hK ?_; clear hK hS hC hC1 K S C hf) | ((first | refine zk ?_ | refine zn ?_ | refine ze ?_); with_reducible (constructor; repeat constructor); try refine zl ?_)))
  exact K_ret (done1 (congrArg AV.bool (ixF_any l)))
theorem index_ok (x0 : Str) (l : List Str) (hl : l.length ≤ 4000000000) (p : Oid) :
    CallOK Tryz.prog 61 [.list 1 (l.map AV.str), .str x0] (Oid.under p) ⟨[], .int .i64 (ixF (fun s => decide (x0 = s)) l), []⟩ := by
  refine fnOK (n := 19) (rs := [.tmp 4]) Tryz.func61 rfl rfl (by decide) rfl rfl rfl ?_; rintro x rfl hrd hng
  (repeat (first | (refine K_ifT rfl rfl ?_) | (refine K_ifF rfl rfl ?_) | (refine K_ev nmd [] hng (by kernel_rfl) fun hf C S K hC1 hC hS hK => ?_; simp (disch := first | omega | assumption) only [go_sem]; refine hK ?_; clear hK hS hC hC1 K S C hf) | ((first | refine zk ?_ | refine zn ?_ | refine ze ?_); with_reducible (constructor; repeat constructor); try refine zl ?_)))
  refine K_loop [0, 1, 7, 8] (fun k s' => ∃ i c : Nat, k = l.length - i ∧ i ≤ l.length ∧ (l.take i).any (fun s => decide (x0 = s)) = false ∧ s' = ⟨[(0, .list 1 (l.map AV.str)), (1, .str x0), (7, .int .i64 l.length), (8, .int .i64 i)], Mem.of [], c, []⟩) _ ⟨0, _, rfl, Nat.zero_le _, by simp, rfl⟩ ?_
  rintro k s' ⟨i, c, rfl, hi, hno, rfl⟩
  (repeat (first | (refine K_ifT rfl rfl ?_) | (refine K_ifF rfl rfl ?_) | (refine K_ev nmd [] hng (by kernel_rfl) fun hf C S K hC1 hC hS hK => ?_; simp (disch := first | omega | assumption) only [go_sem]; refine hK ?_; clear hK hS hC hC1 K S C hf) | ((first | refine zk ?_ | refine zn ?_ | refine ze ?_); with_reducible (constructor; repeat constructor); try refine zl ?_)))
  refine K_ifd rfl rfl (fun hb => ?_) (fun hb => ?_)
  · have hlt : i < l.length := by omega
    (repeat (first | (refine K_ifT rfl rfl ?_) | (refine K_ifF rfl rfl ?_) | (refine K_ev nmd [] hng (by kernel_rfl) fun hf C S K hC1 hC hS hK => ?_; simp (disch := first | omega | assumption) only [go_sem]; refine hK ?_; clear hK hS hC hC1 K S C hf) | ((first | refine zk ?_ | refine zn ?_ | refine ze ?_); with_reducible (constructor; repeat constructor); try refine zl ?_)))
    refine K_ifd rfl rfl (fun hb => ?_) (fun hb => ?_)
    · rw [ixF_at hlt hno (by simpa using hb)]
      (repeat (first | (refine K_ifT rfl rfl ?_) | (refine K_ifF rfl rfl ?_) | (refine K_ev nmd [] hng (by kernel_rfl) fun hf C S K hC1 hC hS hK => ?_; simp (disch := first | omega | assumption) only [go_sem]; refine hK ?_; clear hK hS hC hC1 K S C hf) | ((first | refine zk ?_ | refine zn ?_ | refine ze ?_); with_reducible (constructor; repeat constructor); try refine zl ?_)))
      exact K_ret (done1 rfl)
    · have hn := any_step hlt hno (by simpa using hb)
      (repeat (first | (refine K_ifT rfl rfl ?_) | (refine K_ifF rfl rfl ?_) | (refine K_ev nmd [] hng (by kernel_rfl) fun hf C S K hC1 hC hS hK => ?_; simp (disch := first | omega | assumption) only [go_sem]; refine hK ?_; clear hK hS hC hC1 K S C hf) | ((first | refine zk ?_ | refine zn ?_ | refine ze ?_); with_reducible (constructor; repeat constructor); try refine zl ?_)))
      exact ⟨_, _, by omega, fun _ _ h => h, i + 1, _, rfl, by omega, hn, rfl⟩
  · obtain rfl : i = l.length := by omega
    rw [List.take_length] at hno
    rw [ixF_none hno]
    (repeat (first | (refine K_ifT rfl rfl ?_) | (refine K_ifF rfl rfl ?_) | (refine K_ev nmd [] hng (by kernel_rfl) fun hf C S K hC1 hC hS hK => ?_; simp (disch := first | omega | assumption) only [go_sem]; refine hK ?_; clear hK hS hC hC1 K S C hf) | ((first | refine zk ?_ | refine zn ?_ | refine ze ?_); with_reducible (constructor; repeat constructor); try refine zl ?_)))
    exact K_ret (done1 rfl)
theorem contains_ok (x0 : Str) (l : List Str) (hl : l.length ≤ 4000000000) (p : Oid) :
    CallOK Tryz.prog 65 [.list 1 (l.map AV.str), .str x0] (Oid.under p) ⟨[], .bool (l.any fun s => decide (x0 = s)), []⟩ := by
  refine fnOK (n := 9) (rs := [.tmp 4]) Tryz.func65 rfl rfl (by decide) rfl rfl rfl ?_; rintro x rfl hrd hng
  (repeat (first | (refine K_ifT rfl rfl ?_) | (refine K_ifF rfl rfl ?_) | (refine K_ev nmd [] hng (by kernel_rfl) fun hf C S K hC1 hC hS hK => ?_; simp (disch := first | omega | assumption) only [go_sem]; (repeat ((first | refine hC1 _ (index_ok x0 l hl _) (by simp (disch := first | omega | assumption) only [go_sem]) ?_); simp (disch := first | omega | assumption) only [go_sem])); refine hK ?_; clear hK hS hC hC1 K S C hf) | ((first | refine zk ?_ | refine zn ?_ | refine ze ?_); with_reducible (constructor; repeat constructor); try refine zl ?_)))
  exact K_ret (done1 (congrArg AV.bool (ixF_any l)))
theorem sub2_ne {a b c d : Nat} {p : Oid} : (Oid.sub a b (.sub c d p) = p) = False := eq_false fun h => by have := congrArg Oid.depth h; simp only [Oid.depth] at this; omega
theorem sub2_en {a b c d : Nat} {p : Oid} : (p = Oid.sub a b (.sub c d p)) = False := eq_false fun h => by have := congrArg Oid.depth h; simp only [Oid.depth] at this; omega
attribute [go_sem] sub2_ne sub2_en
theorem bad_x (p : Oid) : CallOK Tryz.prog 55 [] (Oid.under p) ⟨[], .tuple [.agg [.int .i64 0, .str [], .str []], .bool false], []⟩ := bad_ok p
theorem told_x (s : Str) (p : Oid) : CallOK Tryz.prog 52 [.str s] (Oid.under p) ⟨[], .tuple [.agg [.int .i64 0, .str s, .str []], .bool true], []⟩ := told_ok s p
/-- Arguments that sort does not know. -/
def oddS (s : Str) : Bool := !decide (s = [45, 114]) && !decide (s = [45, 117])
theorem oddS_ok (s : Str) (p : Oid) : CallOK Tryz.prog 63 [.str s] (Oid.under p) ⟨[], .bool (oddS s), []⟩ := by
  refine fnOK (n := 9) (rs := [.tmp 2]) Tryz.func63 rfl rfl (by decide) rfl rfl rfl ?_; rintro x rfl hrd hng
  (try ((first | refine zk ?_ | refine zn ?_ | refine ze ?_); with_reducible (constructor; repeat constructor)); try refine zl ?_)
  refine K_ev nmd [] hng (by kernel_rfl) fun hf C S K hC1 hC hS hK => ?_; simp (disch := first | omega | assumption) only [go_sem]
  refine hK ?_; clear hK hS hC hC1 K S C hf
  (try ((first | refine zk ?_ | refine zn ?_ | refine ze ?_); with_reducible (constructor; repeat constructor)); try refine zl ?_)
  refine K_ev nmd [(2, 5)] hng (by kernel_rfl) fun hf C S K hC1 hC hS hK => ?_; simp (disch := first | omega | assumption) only [go_sem]
  (repeat' (first | (refine evG_split (fun hv => ?_) (fun hv => ?_) <;> (try simp only [zb1, zb2, zb3, zb4, zb5] at hv) <;> simp (disch := first | omega | assumption) only [go_sem, hv]) | (refine hK ?_; clear hK hS hC hC1 K S C hf)))
  · (try ((first | refine zk ?_ | refine zn ?_ | refine ze ?_); with_reducible (constructor; repeat constructor)); try refine zl ?_)
    exact K_ret (done1 ((if_pos hv).trans (congrArg AV.bool (by simp only [ne_eq] at hv; simp only [oddS, decide_eq_false hv, Bool.not_false, Bool.true_and, ne_eq, decide_not]))))
  · contradiction
  · (try ((first | refine zk ?_ | refine zn ?_ | refine ze ?_); with_reducible (constructor; repeat constructor)); try refine zl ?_)
    simp only [ne_eq, Classical.not_not] at hv
    exact K_ret (done1 (congrArg AV.bool (by simp only [oddS, decide_eq_true hv, Bool.not_true, Bool.false_and])))
/-- The row that Lines hands back. -/
abbrev rowL (p : Oid) : Oid := .sub 0 0 (.sub 2 2 p)
theorem lines_sl (s : Str) (h0 : ¬ s = []) (hl : s.length ≤ 4000000000) (p : Oid) : CallOK Tryz.prog 56 [.str s] (Oid.under p) ⟨[], .sl (rowL p) 1 (linesL s).length, [(rowL p, some (.arr 1 ((linesL s).map AV.str)))]⟩ := by
  refine fnOK (n := 8) (rs := [.tmp 2]) Tryz.func56 rfl rfl (by decide) rfl rfl rfl ?_; rintro x rfl hrd hng
  (repeat (first | (refine K_ifT rfl rfl ?_) | (refine K_ifF rfl rfl ?_) | (refine K_ev nmd [] hng (by kernel_rfl) fun hf C S K hC1 hC hS hK => ?_; simp (disch := first | omega | assumption) only [go_sem]; refine hK ?_; clear hK hS hC hC1 K S C hf) | ((first | refine zk ?_ | refine zn ?_ | refine ze ?_); with_reducible (constructor; repeat constructor); try refine zl ?_)))
  refine K_ifd rfl rfl (fun hb => ?_) (fun hb => ?_)
  · exact absurd hb h0
  · (repeat (first | (refine K_ifT rfl rfl ?_) | (refine K_ifF rfl rfl ?_) | (refine K_ev nmd [] hng (by kernel_rfl) fun hf C S K hC1 hC hS hK => ?_; simp (disch := first | omega | assumption) only [go_sem]; (repeat ((first | refine hC1 _ (trimSuffix_ok s [10] (by omega) _) (by simp (disch := first | omega | assumption) only [go_sem]) ?_ | refine hC1 _ (splitL_lines s h0 hl _) (by simp (disch := first | omega | assumption) only [go_sem]) ?_); simp (disch := first | omega | assumption) only [go_sem])); refine hK ?_; clear hK hS hC hC1 K S C hf) | ((first | refine zk ?_ | refine zn ?_ | refine ze ?_); with_reducible (constructor; repeat constructor); try refine zl ?_)))
    refine K_ret (done_upd rfl ?_ ?_)
    all_goals simp only [List.mem_cons, List.not_mem_nil, or_false, forall_eq_or_imp, forall_eq, Option.some.injEq, forall_eq', Mem.of_cons_at, eq_self, if_true, ↓reduceIte, reduceCtorEq, implies_true, not_true_eq_false, false_imp_iff, true_and, and_true, false_and, and_false, imp_self, Oid.ty.injEq, Nat.reduceEqDiff]
theorem lines_nil (p : Oid) : CallOK Tryz.prog 56 [.str []] (Oid.under p) ⟨[], .nilSl, []⟩ := by
  refine fnOK (n := 8) (rs := [.tmp 2]) Tryz.func56 rfl rfl (by decide) rfl rfl rfl ?_; rintro x rfl hrd hng
  (repeat (first | (refine K_ifT rfl rfl ?_) | (refine K_ifF rfl rfl ?_) | (refine K_ev nmd [] hng (by kernel_rfl) fun hf C S K hC1 hC hS hK => ?_; simp (disch := first | omega | assumption) only [go_sem]; refine hK ?_; clear hK hS hC hC1 K S C hf) | ((first | refine zk ?_ | refine zn ?_ | refine ze ?_); with_reducible (constructor; repeat constructor); try refine zl ?_)))
  exact K_ret (done1 rfl)
end Go.Proofs.YtiaiggbimlbkfaaGreatDoor
