/- Filter: Lines and Joined of the program and of the reference, walked. -/
import Derived.Test.YtiaiggbimlbkfaaGreatDoorQ2
set_option linter.unusedVariables false
set_option linter.unusedSimpArgs false
namespace Go.Proofs.YtiaiggbimlbkfaaGreatDoor
open Go Go.Ab
set_option maxRecDepth 20000
set_option maxHeartbeats 4000000
def joinN : List Str → Str
  | [] => []
  | s :: l => s ++ [10] ++ joinN l
theorem joinN_append (a b : List Str) : joinN (a ++ b) = joinN a ++ joinN b := by
  induction a with
  | nil => rfl
  | cons s a ih => simp only [List.cons_append, joinN, ih, List.append_assoc]
theorem joinN_take {l : List Str} {i : Nat} (h : i < l.length) : joinN (l.take (i + 1)) = joinN (l.take i) ++ (l.getD i default ++ [10]) := by
  rw [List.take_add_one, joinN_append, List.getElem?_eq_getElem h, List.getD_eq_getElem?_getD, List.getElem?_eq_getElem h]
  simp [joinN]
theorem joinN_take_le {l : List Str} (i : Nat) : (joinN (l.take i)).length ≤ (joinN l).length := by
  conv => rhs; rw [← List.take_append_drop i l, joinN_append, List.length_append]
  omega
theorem joinN_len (l : List Str) : l.length ≤ (joinN l).length := by
  induction l with
  | nil => exact Nat.le_refl _
  | cons s l ih => simp only [joinN, List.length_cons, List.length_append, List.length_nil]; omega
theorem under_next {c i j : Nat} {t : Nat} {p : Oid} (h : ¬ j = i) : ¬ Oid.under (.sub c j p) (.ty t (.sub c i p)) := by
  have hself : ¬ Oid.under (.sub c j p) p := fun h => by have := Oid.under_depth h; simp [Oid.depth] at this; omega
  simp only [Oid.under, reduceCtorEq, false_or, Oid.sub.injEq, h, false_and, and_false, hself, or_false, not_false_eq_true]
theorem under_next2 {c c' i j : Nat} {t : Nat} {p : Oid} (h : ¬ c = c') : ¬ Oid.under (.sub c j p) (.ty t (.sub c' i p)) := by
  have hself : ¬ Oid.under (.sub c j p) p := fun h => by have := Oid.under_depth h; simp [Oid.depth] at this; omega
  have h' : ¬ c' = c := fun e => h e.symm
  simp only [Oid.under, reduceCtorEq, false_or, Oid.sub.injEq, h, h', false_and, and_false, hself, or_false, not_false_eq_true]
/-- The row behind n lines. -/
def rowJ (n : Nat) (p : Oid) : Oid := .sub 2 6 (.sub (4 * n + 1) 2 p)
theorem rowJ_young {c n : Nat} {p : Oid} (h : 4 * n + 1 < c) : ¬ Oid.under (.sub c 2 p) (.ty 5 (rowJ n p)) := by
  have hself : ¬ Oid.under (.sub c 2 p) p := fun h => by have := Oid.under_depth h; simp [Oid.depth] at this; omega
  simp only [rowJ, Oid.under, reduceCtorEq, false_or, Oid.sub.injEq, Nat.reduceEqDiff, false_and, and_false, hself, or_false]
  omega
theorem joined_ok (l : List Str) (hl : (joinN l).length ≤ 140737488355328) (p : Oid) : CallOK Tryz.prog 57 [.list 1 (l.map AV.str)] (Oid.under p) ⟨[], .str (joinN l), []⟩ := by
  have hn := joinN_len l
  refine fnOK (n := 17) (rs := [.tmp 2]) Tryz.func57 rfl rfl (by decide) rfl rfl rfl ?_; rintro x rfl hrd hng
  (repeat (first | (refine K_ifT rfl rfl ?_) | (refine K_ifF rfl rfl ?_) | (refine K_ev nmd [] hng (by kernel_rfl) fun hf C S K hC1 hC hS hK => ?_; simp (disch := first | omega | assumption) only [go_sem]; refine hK ?_; clear hK hS hC hC1 K S C hf) | ((first | refine zk ?_ | refine zn ?_ | refine ze ?_); with_reducible (constructor; repeat constructor); try refine zl ?_)))
  refine K_loop [3, 6, 7, 8] (fun k s' => ∃ (i : Nat) (M : List (Oid × AObj)), k = l.length - i ∧ i ≤ l.length ∧ (i = 0 ∧ M = [(.ty 67 (.sub 1 0 x.p), .cells [.nilPtr, .nilSl])] ∨
      ¬ i = 0 ∧ M = [(.ty 67 (.sub 1 0 x.p), .cells [.ptr (.ty 67 (.sub 1 0 x.p)) 0, .sl (.ty 5 (rowJ i x.p)) 1 (joinN (l.take i)).length]), (.ty 5 (rowJ i x.p), .arr 1 ((joinN (l.take i)).map byA))]) ∧
      s' = ⟨[(3, .ptr (.ty 67 (.sub 1 0 x.p)) 0), (6, .list 1 (l.map AV.str)), (7, .int .i64 l.length), (8, .int .i64 i)], Mem.of M, 3 + 4 * i, []⟩) _ ⟨0, _, rfl, Nat.zero_le _, .inl ⟨rfl, rfl⟩, rfl⟩ ?_
  rintro k s' ⟨i, M, rfl, hi, hM, rfl⟩
  rcases hM with ⟨rfl, rfl⟩ | ⟨h0, rfl⟩
  · (repeat (first | (refine K_ifT rfl rfl ?_) | (refine K_ifF rfl rfl ?_) | (refine K_ev nmd [] hng (by kernel_rfl) fun hf C S K hC1 hC hS hK => ?_; simp (disch := first | omega | assumption) only [go_sem]; refine hK ?_; clear hK hS hC hC1 K S C hf) | ((first | refine zk ?_ | refine zn ?_ | refine ze ?_); with_reducible (constructor; repeat constructor); try refine zl ?_)))
    refine K_ifd rfl rfl (fun hb => ?_) (fun hb => ?_)
    · have hi0 : 0 < l.length := by omega
      have ht := joinN_take (l := l) hi0
      have hle := joinN_take_le (l := l) 1
      rw [List.take_zero] at ht
      simp only [Nat.zero_add] at ht
      have hsz : (l.getD 0 default).length + 1 ≤ 140737488355328 := by rw [ht] at hle; simp only [joinN, List.nil_append, List.length_append, List.length_singleton] at hle; omega
      (repeat (first | (refine K_ifT rfl rfl ?_) | (refine K_ifF rfl rfl ?_) | (refine K_ev nmd [] hng (by kernel_rfl) fun hf C S K hC1 hC hS hK => ?_; simp (disch := first | omega | assumption) only [go_sem]; (repeat ((first | refine hC1 _ (ws_fresh (.sub 1 0 x.p) (l.getD 0 default ++ [10]) (by simpa using hsz) _ (under_next2 (by omega))) (by simp (disch := first | omega | assumption) only [go_sem]) ?_); simp (disch := first | omega | assumption) only [go_sem])); refine hK ?_; clear hK hS hC hC1 K S C hf) | ((first | refine zk ?_ | refine zn ?_ | refine ze ?_); with_reducible (constructor; repeat constructor); try refine zl ?_)))
      refine ⟨_, _, ?_, fun _ _ h => h, 1, _, rfl, by omega, .inr ⟨by omega, rfl⟩, ?_⟩
      · omega
      · rw [ht]; simp only [joinN, List.nil_append, List.length_append, List.length_cons, List.length_nil]; rfl
    · have : l = [] := List.eq_nil_of_length_eq_zero (by omega)
      subst this
      (repeat (first | (refine K_ifT rfl rfl ?_) | (refine K_ifF rfl rfl ?_) | (refine K_ev nmd [] hng (by kernel_rfl) fun hf C S K hC1 hC hS hK => ?_; simp (disch := first | omega | assumption) only [go_sem]; (repeat ((first | refine hC1 _ (string_nil (.sub 1 0 _) _) (by simp (disch := first | omega | assumption) only [go_sem]) ?_); simp (disch := first | omega | assumption) only [go_sem])); refine hK ?_; clear hK hS hC hC1 K S C hf) | ((first | refine zk ?_ | refine zn ?_ | refine ze ?_); with_reducible (constructor; repeat constructor); try refine zl ?_)))
      exact K_ret (done1 rfl)
  · (repeat (first | (refine K_ifT rfl rfl ?_) | (refine K_ifF rfl rfl ?_) | (refine K_ev nmd [] hng (by kernel_rfl) fun hf C S K hC1 hC hS hK => ?_; simp (disch := first | omega | assumption) only [go_sem]; refine hK ?_; clear hK hS hC hC1 K S C hf) | ((first | refine zk ?_ | refine zn ?_ | refine ze ?_); with_reducible (constructor; repeat constructor); try refine zl ?_)))
    refine K_ifd rfl rfl (fun hb => ?_) (fun hb => ?_)
    · have ht := joinN_take (l := l) (i := i) (by omega)
      have hle := joinN_take_le (l := l) (i + 1)
      have hsz : (joinN (l.take i)).length + ((l.getD i default).length + 1) ≤ 140737488355328 := by rw [ht] at hle; simp only [List.length_append, List.length_singleton] at hle; omega
      (repeat (first | (refine K_ifT rfl rfl ?_) | (refine K_ifF rfl rfl ?_) | (refine K_ev nmd [] hng (by kernel_rfl) fun hf C S K hC1 hC hS hK => ?_; simp (disch := first | omega | assumption) only [go_sem]; (repeat ((first | refine hC1 _ (ws_used (.sub 1 0 x.p) (rowJ i x.p) (joinN (l.take i)) (l.getD i default ++ [10]) (by simpa using hsz) _ (under_next2 (by omega)) (rowJ_young (by omega))) (by simp (disch := first | omega | assumption) only [go_sem]) ?_); simp (disch := first | omega | assumption) only [go_sem])); refine hK ?_; clear hK hS hC hC1 K S C hf) | ((first | refine zk ?_ | refine zn ?_ | refine ze ?_); with_reducible (constructor; repeat constructor); try refine zl ?_)))
      refine ⟨_, _, ?_, fun _ _ h => h, i + 1, _, rfl, by omega, .inr ⟨by omega, rfl⟩, ?_⟩
      · omega
      · have hc : 4 * (i + 1) + 1 = 3 + 4 * i + 1 + 1 := by omega
        rw [ht, List.length_append, List.length_append, List.length_singleton, rowJ, hc, show 3 + 4 * i + 1 + 1 + 1 + 1 = 3 + 4 * (i + 1) by omega]; rfl
    · obtain rfl : i = l.length := by omega
      have h0 : 0 < (joinN l).length := by omega
      simp only [List.take_length]
      (repeat (first | (refine K_ifT rfl rfl ?_) | (refine K_ifF rfl rfl ?_) | (refine K_ev nmd [] hng (by kernel_rfl) fun hf C S K hC1 hC hS hK => ?_; simp (disch := first | omega | assumption) only [go_sem]; (repeat ((first | refine hC1 _ (string_ok (.sub 1 0 _) (rowJ l.length x.p) (joinN l) h0 hl _) (by simp (disch := first | omega | assumption) only [go_sem]) ?_); simp (disch := first | omega | assumption) only [go_sem])); refine hK ?_; clear hK hS hC hC1 K S C hf) | ((first | refine zk ?_ | refine zn ?_ | refine ze ?_); with_reducible (constructor; repeat constructor); try refine zl ?_)))
      exact K_ret (done1 rfl)
theorem trimS_le (s : Str) : (Lib.trimSuffix s [10]).length ≤ s.length := by
  unfold Lib.trimSuffix; split
  · rw [List.length_take]; omega
  · exact Nat.le_refl _
theorem splitL_lines (s : Str) (h0 : ¬ s = []) (hl : s.length ≤ 4000000000) (p : Oid) :
    CallOK Tryz.prog 72 [.str (Lib.trimSuffix s [10]), .str [10]] (Oid.under p) ⟨[], .sl (.sub 0 0 p) 1 (linesL s).length, [(.sub 0 0 p, some (.arr 1 ((linesL s).map AV.str)))]⟩ := by
  have h1 := split_ok (Lib.trimSuffix s [10]) 10 (by have := trimS_le s; omega) p
  rwa [lines_split s h0] at h1
theorem lines_ok (s : Str) (hl : s.length ≤ 4000000000) (p : Oid) : CallOK Tryz.prog 56 [.str s] (Oid.under p) ⟨[], .list 1 ((linesL s).map AV.str), []⟩ := by
  refine fnOK (n := 8) (rs := [.tmp 2]) Tryz.func56 rfl rfl (by decide) rfl rfl rfl ?_; rintro x rfl hrd hng
  (repeat (first | (refine K_ifT rfl rfl ?_) | (refine K_ifF rfl rfl ?_) | (refine K_ev nmd [] hng (by kernel_rfl) fun hf C S K hC1 hC hS hK => ?_; simp (disch := first | omega | assumption) only [go_sem]; refine hK ?_; clear hK hS hC hC1 K S C hf) | ((first | refine zk ?_ | refine zn ?_ | refine ze ?_); with_reducible (constructor; repeat constructor); try refine zl ?_)))
  refine K_ifd rfl rfl (fun hb => ?_) (fun hb => ?_)
  · subst hb
    (repeat (first | (refine K_ifT rfl rfl ?_) | (refine K_ifF rfl rfl ?_) | (refine K_ev nmd [] hng (by kernel_rfl) fun hf C S K hC1 hC hS hK => ?_; simp (disch := first | omega | assumption) only [go_sem]; refine hK ?_; clear hK hS hC hC1 K S C hf) | ((first | refine zk ?_ | refine zn ?_ | refine ze ?_); with_reducible (constructor; repeat constructor); try refine zl ?_)))
    exact K_void 2 1 rfl (K_retl (xs := []) rfl (by simp (disch := first | omega | assumption) only [go_sem]) rfl rfl)
  · (repeat (first | (refine K_ifT rfl rfl ?_) | (refine K_ifF rfl rfl ?_) | (refine K_ev nmd [] hng (by kernel_rfl) fun hf C S K hC1 hC hS hK => ?_; simp (disch := first | omega | assumption) only [go_sem]; (repeat ((first | refine hC1 _ (trimSuffix_ok s [10] (by omega) _) (by simp (disch := first | omega | assumption) only [go_sem]) ?_ | refine hC1 _ (splitL_lines s hb hl _) (by simp (disch := first | omega | assumption) only [go_sem]) ?_); simp (disch := first | omega | assumption) only [go_sem])); refine hK ?_; clear hK hS hC hC1 K S C hf) | ((first | refine zk ?_ | refine zn ?_ | refine ze ?_); with_reducible (constructor; repeat constructor); try refine zl ?_)))
    exact K_retl rfl (by simp (disch := first | omega | assumption) only [go_sem]) (List.length_map _).symm rfl
theorem joinedR_ok (l : List Str) (hl : (joinN l).length ≤ 140737488355328) (p : Oid) : CallOK Tryz.prog 23 [.list 1 (l.map AV.str)] (Oid.under p) ⟨[], .str (joinN l), []⟩ := by
  have hn := joinN_len l
  refine fnOK (n := 19) (rs := [.tmp 2]) Tryz.func23 rfl rfl (by decide) rfl rfl rfl ?_; rintro x rfl hrd hng
  (repeat (first | (refine K_ifT rfl rfl ?_) | (refine K_ifF rfl rfl ?_) | (refine K_ev nmd [] hng (by kernel_rfl) fun hf C S K hC1 hC hS hK => ?_; simp (disch := first | omega | assumption) only [go_sem]; refine hK ?_; clear hK hS hC hC1 K S C hf) | ((first | refine zk ?_ | refine zn ?_ | refine ze ?_); with_reducible (constructor; repeat constructor); try refine zl ?_)))
  refine K_loop [0, 3, 4] (fun k s' => ∃ i c : Nat, k = l.length - i ∧ i ≤ l.length ∧ s' = ⟨[(0, .list 1 (l.map AV.str)), (3, .str (joinN (l.take i))), (4, .int .i64 i)], Mem.of [], c, []⟩) _ ⟨0, _, rfl, Nat.zero_le _, rfl⟩ ?_
  rintro k s' ⟨i, c, rfl, hi, rfl⟩
  (repeat (first | (refine K_ifT rfl rfl ?_) | (refine K_ifF rfl rfl ?_) | (refine K_ev nmd [] hng (by kernel_rfl) fun hf C S K hC1 hC hS hK => ?_; simp (disch := first | omega | assumption) only [go_sem]; refine hK ?_; clear hK hS hC hC1 K S C hf) | ((first | refine zk ?_ | refine zn ?_ | refine ze ?_); with_reducible (constructor; repeat constructor); try refine zl ?_)))
  refine K_ifd rfl rfl (fun hb => ?_) (fun hb => ?_)
  · have ht := joinN_take (l := l) (i := i) (by omega)
    have hle := joinN_take_le (l := l) (i + 1)
    have hsz : (joinN (l.take i)).length + ((l.getD i default).length + 1) ≤ 140737488355328 := by rw [ht] at hle; simp only [List.length_append, List.length_singleton] at hle; omega
    (repeat (first | (refine K_ifT rfl rfl ?_) | (refine K_ifF rfl rfl ?_) | (refine K_ev nmd [] hng (by kernel_rfl) fun hf C S K hC1 hC hS hK => ?_; simp (disch := first | omega | assumption) only [go_sem]; refine hK ?_; clear hK hS hC hC1 K S C hf) | ((first | refine zk ?_ | refine zn ?_ | refine ze ?_); with_reducible (constructor; repeat constructor); try refine zl ?_)))
    refine ⟨_, _, ?_, fun _ _ h => h, i + 1, c + 1 + 1 + 1, rfl, by omega, ?_⟩
    · omega
    · rw [ht, ← List.append_assoc]; rfl
  · obtain rfl : i = l.length := by omega
    rw [List.take_length]
    (repeat (first | (refine K_ifT rfl rfl ?_) | (refine K_ifF rfl rfl ?_) | (refine K_ev nmd [] hng (by kernel_rfl) fun hf C S K hC1 hC hS hK => ?_; simp (disch := first | omega | assumption) only [go_sem]; refine hK ?_; clear hK hS hC hC1 K S C hf) | ((first | refine zk ?_ | refine zn ?_ | refine ze ?_); with_reducible (constructor; repeat constructor); try refine zl ?_)))
    exact K_ret (done1 rfl)
theorem getD_out {s : Str} {i : Nat} (h : i < s.length) : s.drop i = s.getD i 0 :: s.drop (i + 1) := drop_cons0 h
/-- The reference's walk over a text: behind 'from' no end has come. -/
theorem lines_step {s : Str} {f i : Nat} (hfi : f ≤ i) (hi : i < s.length) (h : (10 : UInt8) ∉ (s.take i).drop f) (h10 : s.getD i 0 = 10) : linesL (s.drop f) = (s.take i).drop f :: linesL (s.drop (i + 1)) := by
  have h1 : s.drop f = (s.take i).drop f ++ 10 :: s.drop (i + 1) := by
    have h2 : s = s.take i ++ s.drop i := (List.take_append_drop i s).symm
    conv => lhs; rw [h2, List.drop_append_of_le_length (by rw [List.length_take]; omega), getD_out hi, h10]
  rw [h1, linesL_hit _ h]
theorem no_step {s : Str} {f i : Nat} (hfi : f ≤ i) (hi : i < s.length) (h : (10 : UInt8) ∉ (s.take i).drop f) (h10 : ¬ s.getD i 0 = 10) : (10 : UInt8) ∉ (s.take (i + 1)).drop f := by
  rw [List.take_add_one, List.drop_append_of_le_length (by rw [List.length_take]; omega), List.getElem?_eq_getElem hi]
  have he : s[i] = s.getD i 0 := by rw [List.getD_eq_getElem?_getD, List.getElem?_eq_getElem hi]; rfl
  simp only [Option.toList, List.mem_append, List.mem_singleton, not_or]
  exact ⟨h, fun e => h10 (by rw [← he]; exact e.symm)⟩
theorem linesR_ok (s : Str) (hl : s.length ≤ 4000000000) (p : Oid) : CallOK Tryz.prog 20 [.str s] (Oid.under p) ⟨[], .list 1 ((linesL s).map AV.str), []⟩ := by
  refine fnOK (n := 36) (rs := [.tmp 2]) Tryz.func20 rfl rfl (by decide) rfl rfl rfl ?_; rintro x rfl hrd hng
  (repeat (first | (refine K_ifT rfl rfl ?_) | (refine K_ifF rfl rfl ?_) | (refine K_ev nmd [] hng (by kernel_rfl) fun hf C S K hC1 hC hS hK => ?_; simp (disch := first | omega | assumption) only [go_sem]; refine hK ?_; clear hK hS hC hC1 K S C hf) | ((first | refine zk ?_ | refine zn ?_ | refine ze ?_); with_reducible (constructor; repeat constructor); try refine zl ?_)))
  refine K_void 3 1 rfl ?_
  simp (disch := first | omega | assumption) only [go_sem]
  refine K_loop [0, 3, 4, 5] (fun k s' => ∃ (i f d j c : Nat) (done : List Str), k = s.length - i ∧ f ≤ i ∧ i ≤ s.length ∧ d < c ∧ done.length ≤ i ∧ (10 : UInt8) ∉ (s.take i).drop f ∧ linesL s = done ++ linesL (s.drop f) ∧
      s' = ⟨[(0, .str s), (3, .sl (.sub d j x.p) 1 done.length), (4, .int .i64 f), (5, .int .i64 i)], Mem.of [(.sub d j x.p, .arr 1 (done.map AV.str))], c, []⟩) _ ⟨0, 0, 4, 0, 5, [], rfl, Nat.le_refl _, Nat.zero_le _, by omega, Nat.le_refl _, by simp, rfl, rfl⟩ ?_
  rintro k s' ⟨i, f, d, j, c, done, rfl, hfi, hi, hdc, hdl, hno, hln, rfl⟩
  (repeat (first | (refine K_ifT rfl rfl ?_) | (refine K_ifF rfl rfl ?_) | (refine K_ev nmd [] hng (by kernel_rfl) fun hf C S K hC1 hC hS hK => ?_; simp (disch := first | omega | assumption) only [go_sem]; refine hK ?_; clear hK hS hC hC1 K S C hf) | ((first | refine zk ?_ | refine zn ?_ | refine ze ?_); with_reducible (constructor; repeat constructor); try refine zl ?_)))
  refine K_ifd rfl rfl (fun hb => ?_) (fun hb => ?_)
  · have hlt : i < s.length := by omega
    (repeat (first | (refine K_ifT rfl rfl ?_) | (refine K_ifF rfl rfl ?_) | (refine K_ev nmd [] hng (by kernel_rfl) fun hf C S K hC1 hC hS hK => ?_; simp (disch := first | omega | assumption) only [go_sem]; refine hK ?_; clear hK hS hC hC1 K S C hf) | ((first | refine zk ?_ | refine zn ?_ | refine ze ?_); with_reducible (constructor; repeat constructor); try refine zl ?_)))
    refine K_ifd rfl rfl (fun hb => ?_) (fun hb => ?_)
    · have h10 : s.getD i 0 = 10 := UInt8.toNat_inj.1 (by have : (10 : UInt8).toNat = 10 := rfl; omega)
      rw [lines_step hfi hlt hno h10] at hln
      (repeat (first | (refine K_ifT rfl rfl ?_) | (refine K_ifF rfl rfl ?_) | (refine K_ev nmd [] hng (by kernel_rfl) fun hf C S K hC1 hC hS hK => ?_; simp (disch := first | omega | assumption) only [go_sem]; refine hK ?_; clear hK hS hC hC1 K S C hf) | ((first | refine zk ?_ | refine zn ?_ | refine ze ?_); with_reducible (constructor; repeat constructor); try refine zl ?_)))
      refine ⟨_, _, ?_, fun _ _ h => h, i + 1, i + 1, c + 1 + 1, 6, c + 1 + 1 + 1 + 1 + 1, done ++ [(s.take i).drop f], rfl, by omega, by omega, by omega, by rw [List.length_append, List.length_singleton]; omega, ?_, ?_, ?_⟩
      · omega
      · rw [List.drop_eq_nil_of_le (by rw [List.length_take]; omega)]; simp
      · rw [hln]; simp
      · rw [List.map_append, List.length_append]; rfl
    · have h10 : ¬ s.getD i 0 = 10 := fun e => hb (by rw [e]; rfl)
      have hn' := no_step hfi hlt hno h10
      (repeat (first | (refine K_ifT rfl rfl ?_) | (refine K_ifF rfl rfl ?_) | (refine K_ev nmd [] hng (by kernel_rfl) fun hf C S K hC1 hC hS hK => ?_; simp (disch := first | omega | assumption) only [go_sem]; refine hK ?_; clear hK hS hC hC1 K S C hf) | ((first | refine zk ?_ | refine zn ?_ | refine ze ?_); with_reducible (constructor; repeat constructor); try refine zl ?_)))
      exact ⟨_, _, by omega, fun _ _ h => h, i + 1, f, d, j, _, done, rfl, by omega, by omega, by omega, by omega, hn', hln, rfl⟩
  · obtain rfl : i = s.length := by omega
    rw [List.take_length] at hno
    (repeat (first | (refine K_ifT rfl rfl ?_) | (refine K_ifF rfl rfl ?_) | (refine K_ev nmd [] hng (by kernel_rfl) fun hf C S K hC1 hC hS hK => ?_; simp (disch := first | omega | assumption) only [go_sem]; refine hK ?_; clear hK hS hC hC1 K S C hf) | ((first | refine zk ?_ | refine zn ?_ | refine ze ?_); with_reducible (constructor; repeat constructor); try refine zl ?_)))
    refine K_ifd rfl rfl (fun hb => ?_) (fun hb => ?_)
    · have hne : ¬ s.drop f = [] := fun e => by have := congrArg List.length e; rw [List.length_drop] at this; simp only [List.length_nil] at this; omega
      rw [linesL_miss hne hno] at hln
      (repeat (first | (refine K_ifT rfl rfl ?_) | (refine K_ifF rfl rfl ?_) | (refine K_ev nmd [] hng (by kernel_rfl) fun hf C S K hC1 hC hS hK => ?_; simp (disch := first | omega | assumption) only [go_sem]; refine hK ?_; clear hK hS hC hC1 K S C hf) | ((first | refine zk ?_ | refine zn ?_ | refine ze ?_); with_reducible (constructor; repeat constructor); try refine zl ?_)))
      exact K_retl (xs := done.map AV.str ++ [AV.str (s.drop f)]) rfl (by simp (disch := first | omega | assumption) only [go_sem]) (by simp) (by rw [hln]; simp)
    · have hnil : s.drop f = [] := List.drop_eq_nil_of_le (by omega)
      rw [hnil] at hln
      (repeat (first | (refine K_ifT rfl rfl ?_) | (refine K_ifF rfl rfl ?_) | (refine K_ev nmd [] hng (by kernel_rfl) fun hf C S K hC1 hC hS hK => ?_; simp (disch := first | omega | assumption) only [go_sem]; refine hK ?_; clear hK hS hC hC1 K S C hf) | ((first | refine zk ?_ | refine zn ?_ | refine ze ?_); with_reducible (constructor; repeat constructor); try refine zl ?_)))
      exact K_retl (xs := done.map AV.str) rfl (by simp (disch := first | omega | assumption) only [go_sem]) (by simp) (by rw [hln]; simp [linesL])
end Go.Proofs.YtiaiggbimlbkfaaGreatDoor
