/- The reference's Number and Decode, walked. -/
import Derived.Test.YtiaiggbimlbkfaaGreatDoorS7
set_option linter.unusedVariables false
set_option linter.unusedSimpArgs false
namespace Go.Proofs.YtiaiggbimlbkfaaGreatDoor
open Go Go.Ab
set_option maxRecDepth 20000
set_option maxHeartbeats 4000000
theorem dec_app (u : Str) : ∀ (t : Str) (a : Nat), Lib.decFrom a (t ++ u) = (Lib.decFrom a t).bind fun v => Lib.decFrom v u
  | [], a => rfl
  | c :: t, a => by
    simp only [List.cons_append, Lib.decFrom]
    cases Lib.digitVal c with
    | none => rfl
    | some d => exact dec_app u t _
theorem drop_cons0 {l : Str} {i : Nat} (h : i < l.length) : l.drop i = l.getD i 0 :: l.drop (i + 1) := by
  rw [List.drop_eq_getElem_cons h, List.getD_eq_getElem?_getD, List.getElem?_eq_getElem h]; rfl
theorem numberR_ok (s : Str) (hl : s.length ≤ 4000000000) (p : Oid) : CallOK Tryz.prog 82 [.str s] (Oid.under p) ⟨[], .int .i64 (refN s), []⟩ := by
  by_cases hs : s = []
  · subst hs
    refine fnOK (n := 47) (rs := [.tmp 2]) Tryz.func82 rfl rfl (by decide) rfl rfl rfl ?_; rintro x rfl hrd hng
    (try ((first | refine zk ?_ | refine zn ?_ | refine ze ?_); with_reducible (constructor; repeat constructor)); try refine zl ?_)
    refine K_ev nmd [] hng (by kernel_rfl) fun hf C S K hC1 hC hS hK => ?_; simp (disch := first | omega | assumption) only [go_sem]
    refine hK ?_; clear hK hS hC hC1 K S C hf
    (try ((first | refine zk ?_ | refine zn ?_ | refine ze ?_); with_reducible (constructor; repeat constructor)); try refine zl ?_)
    refine K_ev nmd [(2, 7), (7, 12), (11, 16)] hng (by kernel_rfl) fun hf C S K hC1 hC hS hK => ?_; simp (disch := first | omega | assumption) only [go_sem]
    (repeat' (first | (refine evG_split (fun hv => ?_) (fun hv => ?_) <;> (try simp only [zb1, zb2, zb3, zb4, zb5] at hv) <;> simp (disch := first | omega | assumption) only [go_sem, hv, Int.reduceEq, Int.reduceNe, ne_eq, not_true_eq_false, not_false_eq_true, decide_true, decide_false]) | (refine hK ?_; clear hK hS hC hC1 K S C hf)))
    (repeat (first | (refine K_ifT rfl rfl ?_) | (refine K_ifF rfl rfl ?_) | (refine K_ev nmd [] hng (by kernel_rfl) fun hf C S K hC1 hC hS hK => ?_; simp (disch := first | omega | assumption) only [go_sem]; refine hK ?_; clear hK hS hC hC1 K S C hf) | ((first | refine zk ?_ | refine zn ?_ | refine ze ?_); with_reducible (constructor; repeat constructor); try refine zl ?_)))
    exact K_ret (done1 rfl)
  have hpos := List.length_pos_iff.2 hs
  refine fnOK (n := 47) (rs := [.tmp 2]) Tryz.func82 rfl rfl (by decide) rfl rfl rfl ?_; rintro x rfl hrd hng
  (try ((first | refine zk ?_ | refine zn ?_ | refine ze ?_); with_reducible (constructor; repeat constructor)); try refine zl ?_)
  refine K_ev nmd [] hng (by kernel_rfl) fun hf C S K hC1 hC hS hK => ?_; simp (disch := first | omega | assumption) only [go_sem]
  refine hK ?_; clear hK hS hC hC1 K S C hf
  (try ((first | refine zk ?_ | refine zn ?_ | refine ze ?_); with_reducible (constructor; repeat constructor)); try refine zl ?_)
  refine K_cut [0, 21] (fun s' => ∃ b, s' = ⟨[(0, .str s), (21, .bool b)], Mem.of [], 2, []⟩ ∧ (b = true ↔ (s = [] ∨ 9 < s.length ∨ s.getD 0 0 = 48 ∧ 1 < s.length))) ?_ ?_
  · refine K_ev nmd [(2, 7), (7, 12), (11, 16)] hng (by kernel_rfl) fun hf C S K hC1 hC hS hK => ?_; simp (disch := first | omega | assumption) only [go_sem]
    (repeat' (first | (refine evG_split (fun hv => ?_) (fun hv => ?_) <;> (try simp only [zb1, zb2, zb3, zb4, zb5] at hv) <;> simp (disch := first | omega | assumption) only [go_sem, hv, Int.reduceEq, Int.reduceNe, ne_eq, not_true_eq_false, not_false_eq_true, decide_true, decide_false]) | (refine hK ?_; clear hK hS hC hC1 K S C hf)))
    · refine K_cutN ⟨_, rfl, ?_⟩
      have h4 : s.getD 0 0 = 48 := UInt8.toNat_inj.1 (by have : (48 : UInt8).toNat = 48 := rfl; omega)
      simp only [decide_eq_true_eq, h4, hs, true_and, false_or]; omega
    · refine K_cutN ⟨_, rfl, ?_⟩
      have h4 : ¬ s.getD 0 0 = 48 := fun e => hv (by rw [e]; rfl)
      simp only [h4, hs, false_and, false_or, or_false, Bool.false_eq_true, false_iff]; omega
    · refine K_cutN ⟨_, rfl, ?_⟩
      exact ⟨fun _ => .inr (.inl (by omega)), fun _ => rfl⟩
    · exact absurd hv hs
  rintro s' ⟨b, rfl, hbad⟩
  (repeat (first | (refine K_ifT rfl rfl ?_) | (refine K_ifF rfl rfl ?_) | (refine K_ev nmd [] hng (by kernel_rfl) fun hf C S K hC1 hC hS hK => ?_; simp (disch := first | omega | assumption) only [go_sem]; refine hK ?_; clear hK hS hC hC1 K S C hf) | ((first | refine zk ?_ | refine zn ?_ | refine ze ?_); with_reducible (constructor; repeat constructor); try refine zl ?_)))
  refine K_if rfl rfl (fun hb => ?_) (fun hb => ?_)
  · (repeat (first | (refine K_ifT rfl rfl ?_) | (refine K_ifF rfl rfl ?_) | (refine K_ev nmd [] hng (by kernel_rfl) fun hf C S K hC1 hC hS hK => ?_; simp (disch := first | omega | assumption) only [go_sem]; refine hK ?_; clear hK hS hC hC1 K S C hf) | ((first | refine zk ?_ | refine zn ?_ | refine ze ?_); with_reducible (constructor; repeat constructor); try refine zl ?_)))
    exact K_ret (done1 (congrArg (AV.int .i64) (by rw [refN, if_pos (hbad.1 hb)])))
  · have hok : ¬ (s = [] ∨ 9 < s.length ∨ s.getD 0 0 = 48 ∧ 1 < s.length) := fun h => by rw [hbad.2 h] at hb; cases hb
    have hl9 : s.length ≤ 9 := by omega
    (repeat (first | (refine K_ifT rfl rfl ?_) | (refine K_ifF rfl rfl ?_) | (refine K_ev nmd [] hng (by kernel_rfl) fun hf C S K hC1 hC hS hK => ?_; simp (disch := first | omega | assumption) only [go_sem]; refine hK ?_; clear hK hS hC hC1 K S C hf) | ((first | refine zk ?_ | refine zn ?_ | refine ze ?_); with_reducible (constructor; repeat constructor); try refine zl ?_)))
    refine K_loop [0, 3, 4] (fun k s' => ∃ (i n c : Nat), k = s.length - i ∧ i ≤ s.length ∧ Lib.decFrom 0 (s.take i) = some n ∧ n < 10 ^ i ∧ s' = ⟨[(0, .str s), (3, .int .i64 n), (4, .int .i64 i)], Mem.of [], c, []⟩) _ ⟨0, 0, _, rfl, Nat.zero_le _, rfl, by decide, rfl⟩ ?_
    rintro k s' ⟨i, n, c, rfl, hi, hd, hn, rfl⟩
    (repeat (first | (refine K_ifT rfl rfl ?_) | (refine K_ifF rfl rfl ?_) | (refine K_ev nmd [] hng (by kernel_rfl) fun hf C S K hC1 hC hS hK => ?_; simp (disch := first | omega | assumption) only [go_sem]; refine hK ?_; clear hK hS hC hC1 K S C hf) | ((first | refine zk ?_ | refine zn ?_ | refine ze ?_); with_reducible (constructor; repeat constructor); try refine zl ?_)))
    refine K_ifd rfl rfl (fun hb => ?_) (fun hb => ?_)
    · have hi8 : 10 ^ i ≤ 10 ^ 8 := Nat.pow_le_pow_right (by decide) (by omega)
      have hn8 : n < 100000000 := Nat.lt_of_lt_of_le hn hi8
      have hby := (s.getD i 0).toNat_lt
      have hdr := drop_cons0 (l := s) (i := i) (by omega)
      have hfull : Lib.decFrom 0 s = Lib.decFrom n (s.getD i 0 :: s.drop (i + 1)) := by
        conv => lhs; rw [← List.take_append_drop i s, dec_app, hd, Option.bind_some, hdr]
      (try ((first | refine zk ?_ | refine zn ?_ | refine ze ?_); with_reducible (constructor; repeat constructor)); try refine zl ?_)
      refine K_ev nmd [(4, 32)] hng (by kernel_rfl) fun hf C S K hC1 hC hS hK => ?_; simp (disch := first | omega | assumption) only [go_sem]
      (repeat' (first | (refine evG_split (fun hv => ?_) (fun hv => ?_) <;> (try simp only [zb1, zb2, zb3, zb4, zb5] at hv) <;> simp (disch := first | omega | assumption) only [go_sem, hv, Int.reduceEq, Int.reduceNe, ne_eq, not_true_eq_false, not_false_eq_true, decide_true, decide_false]) | (refine hK ?_; clear hK hS hC hC1 K S C hf)))
      · (repeat (first | (refine K_ifT rfl rfl ?_) | (refine K_ifF rfl rfl ?_) | (refine K_ev nmd [] hng (by kernel_rfl) fun hf C S K hC1 hC hS hK => ?_; simp (disch := first | omega | assumption) only [go_sem]; refine hK ?_; clear hK hS hC hC1 K S C hf) | ((first | refine zk ?_ | refine zn ?_ | refine ze ?_); with_reducible (constructor; repeat constructor); try refine zl ?_)))
        refine K_ifd rfl rfl (fun hb => ?_) (fun hb => ?_)
        · have hR : refN s = -1 := by
            rw [refN, if_neg hok, hfull, Lib.decFrom, Lib.digitVal, if_neg (by omega)]
          rw [hR]
          (repeat (first | (refine K_ifT rfl rfl ?_) | (refine K_ifF rfl rfl ?_) | (refine K_ev nmd [] hng (by kernel_rfl) fun hf C S K hC1 hC hS hK => ?_; simp (disch := first | omega | assumption) only [go_sem]; refine hK ?_; clear hK hS hC hC1 K S C hf) | ((first | refine zk ?_ | refine zn ?_ | refine ze ?_); with_reducible (constructor; repeat constructor); try refine zl ?_)))
          exact K_ret (done1 rfl)
        · have hdv : Lib.digitVal (s.getD i 0) = some ((s.getD i 0).toNat - 48) := by rw [Lib.digitVal, if_pos (by omega)]
          have hnx : Lib.decFrom 0 (s.take (i + 1)) = some (n * 10 + ((s.getD i 0).toNat - 48)) := by
            rw [List.take_add_one, dec_app, hd, Option.bind_some, List.getElem?_eq_getElem (by omega : i < s.length)]
            have he : s[i]'(by omega) = s.getD i 0 := by rw [List.getD_eq_getElem?_getD, List.getElem?_eq_getElem (by omega : i < s.length)]; rfl
            rw [he]; simp only [Option.toList, Lib.decFrom, hdv]
          have hsum : ((n : Int) * 10 + ((s.getD i 0).toNat : Int) - 48) = ((n * 10 + ((s.getD i 0).toNat - 48) : Nat) : Int) := by omega
          (repeat (first | (refine K_ifT rfl rfl ?_) | (refine K_ifF rfl rfl ?_) | (refine K_ev nmd [] hng (by kernel_rfl) fun hf C S K hC1 hC hS hK => ?_; simp (disch := first | omega | assumption) only [go_sem]; refine hK ?_; clear hK hS hC hC1 K S C hf) | ((first | refine zk ?_ | refine zn ?_ | refine ze ?_); with_reducible (constructor; repeat constructor); try refine zl ?_)))
          rw [hsum]
          exact ⟨_, _, by omega, fun _ _ h => h, i + 1, _, c + 1 + 1 + 1 + 1, rfl, by omega, hnx, by rw [Nat.pow_succ]; omega, rfl⟩
      · have hR : refN s = -1 := by
          rw [refN, if_neg hok, hfull, Lib.decFrom, Lib.digitVal, if_neg (by omega)]
        rw [hR]
        (repeat (first | (refine K_ifT rfl rfl ?_) | (refine K_ifF rfl rfl ?_) | (refine K_ev nmd [] hng (by kernel_rfl) fun hf C S K hC1 hC hS hK => ?_; simp (disch := first | omega | assumption) only [go_sem]; refine hK ?_; clear hK hS hC hC1 K S C hf) | ((first | refine zk ?_ | refine zn ?_ | refine ze ?_); with_reducible (constructor; repeat constructor); try refine zl ?_)))
        exact K_ret (done1 rfl)
    · obtain rfl : i = s.length := by omega
      rw [List.take_length] at hd
      (repeat (first | (refine K_ifT rfl rfl ?_) | (refine K_ifF rfl rfl ?_) | (refine K_ev nmd [] hng (by kernel_rfl) fun hf C S K hC1 hC hS hK => ?_; simp (disch := first | omega | assumption) only [go_sem]; refine hK ?_; clear hK hS hC hC1 K S C hf) | ((first | refine zk ?_ | refine zn ?_ | refine ze ?_); with_reducible (constructor; repeat constructor); try refine zl ?_)))
      exact K_ret (done1 (congrArg (AV.int .i64) (by rw [refN, if_neg hok, hd])))
end Go.Proofs.YtiaiggbimlbkfaaGreatDoor
