/- Filter: numbers of the reference; rows of texts that are equal; uniq of the reference. -/
import Derived.Test.YtiaiggbimlbkfaaGreatDoorQL1
set_option linter.unusedVariables false
set_option linter.unusedSimpArgs false
namespace Go.Proofs.YtiaiggbimlbkfaaGreatDoor
open Go Go.Ab
set_option maxRecDepth 20000
set_option maxHeartbeats 4000000
theorem tail13_ok (n : Nat) (hn : (n : Int) ≤ 9223372036854775807) : ∀ p : Oid, CallOK Tryz.prog 99 [.int .i64 n] (Oid.under p) ⟨[], .str (Lib.decDigits n), []⟩ := by
  induction n using Nat.strongRecOn with
  | ind n ih =>
    intro p
    have h10 : (n : Int).tmod 10 = ((n % 10 : Nat) : Int) := tmod_nat n 10
    have h11 : (n : Int).tdiv 10 = ((n / 10 : Nat) : Int) := tdiv_nat n 10
    have hd : IntKind.u8.wrap (48 + ((n % 10 : Nat) : Int)) = ((UInt8.ofNat (48 + n % 10)).toNat : Int) := by
      rw [w8 (by omega) (by omega), UInt8.toNat_ofNat']; omega
    have hz : (((n % 10 : Nat) : Int) < 0) = False := eq_false (by omega)
    have hlen := decDigits_len (n / 10) (by omega)
    refine fnOK (n := 25) (rs := [.tmp 2]) Tryz.func99 rfl rfl (by decide) rfl rfl rfl ?_; rintro x rfl hrd hng
    (repeat (first | (refine K_ifT rfl rfl ?_) | (refine K_ifF rfl rfl ?_) | (refine K_ev nmd [] hng (by kernel_rfl) fun hf C S K hC1 hC hS hK => ?_; simp (disch := first | omega | assumption) only [go_sem, h10, hz, decide_true, decide_false, ne_eq, not_true_eq_false, not_false_eq_true]; (repeat ((first | refine hC1 _ () (by simp (disch := first | omega | assumption) only [go_sem]) ?_); simp (disch := first | omega | assumption) only [go_sem])); refine hK ?_; clear hK hS hC hC1 K S C hf) | ((first | refine zk ?_ | refine zn ?_ | refine ze ?_); with_reducible (constructor; repeat constructor); try refine zl ?_)))
    refine K_ev nmd [] hng (by kernel_rfl) fun hf C S K hC1 hC hS hK => ?_; simp (disch := first | omega | assumption) only [go_sem, hd, byteOK_int]
    refine hK ?_; clear hK hS hC hC1 K S C hf
    (repeat (first | (refine K_ifT rfl rfl ?_) | (refine K_ifF rfl rfl ?_) | (refine K_ev nmd [] hng (by kernel_rfl) fun hf C S K hC1 hC hS hK => ?_; simp (disch := first | omega | assumption) only [go_sem, h11]; (repeat ((first | refine hC1 _ () (by simp (disch := first | omega | assumption) only [go_sem]) ?_); simp (disch := first | omega | assumption) only [go_sem])); refine hK ?_; clear hK hS hC hC1 K S C hf) | ((first | refine zk ?_ | refine zn ?_ | refine ze ?_); with_reducible (constructor; repeat constructor); try refine zl ?_)))
    refine K_ifd rfl rfl (fun hb => ?_) (fun hb => ?_)
    · (repeat (first | (refine K_ifT rfl rfl ?_) | (refine K_ifF rfl rfl ?_) | (refine K_ev nmd [] hng (by kernel_rfl) fun hf C S K hC1 hC hS hK => ?_; simp (disch := first | omega | assumption) only [go_sem]; refine hK ?_; clear hK hS hC hC1 K S C hf) | ((first | refine zk ?_ | refine zn ?_ | refine ze ?_); with_reducible (constructor; repeat constructor); try refine zl ?_)))
      exact K_ret (done1 (congrArg AV.str (by rw [Lib.decDigits, dif_pos (by omega)]; congr 2; rw [Nat.mod_eq_of_lt (by omega)])))
    · (try ((first | refine zk ?_ | refine zn ?_ | refine ze ?_); with_reducible (constructor; repeat constructor)); try refine zl ?_)
      refine K_ev nmd [] hng (by kernel_rfl) fun hf C S K hC1 hC hS hK => ?_; simp (disch := first | omega | assumption) only [go_sem, h11]
      refine hC1 _ (ih (n / 10) (by omega) (by omega) _) (by simp (disch := first | omega | assumption) only [go_sem]) ?_
      simp (disch := first | omega | assumption) only [go_sem]
      refine hK ?_; clear hK hS hC hC1 K S C hf
      (repeat (first | (refine K_ifT rfl rfl ?_) | (refine K_ifF rfl rfl ?_) | (refine K_ev nmd [] hng (by kernel_rfl) fun hf C S K hC1 hC hS hK => ?_; simp (disch := first | omega | assumption) only [go_sem]; refine hK ?_; clear hK hS hC hC1 K S C hf) | ((first | refine zk ?_ | refine zn ?_ | refine ze ?_); with_reducible (constructor; repeat constructor); try refine zl ?_)))
      exact K_ret (done1 (congrArg AV.str (by rw [Lib.decDigits.eq_def n, dif_neg (by omega)])))
theorem digits13_ok (n : Nat) (hn : (n : Int) ≤ 9223372036854775807) (p : Oid) : CallOK Tryz.prog 81 [.int .i64 n] (Oid.under p) ⟨[], .str (Lib.decDigits n), []⟩ := by
  have hz : ((n : Int) < 0) = False := eq_false (by omega)
  refine fnOK (n := 10) (rs := [.tmp 2]) Tryz.func81 rfl rfl (by decide) rfl rfl rfl ?_; rintro x rfl hrd hng
  (repeat (first | (refine K_ifT rfl rfl ?_) | (refine K_ifF rfl rfl ?_) | (refine K_ev nmd [] hng (by kernel_rfl) fun hf C S K hC1 hC hS hK => ?_; simp (disch := first | omega | assumption) only [go_sem, hz, decide_true, decide_false, ne_eq, not_true_eq_false, not_false_eq_true]; (repeat ((first | refine hC1 _ (tail13_ok n hn _) (by simp (disch := first | omega | assumption) only [go_sem]) ?_); simp (disch := first | omega | assumption) only [go_sem])); refine hK ?_; clear hK hS hC hC1 K S C hf) | ((first | refine zk ?_ | refine zn ?_ | refine ze ?_); with_reducible (constructor; repeat constructor); try refine zl ?_)))
  exact K_ret (done1 rfl)
theorem itoaN_ok (n : Nat) (hn : (n : Int) ≤ 9223372036854775807) (p : Oid) (hp : p.mono = false) : CallOK Tryz.prog 58 [.int .i64 n] (Oid.under p) ⟨[], .str (Lib.decDigits n), []⟩ := by
  have := itoa_ok (n : Int) (by omega) hn p hp
  rwa [Lib.itoa_nonneg] at this
theorem equal_ok (l1 l2 : List Str) (h1 : l1.length ≤ 4000000000) (p : Oid) :
    CallOK Tryz.prog 68 [.list 1 (l1.map AV.str), .list 1 (l2.map AV.str)] (Oid.under p) ⟨[], .bool (decide (l1 = l2)), []⟩ := by
  refine fnOK (n := 26) (rs := [.tmp 4]) Tryz.func68 rfl rfl (by decide) rfl rfl rfl ?_; rintro x rfl hrd hng
  (repeat (first | (refine K_ifT rfl rfl ?_) | (refine K_ifF rfl rfl ?_) | (refine K_ev nmd [] hng (by kernel_rfl) fun hf C S K hC1 hC hS hK => ?_; simp (disch := first | omega | assumption) only [go_sem, List.length_map]; (repeat ((first | refine hC1 _ () (by simp (disch := first | omega | assumption) only [go_sem]) ?_); simp (disch := first | omega | assumption) only [go_sem])); refine hK ?_; clear hK hS hC hC1 K S C hf) | ((first | refine zk ?_ | refine zn ?_ | refine ze ?_); with_reducible (constructor; repeat constructor); try refine zl ?_)))
  refine K_ifd rfl rfl (fun hb => ?_) (fun hb => ?_)
  · have hne : ¬ l1 = l2 := fun e => hb (by rw [e])
    rw [decide_eq_false hne]
    (repeat (first | (refine K_ifT rfl rfl ?_) | (refine K_ifF rfl rfl ?_) | (refine K_ev nmd [] hng (by kernel_rfl) fun hf C S K hC1 hC hS hK => ?_; simp (disch := first | omega | assumption) only [go_sem]; refine hK ?_; clear hK hS hC hC1 K S C hf) | ((first | refine zk ?_ | refine zn ?_ | refine ze ?_); with_reducible (constructor; repeat constructor); try refine zl ?_)))
    exact K_ret (done1 rfl)
  · have hlen : l1.length = l2.length := by omega
    (repeat (first | (refine K_ifT rfl rfl ?_) | (refine K_ifF rfl rfl ?_) | (refine K_ev nmd [] hng (by kernel_rfl) fun hf C S K hC1 hC hS hK => ?_; simp (disch := first | omega | assumption) only [go_sem, List.length_map]; (repeat ((first | refine hC1 _ () (by simp (disch := first | omega | assumption) only [go_sem]) ?_); simp (disch := first | omega | assumption) only [go_sem])); refine hK ?_; clear hK hS hC hC1 K S C hf) | ((first | refine zk ?_ | refine zn ?_ | refine ze ?_); with_reducible (constructor; repeat constructor); try refine zl ?_)))
    refine K_loop [0, 1, 12, 13] (fun k s' => ∃ i c : Nat, k = l1.length - i ∧ i ≤ l1.length ∧ l1.take i = l2.take i ∧
      s' = ⟨[(0, .list 1 (l1.map AV.str)), (1, .list 1 (l2.map AV.str)), (12, .int .i64 l1.length), (13, .int .i64 i)], Mem.of [], c, []⟩) _ ⟨0, _, rfl, Nat.zero_le _, by simp, rfl⟩ ?_
    rintro k s' ⟨i, c, rfl, hi, heq, rfl⟩
    (repeat (first | (refine K_ifT rfl rfl ?_) | (refine K_ifF rfl rfl ?_) | (refine K_ev nmd [] hng (by kernel_rfl) fun hf C S K hC1 hC hS hK => ?_; simp (disch := first | omega | assumption) only [go_sem]; refine hK ?_; clear hK hS hC hC1 K S C hf) | ((first | refine zk ?_ | refine zn ?_ | refine ze ?_); with_reducible (constructor; repeat constructor); try refine zl ?_)))
    refine K_ifd rfl rfl (fun hb => ?_) (fun hb => ?_)
    · have hlt : i < l1.length := by omega
      have hlt2 : i < l2.length := by omega
      (repeat (first | (refine K_ifT rfl rfl ?_) | (refine K_ifF rfl rfl ?_) | (refine K_ev nmd [] hng (by kernel_rfl) fun hf C S K hC1 hC hS hK => ?_; simp (disch := first | omega | assumption) only [go_sem]; refine hK ?_; clear hK hS hC hC1 K S C hf) | ((first | refine zk ?_ | refine zn ?_ | refine ze ?_); with_reducible (constructor; repeat constructor); try refine zl ?_)))
      refine K_evd nmd [] [] mixed hng (by kernel_rfl) [0, 1, 12, 13, 24] fun hf C S K hC hS hK => ?_; simp (disch := first | omega | assumption) only [go_sem, List.length_map, decide_true, decide_false, ne_eq, not_true_eq_false, not_false_eq_true]
      (repeat' (first | (refine evG_split (fun hv => ?_) (fun hv => ?_) <;> (try simp only [zb1, zb2, zb3, zb4, zb5] at hv) <;> simp (disch := first | omega | assumption) only [go_sem, hv, List.length_map, decide_true, decide_false, ne_eq, not_true_eq_false, not_false_eq_true]) | ((first | refine hK (dynN_quiet rfl) ?_ | refine hK (by simp (disch := first | omega | assumption) only [go_sem, List.reverse_cons, List.reverse_nil, ne_eq, not_false_eq_true, implies_true]) ?_); clear hK hS hC K S C hf)))
      (try ((first | refine zk ?_ | refine zn ?_ | refine ze ?_); with_reducible (constructor; repeat constructor)); try refine zl ?_)
      refine K_ifd rfl rfl (fun hb => ?_) (fun hb => ?_)
      · have hne : ¬ l1 = l2 := fun e => hb (by rw [e])
        rw [decide_eq_false hne]
        (repeat (first | (refine K_ifT rfl rfl ?_) | (refine K_ifF rfl rfl ?_) | (refine K_ev nmd [] hng (by kernel_rfl) fun hf C S K hC1 hC hS hK => ?_; simp (disch := first | omega | assumption) only [go_sem]; refine hK ?_; clear hK hS hC hC1 K S C hf) | ((first | refine zk ?_ | refine zn ?_ | refine ze ?_); with_reducible (constructor; repeat constructor); try refine zl ?_)))
        exact K_ret (done1 rfl)
      · have he : l1.getD i default = l2.getD i default := Classical.not_not.1 hb
        (repeat (first | (refine K_ifT rfl rfl ?_) | (refine K_ifF rfl rfl ?_) | (refine K_ev nmd [] hng (by kernel_rfl) fun hf C S K hC1 hC hS hK => ?_; simp (disch := first | omega | assumption) only [go_sem]; refine hK ?_; clear hK hS hC hC1 K S C hf) | ((first | refine zk ?_ | refine zn ?_ | refine ze ?_); with_reducible (constructor; repeat constructor); try refine zl ?_)))
        refine ⟨_, _, ?_, fun _ _ h => h, i + 1, _, rfl, by omega, ?_, rfl⟩
        · omega
        · rw [List.take_add_one, List.take_add_one, heq, List.getElem?_eq_getElem hlt, List.getElem?_eq_getElem hlt2]
          rw [List.getD_eq_getElem?_getD, List.getD_eq_getElem?_getD, List.getElem?_eq_getElem hlt, List.getElem?_eq_getElem hlt2] at he
          simp only [Option.getD_some] at he
          rw [he]
    · obtain rfl : i = l1.length := by omega
      have he : l1 = l2 := by rwa [List.take_length, hlen, List.take_length] at heq
      rw [decide_eq_true he]
      (repeat (first | (refine K_ifT rfl rfl ?_) | (refine K_ifF rfl rfl ?_) | (refine K_ev nmd [] hng (by kernel_rfl) fun hf C S K hC1 hC hS hK => ?_; simp (disch := first | omega | assumption) only [go_sem]; refine hK ?_; clear hK hS hC hC1 K S C hf) | ((first | refine zk ?_ | refine zn ?_ | refine ze ?_); with_reducible (constructor; repeat constructor); try refine zl ?_)))
      exact K_ret (done1 rfl)
end Go.Proofs.YtiaiggbimlbkfaaGreatDoor
