/- Filter: the reference's set, last and translate, walked. -/
import Derived.Test.YtiaiggbimlbkfaaGreatDoorQ7
set_option linter.unusedVariables false
set_option linter.unusedSimpArgs false
namespace Go.Proofs.YtiaiggbimlbkfaaGreatDoor
open Go Go.Ab
set_option maxRecDepth 20000
set_option maxHeartbeats 4000000
theorem getD_drop (s : Str) (i k : Nat) : (s.drop i).getD k 0 = s.getD (i + k) 0 := by
  simp [List.getD_eq_getElem?_getD, List.getElem?_drop]
theorem rng_cons (a n : Nat) : rng a (n + 1) = UInt8.ofNat a :: rng (a + 1) n := by
  simp only [rng, List.range_succ_eq_map, List.map_cons, List.map_map, Nat.add_zero]
  congr 1
  apply List.map_congr_left
  intro k _
  simp only [Function.comp]
  congr 1; omega
theorem slice_one {s : Str} {i : Nat} (h : i < s.length) : (s.take (i + 1)).drop i = [s.getD i 0] := by
  rw [List.take_add_one, List.drop_append_of_le_length (by rw [List.length_take]; omega), List.drop_of_length_le (by rw [List.length_take]; omega), List.getElem?_eq_getElem h]
  rw [List.getD_eq_getElem?_getD, List.getElem?_eq_getElem h]; rfl
theorem ofNat_toNat (b : UInt8) : UInt8.ofNat b.toNat = b := by simp
theorem setR_ok (s : Str) (hl : s.length ≤ 4000000) (p : Oid) : CallOK Tryz.prog 83 [.str s] (Oid.under p) ⟨[], .str (setP s), []⟩ := by
  have hsl := setP_len s
  refine fnOK (n := 64) (rs := [.tmp 2]) Tryz.func83 rfl rfl (by decide) rfl rfl rfl ?_; rintro x rfl hrd hng
  (repeat (first | (refine K_ifT rfl rfl ?_) | (refine K_ifF rfl rfl ?_) | (refine K_ev nmd [] hng (by kernel_rfl) fun hf C S K hC1 hC hS hK => ?_; simp (disch := first | omega | assumption) only [go_sem]; refine hK ?_; clear hK hS hC hC1 K S C hf) | ((first | refine zk ?_ | refine zn ?_ | refine ze ?_); with_reducible (constructor; repeat constructor); try refine zl ?_)))
  refine K_loop [0, 3, 4] (fun k s' => ∃ (i c : Nat) (out : Str), k = s.length - i ∧ i ≤ s.length ∧ setP s = out ++ setP (s.drop i) ∧
      s' = ⟨[(0, .str s), (3, .str out), (4, .int .i64 i)], Mem.of [], c, []⟩) _ ⟨0, _, [], rfl, Nat.zero_le _, rfl, rfl⟩ ?_
  rintro k s' ⟨i, c, out, rfl, hi, hset, rfl⟩
  have hdl : out.length ≤ 1024000000 := by have := congrArg List.length hset; rw [List.length_append] at this; omega
  (repeat (first | (refine K_ifT rfl rfl ?_) | (refine K_ifF rfl rfl ?_) | (refine K_ev nmd [] hng (by kernel_rfl) fun hf C S K hC1 hC hS hK => ?_; simp (disch := first | omega | assumption) only [go_sem]; refine hK ?_; clear hK hS hC hC1 K S C hf) | ((first | refine zk ?_ | refine zn ?_ | refine ze ?_); with_reducible (constructor; repeat constructor); try refine zl ?_)))
  refine K_ifd rfl rfl (fun hb => ?_) (fun hb => ?_)
  · have hlt : i < s.length := by omega
    have hone := slice_one hlt
    have h0 : ¬ s.drop i = [] := fun e => by have := congrArg List.length e; rw [List.length_drop] at this; simp only [List.length_nil] at this; omega
    have hcx : condR (s.drop i) ↔ (i + 2 < s.length ∧ (s.getD (i + 1) 0).toNat = 45 ∧ (s.getD i 0).toNat ≤ (s.getD (i + 2) 0).toNat) := by
      simp only [condR, getD_drop, List.length_drop, Nat.add_zero]; omega
    have hi1 : ((i : Int) + 1).toNat = i + 1 := by omega
    have hi2 : ((i : Int) + 2).toNat = i + 2 := by omega
    (repeat (first | (refine K_ifT rfl rfl ?_) | (refine K_ifF rfl rfl ?_) | (refine K_ev nmd [] hng (by kernel_rfl) fun hf C S K hC1 hC hS hK => ?_; simp (disch := first | omega | assumption) only [go_sem, hi1, hone]; (repeat ((first | refine hC1 _ () (by simp (disch := first | omega | assumption) only [go_sem]) ?_); simp (disch := first | omega | assumption) only [go_sem])); refine hK ?_; clear hK hS hC hC1 K S C hf) | ((first | refine zk ?_ | refine zn ?_ | refine ze ?_); with_reducible (constructor; repeat constructor); try refine zl ?_)))
    refine K_cut [0, 3, 4, 40] (fun s' => ∃ b : Bool, s' = ⟨[(0, .str s), (3, .str (out ++ [s.getD i 0])), (4, .int .i64 i), (40, .bool b)], Mem.of [], c + 1 + 1 + 1, []⟩ ∧ (b = true ↔ condR (s.drop i))) ?_ ?_
    · refine K_evd nmd [(5, 24), (12, 31)] [] mixed hng (by kernel_rfl) [0, 3, 4, 40] fun hf C S K hC hS hK => ?_; simp (disch := first | omega | assumption) only [go_sem, hi1, hi2]
      (repeat' (first | (refine evG_split (fun hv => ?_) (fun hv => ?_) <;> (try simp only [zb1, zb2, zb3, zb4, zb5] at hv) <;> simp (disch := first | omega | assumption) only [go_sem, hv, hi1, hi2, Int.reduceEq, Int.reduceNe, ne_eq, not_true_eq_false, not_false_eq_true, decide_true, decide_false]) | ((first | refine hK (dynN_quiet rfl) ?_ | refine hK (by simp (disch := first | omega | assumption) only [go_sem, List.reverse_cons, List.reverse_nil, ne_eq, not_false_eq_true, implies_true]) ?_); clear hK hS hC K S C hf)))
      · refine K_cutN ⟨_, rfl, ?_⟩
        rw [hcx]; simp only [decide_eq_true_eq]; omega
      · exact K_cutN ⟨_, rfl, by rw [hcx]; simp only [Bool.false_eq_true, false_iff]; omega⟩
      · exact K_cutN ⟨_, rfl, by rw [hcx]; simp only [Bool.false_eq_true, false_iff]; omega⟩
    rintro s' ⟨b, rfl, hiff⟩
    refine K_if rfl rfl (fun hb => ?_) (fun hb => ?_)
    · have hc := hiff.1 hb
      have hd3 : (s.drop i).drop 3 = s.drop (i + 2 + 1) := by rw [List.drop_drop]
      rw [setP_rng hc, getD_drop, getD_drop, Nat.add_zero, hd3] at hset
      obtain ⟨h5, h6, hac⟩ := hcx.1 hc
      have h1 := (s.getD i 0).toNat_lt
      have h2 := (s.getD (i + 2) 0).toNat_lt
      generalize hA : (s.getD i 0).toNat = a at hset h1 hac
      generalize hB : (s.getD (i + 2) 0).toNat = b2 at hset h2 hac
      have hfst : [s.getD i 0] = rng a 1 := by rw [rng_cons, ← hA, ofNat_toNat]; rfl
      rw [hfst]
      generalize ho : out ++ rng a 1 = dn0
      (repeat (first | (refine K_ifT rfl rfl ?_) | (refine K_ifF rfl rfl ?_) | (refine K_ev nmd [] hng (by kernel_rfl) fun hf C S K hC1 hC hS hK => ?_; simp (disch := first | omega | assumption) only [go_sem, hA]; (repeat ((first | refine hC1 _ () (by simp (disch := first | omega | assumption) only [go_sem]) ?_); simp (disch := first | omega | assumption) only [go_sem])); refine hK ?_; clear hK hS hC hC1 K S C hf) | ((first | refine zk ?_ | refine zn ?_ | refine ze ?_); with_reducible (constructor; repeat constructor); try refine zl ?_)))
      refine K_loop [0, 3, 4, 5] (fun k s' => ∃ (q c : Nat) (dn : Str), k = b2 + 1 - a - q ∧ 1 ≤ q ∧ q ≤ b2 + 1 - a ∧ dn = out ++ rng a q ∧
          s' = ⟨[(0, .str s), (3, .str dn), (4, .int .i64 i), (5, .int .i64 ((a + q : Nat) : Int))], Mem.of [], c, []⟩) _ ⟨1, c + 1 + 1 + 1 + 1, dn0, rfl, Nat.le_refl _, by omega, ho.symm, rfl⟩ ?_
      rintro k s' ⟨q, c, dn, rfl, hq1, hq, hdn, rfl⟩
      have hql : dn.length ≤ 1024000300 := by rw [hdn, List.length_append, rng_len]; omega
      (repeat (first | (refine K_ifT rfl rfl ?_) | (refine K_ifF rfl rfl ?_) | (refine K_ev nmd [] hng (by kernel_rfl) fun hf C S K hC1 hC hS hK => ?_; simp (disch := first | omega | assumption) only [go_sem, hi2, hB]; (repeat ((first | refine hC1 _ () (by simp (disch := first | omega | assumption) only [go_sem]) ?_); simp (disch := first | omega | assumption) only [go_sem])); refine hK ?_; clear hK hS hC hC1 K S C hf) | ((first | refine zk ?_ | refine zn ?_ | refine ze ?_); with_reducible (constructor; repeat constructor); try refine zl ?_)))
      refine K_ifd rfl rfl (fun hb => ?_) (fun hb => ?_)
      · have hw : IntKind.u8.wrap ((a + q : Nat) : Int) = ((UInt8.ofNat (a + q)).toNat : Int) := by
          rw [w8 (by omega) (by omega), UInt8.toNat_ofNat']; omega
        (repeat (first | (refine K_ifT rfl rfl ?_) | (refine K_ifF rfl rfl ?_) | (refine K_ev nmd [] hng (by kernel_rfl) fun hf C S K hC1 hC hS hK => ?_; simp (disch := first | omega | assumption) only [go_sem, hw]; (repeat ((first | refine hC1 _ () (by simp (disch := first | omega | assumption) only [go_sem]) ?_); simp (disch := first | omega | assumption) only [go_sem])); refine hK ?_; clear hK hS hC hC1 K S C hf) | ((first | refine zk ?_ | refine zn ?_ | refine ze ?_); with_reducible (constructor; repeat constructor); try refine zl ?_)))
        refine K_ev nmd [] hng (by kernel_rfl) fun hf C S K hC1 hC hS hK => ?_; simp (disch := first | omega | assumption) only [go_sem, hw, byteOK_int, gd_T]
        refine hK ?_; clear hK hS hC hC1 K S C hf
        (repeat (first | (refine K_ifT rfl rfl ?_) | (refine K_ifF rfl rfl ?_) | (refine K_ev nmd [] hng (by kernel_rfl) fun hf C S K hC1 hC hS hK => ?_; simp (disch := first | omega | assumption) only [go_sem]; refine hK ?_; clear hK hS hC hC1 K S C hf) | ((first | refine zk ?_ | refine zn ?_ | refine ze ?_); with_reducible (constructor; repeat constructor); try refine zl ?_)))
        refine ⟨_, _, ?_, fun _ _ h => h, q + 1, _, dn ++ [UInt8.ofNat (a + q)], rfl, by omega, by omega, ?_, rfl⟩
        · omega
        · rw [rng_snoc, ← List.append_assoc, hdn]
      · have hqe : q = b2 + 1 - a := by omega
        subst hqe
        have h3 : setP s = dn ++ setP (s.drop (i + 2 + 1)) := by rw [hset, hdn, List.append_assoc]
        (repeat (first | (refine K_ifT rfl rfl ?_) | (refine K_ifF rfl rfl ?_) | (refine K_ev nmd [] hng (by kernel_rfl) fun hf C S K hC1 hC hS hK => ?_; simp (disch := first | omega | assumption) only [go_sem]; refine hK ?_; clear hK hS hC hC1 K S C hf) | ((first | refine zk ?_ | refine zn ?_ | refine ze ?_); with_reducible (constructor; repeat constructor); try refine zl ?_)))
        exact ⟨_, _, by omega, fun _ _ h => h, i + 2 + 1, _, dn, rfl, by omega, h3, rfl⟩
    · have hc : ¬ condR (s.drop i) := fun h => by rw [hiff.2 h] at hb; cases hb
      rw [setP_one h0 hc, getD_drop, Nat.add_zero, List.drop_drop] at hset
      (repeat (first | (refine K_ifT rfl rfl ?_) | (refine K_ifF rfl rfl ?_) | (refine K_ev nmd [] hng (by kernel_rfl) fun hf C S K hC1 hC hS hK => ?_; simp (disch := first | omega | assumption) only [go_sem]; refine hK ?_; clear hK hS hC hC1 K S C hf) | ((first | refine zk ?_ | refine zn ?_ | refine ze ?_); with_reducible (constructor; repeat constructor); try refine zl ?_)))
      refine ⟨_, _, ?_, fun _ _ h => h, i + 1, _, out ++ [s.getD i 0], rfl, by omega, ?_, rfl⟩
      · omega
      · rw [hset]; simp
  · obtain rfl : i = s.length := by omega
    rw [List.drop_length, setP_nil, List.append_nil] at hset
    (repeat (first | (refine K_ifT rfl rfl ?_) | (refine K_ifF rfl rfl ?_) | (refine K_ev nmd [] hng (by kernel_rfl) fun hf C S K hC1 hC hS hK => ?_; simp (disch := first | omega | assumption) only [go_sem]; refine hK ?_; clear hK hS hC hC1 K S C hf) | ((first | refine zk ?_ | refine zn ?_ | refine ze ?_); with_reducible (constructor; repeat constructor); try refine zl ?_)))
    exact K_ret (done1 (by rw [hset]; rfl))
/-- The last place of a byte among the first k; -1: it is not there. -/
def lastK (l : Str) (b : UInt8) : Nat → Int
  | 0 => -1
  | k + 1 => if l.getD k 0 = b then k else lastK l b k
theorem lastK_le (l : Str) (b : UInt8) : ∀ k, -1 ≤ lastK l b k ∧ lastK l b k < k
  | 0 => by simp [lastK]
  | k + 1 => by
    have := lastK_le l b k
    rw [lastK]; split <;> omega
theorem last_ok (l : Str) (b : UInt8) (hl : l.length ≤ 4000000000) (p : Oid) : CallOK Tryz.prog 84 [.str l, .int .u8 (b.toNat : Int)] (Oid.under p) ⟨[], .int .i64 (lastK l b l.length), []⟩ := by
  refine fnOK (n := 20) (rs := [.tmp 4]) Tryz.func84 rfl rfl (by decide) rfl rfl rfl ?_; rintro x rfl hrd hng
  (repeat (first | (refine K_ifT rfl rfl ?_) | (refine K_ifF rfl rfl ?_) | (refine K_ev nmd [] hng (by kernel_rfl) fun hf C S K hC1 hC hS hK => ?_; simp (disch := first | omega | assumption) only [go_sem]; refine hK ?_; clear hK hS hC hC1 K S C hf) | ((first | refine zk ?_ | refine zn ?_ | refine ze ?_); with_reducible (constructor; repeat constructor); try refine zl ?_)))
  refine K_loop [0, 1, 5, 6] (fun k s' => ∃ (i c : Nat), k = l.length - i ∧ i ≤ l.length ∧ s' = ⟨[(0, .str l), (1, .int .u8 (b.toNat : Int)), (5, .int .i64 (lastK l b i)), (6, .int .i64 i)], Mem.of [], c, []⟩) _ ⟨0, _, rfl, Nat.zero_le _, rfl⟩ ?_
  rintro k s' ⟨i, c, rfl, hi, rfl⟩
  (repeat (first | (refine K_ifT rfl rfl ?_) | (refine K_ifF rfl rfl ?_) | (refine K_ev nmd [] hng (by kernel_rfl) fun hf C S K hC1 hC hS hK => ?_; simp (disch := first | omega | assumption) only [go_sem]; refine hK ?_; clear hK hS hC hC1 K S C hf) | ((first | refine zk ?_ | refine zn ?_ | refine ze ?_); with_reducible (constructor; repeat constructor); try refine zl ?_)))
  refine K_ifd rfl rfl (fun hb => ?_) (fun hb => ?_)
  · have hlt : i < l.length := by omega
    (repeat (first | (refine K_ifT rfl rfl ?_) | (refine K_ifF rfl rfl ?_) | (refine K_ev nmd [] hng (by kernel_rfl) fun hf C S K hC1 hC hS hK => ?_; simp (disch := first | omega | assumption) only [go_sem]; refine hK ?_; clear hK hS hC hC1 K S C hf) | ((first | refine zk ?_ | refine zn ?_ | refine ze ?_); with_reducible (constructor; repeat constructor); try refine zl ?_)))
    refine K_ifd rfl rfl (fun hb => ?_) (fun hb => ?_)
    · have he : l.getD i 0 = b := UInt8.toNat_inj.1 (by omega)
      have hk : lastK l b (i + 1) = i := by rw [lastK, if_pos he]
      (repeat (first | (refine K_ifT rfl rfl ?_) | (refine K_ifF rfl rfl ?_) | (refine K_ev nmd [] hng (by kernel_rfl) fun hf C S K hC1 hC hS hK => ?_; simp (disch := first | omega | assumption) only [go_sem]; refine hK ?_; clear hK hS hC hC1 K S C hf) | ((first | refine zk ?_ | refine zn ?_ | refine ze ?_); with_reducible (constructor; repeat constructor); try refine zl ?_)))
      exact ⟨_, _, by omega, fun _ _ h => h, i + 1, _, rfl, by omega, by rw [hk]; rfl⟩
    · have he : ¬ l.getD i 0 = b := fun e => hb (by rw [e])
      have hk : lastK l b (i + 1) = lastK l b i := by rw [lastK, if_neg he]
      (repeat (first | (refine K_ifT rfl rfl ?_) | (refine K_ifF rfl rfl ?_) | (refine K_ev nmd [] hng (by kernel_rfl) fun hf C S K hC1 hC hS hK => ?_; simp (disch := first | omega | assumption) only [go_sem]; refine hK ?_; clear hK hS hC hC1 K S C hf) | ((first | refine zk ?_ | refine zn ?_ | refine ze ?_); with_reducible (constructor; repeat constructor); try refine zl ?_)))
      exact ⟨_, _, by omega, fun _ _ h => h, i + 1, c + 1 + 1 + 1, rfl, by omega, by rw [hk]; rfl⟩
  · obtain rfl : i = l.length := by omega
    (repeat (first | (refine K_ifT rfl rfl ?_) | (refine K_ifF rfl rfl ?_) | (refine K_ev nmd [] hng (by kernel_rfl) fun hf C S K hC1 hC hS hK => ?_; simp (disch := first | omega | assumption) only [go_sem]; refine hK ?_; clear hK hS hC hC1 K S C hf) | ((first | refine zk ?_ | refine zn ?_ | refine ze ?_); with_reducible (constructor; repeat constructor); try refine zl ?_)))
    exact K_ret (done1 rfl)
attribute [go_sem] gd_T gdR_T
end Go.Proofs.YtiaiggbimlbkfaaGreatDoor
