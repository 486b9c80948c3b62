/- Filter: the sets of tr, walked. -/
import Derived.Test.YtiaiggbimlbkfaaGreatDoorQ6
set_option linter.unusedVariables false
set_option linter.unusedSimpArgs false
namespace Go.Proofs.YtiaiggbimlbkfaaGreatDoor
open Go Go.Ab
set_option maxRecDepth 20000
set_option maxHeartbeats 4000000
def condR (r : Str) : Prop := 2 < r.length ∧ (r.getD 1 0).toNat = 45 ∧ (r.getD 0 0).toNat ≤ (r.getD 2 0).toNat
instance (r : Str) : Decidable (condR r) := by unfold condR; infer_instance
def rng (a n : Nat) : Str := (List.range n).map fun k => UInt8.ofNat (a + k)
/-- The bytes of a set; k: fuel. -/
def setF : Nat → Str → Str
  | 0, _ => []
  | k + 1, r => if r = [] then [] else if condR r then rng (r.getD 0 0).toNat ((r.getD 2 0).toNat + 1 - (r.getD 0 0).toNat) ++ setF k (r.drop 3) else r.getD 0 0 :: setF k (r.drop 1)
theorem setF_more : ∀ (k : Nat) (r : Str), r.length ≤ k → setF (k + 1) r = setF k r
  | 0, r, h => by
    have : r = [] := List.eq_nil_of_length_eq_zero (by omega)
    subst this; rfl
  | k + 1, r, h => by
    show (if r = [] then [] else if condR r then _ ++ setF (k + 1) (r.drop 3) else _ :: setF (k + 1) (r.drop 1)) = (if r = [] then [] else if condR r then _ ++ setF k (r.drop 3) else _ :: setF k (r.drop 1))
    by_cases h0 : r = []
    · rw [if_pos h0, if_pos h0]
    · have := List.length_pos_iff.2 h0
      rw [if_neg h0, if_neg h0, setF_more k (r.drop 3) (by rw [List.length_drop]; omega), setF_more k (r.drop 1) (by rw [List.length_drop]; omega)]
theorem setF_fuel (r : Str) : ∀ k, r.length ≤ k → setF k r = setF r.length r := by
  intro k hk
  obtain ⟨d, rfl⟩ := Nat.exists_eq_add_of_le hk
  induction d with
  | zero => rfl
  | succ d ih => rw [← Nat.add_assoc, setF_more _ _ (by omega), ih (by omega)]
def setP (r : Str) : Str := setF r.length r
theorem setP_nil : setP [] = [] := rfl
theorem setP_rng {r : Str} (h : condR r) : setP r = rng (r.getD 0 0).toNat ((r.getD 2 0).toNat + 1 - (r.getD 0 0).toNat) ++ setP (r.drop 3) := by
  have hl := h.1
  obtain ⟨k, hk⟩ : ∃ k, r.length = k + 1 := ⟨r.length - 1, by omega⟩
  have h0 : ¬ r = [] := fun e => by subst e; simp at hl
  unfold setP
  rw [hk, setF, if_neg h0, if_pos h, setF_fuel (r.drop 3) k (by rw [List.length_drop]; omega)]
theorem setP_one {r : Str} (h0 : ¬ r = []) (h : ¬ condR r) : setP r = r.getD 0 0 :: setP (r.drop 1) := by
  have := List.length_pos_iff.2 h0
  obtain ⟨k, hk⟩ : ∃ k, r.length = k + 1 := ⟨r.length - 1, by omega⟩
  unfold setP
  rw [hk, setF, if_neg h0, if_neg h, setF_fuel (r.drop 1) k (by rw [List.length_drop]; omega)]
theorem rng_snoc (a k : Nat) : rng a (k + 1) = rng a k ++ [UInt8.ofNat (a + k)] := by
  simp [rng, List.range_succ]
theorem rng_len (a k : Nat) : (rng a k).length = k := by simp [rng]
theorem setF_len : ∀ (k : Nat) (r : Str), (setF k r).length ≤ 256 * r.length
  | 0, r => by simp [setF]
  | k + 1, r => by
    rw [setF]
    split
    · simp
    · rename_i h0
      have := List.length_pos_iff.2 h0
      split
      · rename_i hc
        have h1 := setF_len k (r.drop 3)
        have h2 := (r.getD 2 0).toNat_lt
        have := hc.1
        rw [List.length_drop] at h1
        rw [List.length_append, rng_len]; omega
      · have h1 := setF_len k (r.drop 1)
        rw [List.length_drop] at h1
        rw [List.length_cons]; omega
theorem setP_len (r : Str) : (setP r).length ≤ 256 * r.length := setF_len _ r
theorem set_ok (s : Str) (hl : s.length ≤ 4000000) (p : Oid) : CallOK Tryz.prog 73 [.str s] (Oid.under p) ⟨[], .list 1 ((setP s).map byA), []⟩ := by
  have hsl := setP_len s
  refine fnOK (n := 46) (rs := [.tmp 2]) Tryz.func73 rfl rfl (by decide) rfl rfl rfl ?_; rintro x rfl hrd hng
  (repeat (first | (refine K_ifT rfl rfl ?_) | (refine K_ifF rfl rfl ?_) | (refine K_ev nmd [] hng (by kernel_rfl) fun hf C S K hC1 hC hS hK => ?_; simp (disch := first | omega | assumption) only [go_sem]; refine hK ?_; clear hK hS hC hC1 K S C hf) | ((first | refine zk ?_ | refine zn ?_ | refine ze ?_); with_reducible (constructor; repeat constructor); try refine zl ?_)))
  refine K_void 2 1 rfl ?_
  simp (disch := first | omega | assumption) only [go_sem]
  refine K_loop [0, 2] (fun k s' => ∃ (r done : Str) (d j c : Nat), k = r.length ∧ r.length ≤ s.length ∧ d < c ∧ setP s = done ++ setP r ∧
      s' = ⟨[(0, .str r), (2, .sl (.sub d j x.p) 1 done.length)], Mem.of [(.sub d j x.p, .arr 1 (done.map byA))], c, []⟩) _ ⟨s, [], 1, 0, 2, rfl, Nat.le_refl _, by omega, rfl, rfl⟩ ?_
  rintro k s' ⟨r, done, d, j, c, rfl, hr, hdc, hset, rfl⟩
  have hdl : done.length ≤ 1024000000 := by have := congrArg List.length hset; rw [List.length_append] at this; omega
  (repeat (first | (refine K_ifT rfl rfl ?_) | (refine K_ifF rfl rfl ?_) | (refine K_ev nmd [] hng (by kernel_rfl) fun hf C S K hC1 hC hS hK => ?_; simp (disch := first | omega | assumption) only [go_sem]; refine hK ?_; clear hK hS hC hC1 K S C hf) | ((first | refine zk ?_ | refine zn ?_ | refine ze ?_); with_reducible (constructor; repeat constructor); try refine zl ?_)))
  refine K_if rfl rfl (fun hb => ?_) (fun hb => ?_)
  · have h0 : ¬ r = [] := by simpa using hb
    have hpos := List.length_pos_iff.2 h0
    (try ((first | refine zk ?_ | refine zn ?_ | refine ze ?_); with_reducible (constructor; repeat constructor)); try refine zl ?_)
    refine K_cut [0, 2, 20] (fun s' => ∃ b : Bool, s' = ⟨[(0, .str r), (2, .sl (.sub d j x.p) 1 done.length), (20, .bool b)], Mem.of [(.sub d j x.p, .arr 1 (done.map byA))], c + 1 + 1, []⟩ ∧ (b = true ↔ condR r)) ?_ ?_
    · refine K_evd nmd [(3, 9), (8, 14)] [] mixed hng (by kernel_rfl) [0, 2, 20] fun hf C S K hC hS hK => ?_; simp (disch := first | omega | assumption) only [go_sem]
      (repeat' (first | (refine evG_split (fun hv => ?_) (fun hv => ?_) <;> (try simp only [zb1, zb2, zb3, zb4, zb5] at hv) <;> simp (disch := first | omega | assumption) only [go_sem, hv, Int.reduceEq, Int.reduceNe, ne_eq, not_true_eq_false, not_false_eq_true, decide_true, decide_false]) | ((first | refine hK (dynN_quiet rfl) ?_ | refine hK (by simp (disch := first | omega | assumption) only [go_sem, List.reverse_cons, List.reverse_nil, ne_eq, not_false_eq_true, implies_true]) ?_); clear hK hS hC K S C hf)))
      · refine K_cutN ⟨_, rfl, ?_⟩
        simp only [decide_eq_true_eq, condR]; omega
      · exact K_cutN ⟨_, rfl, by simp only [condR, Bool.false_eq_true, false_iff]; omega⟩
      · exact K_cutN ⟨_, rfl, by simp only [condR, Bool.false_eq_true, false_iff]; omega⟩
    rintro s' ⟨b, rfl, hiff⟩
    refine K_if rfl rfl (fun hb => ?_) (fun hb => ?_)
    · have hc := hiff.1 hb
      rw [setP_rng hc] at hset
      have h1 := (r.getD 0 0).toNat_lt
      have h2 := (r.getD 2 0).toNat_lt
      have hrl := hc.1
      have hac := hc.2.2
      generalize hA : (r.getD 0 0).toNat = a at hset h1 hac
      generalize hB : (r.getD 2 0).toNat = b2 at hset h2 hac
      (repeat (first | (refine K_ifT rfl rfl ?_) | (refine K_ifF rfl rfl ?_) | (refine K_ev nmd [] hng (by kernel_rfl) fun hf C S K hC1 hC hS hK => ?_; simp (disch := first | omega | assumption) only [go_sem, hA]; (repeat ((first | refine hC1 _ () (by simp (disch := first | omega | assumption) only [go_sem]) ?_); simp (disch := first | omega | assumption) only [go_sem])); refine hK ?_; clear hK hS hC hC1 K S C hf) | ((first | refine zk ?_ | refine zn ?_ | refine ze ?_); with_reducible (constructor; repeat constructor); try refine zl ?_)))
      refine K_loop [0, 2, 3] (fun k s' => ∃ (q d j c : Nat) (dn : Str), k = b2 + 1 - a - q ∧ q ≤ b2 + 1 - a ∧ d < c ∧ dn = done ++ rng a q ∧
          s' = ⟨[(0, .str r), (2, .sl (.sub d j x.p) 1 dn.length), (3, .int .i64 ((a + q : Nat) : Int))], Mem.of [(.sub d j x.p, .arr 1 (dn.map byA))], c, []⟩) _ ⟨0, d, j, c + 1 + 1 + 1, done, rfl, Nat.zero_le _, by omega, by simp [rng], rfl⟩ ?_
      rintro k s' ⟨q, d, j, c, dn, rfl, hq, hdc, hdn, rfl⟩
      have hql : dn.length ≤ 1024000300 := by rw [hdn, List.length_append, rng_len]; omega
      (repeat (first | (refine K_ifT rfl rfl ?_) | (refine K_ifF rfl rfl ?_) | (refine K_ev nmd [] hng (by kernel_rfl) fun hf C S K hC1 hC hS hK => ?_; simp (disch := first | omega | assumption) only [go_sem, hB]; (repeat ((first | refine hC1 _ () (by simp (disch := first | omega | assumption) only [go_sem]) ?_); simp (disch := first | omega | assumption) only [go_sem])); refine hK ?_; clear hK hS hC hC1 K S C hf) | ((first | refine zk ?_ | refine zn ?_ | refine ze ?_); with_reducible (constructor; repeat constructor); try refine zl ?_)))
      refine K_ifd rfl rfl (fun hb => ?_) (fun hb => ?_)
      · have hw : IntKind.u8.wrap ((a + q : Nat) : Int) = ((UInt8.ofNat (a + q)).toNat : Int) := by
          rw [w8 (by omega) (by omega), UInt8.toNat_ofNat']; omega
        (repeat (first | (refine K_ifT rfl rfl ?_) | (refine K_ifF rfl rfl ?_) | (refine K_ev nmd [] hng (by kernel_rfl) fun hf C S K hC1 hC hS hK => ?_; simp (disch := first | omega | assumption) only [go_sem, hw]; (repeat ((first | refine hC1 _ () (by simp (disch := first | omega | assumption) only [go_sem]) ?_); simp (disch := first | omega | assumption) only [go_sem])); refine hK ?_; clear hK hS hC hC1 K S C hf) | ((first | refine zk ?_ | refine zn ?_ | refine ze ?_); with_reducible (constructor; repeat constructor); try refine zl ?_)))
        refine ⟨_, _, ?_, fun _ _ h => h, q + 1, c + 1, 4, c + 1 + 1 + 1, dn ++ [UInt8.ofNat (a + q)], rfl, by omega, by omega, ?_, ?_⟩
        · omega
        · rw [rng_snoc, ← List.append_assoc, hdn]
        · rw [List.map_append, List.length_append]; rfl
      · have hqe : q = b2 + 1 - a := by omega
        subst hqe
        have h3 : setP s = dn ++ setP (r.drop 3) := by rw [hset, hdn, List.append_assoc]
        have hrd : (r.drop 3).length < r.length := by rw [List.length_drop]; omega
        (repeat (first | (refine K_ifT rfl rfl ?_) | (refine K_ifF rfl rfl ?_) | (refine K_ev nmd [] hng (by kernel_rfl) fun hf C S K hC1 hC hS hK => ?_; simp (disch := first | omega | assumption) only [go_sem]; refine hK ?_; clear hK hS hC hC1 K S C hf) | ((first | refine zk ?_ | refine zn ?_ | refine ze ?_); with_reducible (constructor; repeat constructor); try refine zl ?_)))
        exact ⟨_, _, by omega, fun _ _ h => h, r.drop 3, dn, d, j, _, rfl, by omega, by omega, h3, rfl⟩
    · have hc : ¬ condR r := fun h => by rw [hiff.2 h] at hb; cases hb
      rw [setP_one h0 hc] at hset
      have hrd : (r.drop 1).length < r.length := by rw [List.length_drop]; omega
      (repeat (first | (refine K_ifT rfl rfl ?_) | (refine K_ifF rfl rfl ?_) | (refine K_ev nmd [] hng (by kernel_rfl) fun hf C S K hC1 hC hS hK => ?_; simp (disch := first | omega | assumption) only [go_sem]; refine hK ?_; clear hK hS hC hC1 K S C hf) | ((first | refine zk ?_ | refine zn ?_ | refine ze ?_); with_reducible (constructor; repeat constructor); try refine zl ?_)))
      refine ⟨_, _, ?_, fun _ _ h => h, r.drop 1, done ++ [r.getD 0 0], c + 1 + 1, 4, c + 1 + 1 + 1 + 1, rfl, by omega, by omega, ?_, ?_⟩
      · omega
      · rw [hset]; simp
      · rw [List.map_append, List.length_append]; rfl
  · have h0 : r = [] := by simpa using hb
    subst h0
    rw [setP_nil, List.append_nil] at hset
    (repeat (first | (refine K_ifT rfl rfl ?_) | (refine K_ifF rfl rfl ?_) | (refine K_ev nmd [] hng (by kernel_rfl) fun hf C S K hC1 hC hS hK => ?_; simp (disch := first | omega | assumption) only [go_sem]; refine hK ?_; clear hK hS hC hC1 K S C hf) | ((first | refine zk ?_ | refine zn ?_ | refine ze ?_); with_reducible (constructor; repeat constructor); try refine zl ?_)))
    exact K_retl (xs := done.map byA) rfl (by simp (disch := first | omega | assumption) only [go_sem]) (List.length_map _).symm (by rw [hset])
end Go.Proofs.YtiaiggbimlbkfaaGreatDoor
