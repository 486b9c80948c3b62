/- A part of the proof: the texts S9, S10, S11, S12, S13, S14, S16, S17, S23, FwM, S24, S25, S15, S26, FwL, Laid, SX, FwN, Z1, Z2, Z3, Z4, Z5, Z6, one behind the other. -/
import Derived.Test.YtaecbmbecofijaaGreatDoorPDc
import Derived.Sort.Row
import Derived.Deep.DeepHandedRow
import Derived.Lib.LaidTab
import Derived.Test.YtaecbmbecofijaaGreatDoorRows
import Derived.Test.YtaecbmbecofijaaGreatDoorCards
import Derived.Test.YtaecbmbecofijaaGreatDoorTie
set_option linter.unusedVariables false
set_option linter.unusedSimpArgs false
set_option linter.unusedSectionVars false
namespace Go.Proofs.YtaecbmbecofijaaGreatDoor
open Go Go.Ab
set_option maxRecDepth 20000
set_option maxHeartbeats 4000000
theorem idx_spec (c : UInt8) : ∀ r : Str, (Lib.indexByte r c = -1 ∧ ∀ j, j < r.length → ¬ r.getD j 0 = c) ∨ ∃ i : Nat, Lib.indexByte r c = i ∧ i < r.length ∧ r.getD i 0 = c ∧ ∀ j, j < i → ¬ r.getD j 0 = c
  | [] => .inl ⟨rfl, fun j hj => absurd hj (Nat.not_lt_zero _)⟩
  | b :: r => by
    by_cases hb : b = c
    · refine .inr ⟨0, by simp [Lib.indexByte, hb], by simp, by simp [hb], fun j hj => absurd hj (Nat.not_lt_zero _)⟩
    have hb' : (b == c) = false := by simpa using hb
    rcases idx_spec c r with ⟨h1, h2⟩ | ⟨i, h1, h2, h3, h4⟩
    · refine .inl ⟨by simp [Lib.indexByte, hb', h1], fun j hj => ?_⟩
      cases j with
      | zero => simpa using hb
      | succ j => simpa using h2 j (by simpa using hj)
    · refine .inr ⟨i + 1, ?_, by simpa using h2, by simpa using h3, fun j hj => ?_⟩
      · have : ¬ Lib.indexByte r c = -1 := by omega
        simp only [Lib.indexByte, hb', Bool.false_eq_true, if_false, beq_iff_eq, this, h1]; omega
      · cases j with
        | zero => simpa using hb
        | succ j => simpa using h4 j (by omega)
/-- Where the reference's loop stops. -/
def firstI (r : Str) : Nat := if 0 ≤ Lib.indexByte r 58 then colon r else r.length
theorem firstI_spec (r : Str) : firstI r ≤ r.length ∧ (∀ j, j < firstI r → ¬ r.getD j 0 = 58) ∧ (firstI r < r.length → r.getD (firstI r) 0 = 58 ∧ 0 ≤ Lib.indexByte r 58 ∧ firstI r = colon r) ∧ (0 ≤ Lib.indexByte r 58 → firstI r < r.length) := by
  rcases idx_spec 58 r with ⟨h1, h2⟩ | ⟨i, h1, h2, h3, h4⟩
  · have : firstI r = r.length := by rw [firstI, if_neg (by omega)]
    rw [this]; exact ⟨Nat.le_refl _, h2, fun h => absurd h (Nat.lt_irrefl _), fun h => by omega⟩
  · have hc : colon r = i := by rw [colon, h1]; rfl
    have : firstI r = i := by rw [firstI, if_pos (by omega), hc]
    rw [this, hc]; exact ⟨by omega, h4, fun _ => ⟨h3, by omega, rfl⟩, fun _ => h2⟩
theorem ok_ref {r : Str} : okS r ↔ 0 ≤ refN (r.take (firstI r)) ∧ refN (r.take (firstI r)) + firstI r + 2 ≤ r.length ∧ r.getD ((refN (r.take (firstI r))).toNat + firstI r + 1) 0 = 44 := by
  obtain ⟨h1, h2, h3, h4⟩ := firstI_spec r
  by_cases hi : 0 ≤ Lib.indexByte r 58
  · have hlt := h4 hi
    obtain ⟨_, _, h5⟩ := h3 hlt
    obtain ⟨n1, n2⟩ := num_ref (headS r)
    have hh : r.take (firstI r) = headS r := by rw [h5]; rfl
    rw [hh]
    have hlen : (restS r).length = r.length - (firstI r + 1) := by rw [restS, List.length_drop, h5]
    constructor
    · rintro ⟨_, g1, g2, g3⟩
      have hv := n2 g1
      rw [n1, decide_eq_true_eq] at g1
      refine ⟨g1, by rw [hv] at g2; omega, ?_⟩
      rw [sizeS, hv, restS, List.getD_eq_getElem?_getD, List.getElem?_drop, ← List.getD_eq_getElem?_getD, ← h5] at g3
      rw [← g3]; congr 1; omega
    · rintro ⟨g1, g2, g3⟩
      have hg : numG (headS r) = true := by rw [n1]; simpa using g1
      have hv := n2 hg
      refine ⟨hi, hg, by rw [hv]; omega, ?_⟩
      rw [sizeS, hv, restS, List.getD_eq_getElem?_getD, List.getElem?_drop, ← List.getD_eq_getElem?_getD, ← h5]
      rw [← g3]; congr 1; omega
  · have : firstI r = r.length := by rw [firstI, if_neg hi]
    constructor
    · rintro ⟨g, _⟩; exact absurd g hi
    · rintro ⟨_, g, _⟩; omega
theorem piece_ref {r : Str} (h : okS r) : (restS r).take (sizeS r) = (r.take ((refN (r.take (firstI r))).toNat + firstI r + 1)).drop (firstI r + 1) ∧ (restS r).drop (sizeS r + 1) = r.drop ((refN (r.take (firstI r))).toNat + firstI r + 2) := by
  obtain ⟨h1, h2, h3, h4⟩ := firstI_spec r
  have hlt := h4 h.1
  obtain ⟨_, _, h5⟩ := h3 hlt
  have hh : r.take (firstI r) = headS r := by rw [h5]; rfl
  have hv := (num_ref (headS r)).2 h.2.1
  rw [hh, ← hv, restS, ← h5, sizeS]
  constructor
  · rw [List.drop_take]; congr 1; omega
  · rw [List.drop_drop]; congr 1; omega
theorem dec_bound : ∀ (t : Str) (a n : Nat), Lib.decFrom a t = some n → n < (a + 1) * 10 ^ t.length
  | [], a, n, h => by simp only [Lib.decFrom, Option.some.injEq] at h; subst h; simp
  | b :: t, a, n, h => by
    simp only [Lib.decFrom] at h
    split at h
    · rename_i d hd
      have h1 := dec_bound t _ n h
      have h2 := (digit_inv hd).1
      refine Nat.lt_of_lt_of_le h1 ?_
      rw [List.length_cons, Nat.pow_succ, Nat.mul_comm (10 ^ t.length) 10, ← Nat.mul_assoc]
      exact Nat.mul_le_mul_right _ (by omega)
    · cases h
theorem refN_bounds (s : Str) : -1 ≤ refN s ∧ refN s < 1000000000 := by
  unfold refN
  split
  · omega
  · rename_i hc
    split
    · rename_i n hd
      have h1 := dec_bound s 0 n hd
      have h2 : 10 ^ s.length ≤ 10 ^ 9 := Nat.pow_le_pow_right (by decide) (by omega)
      omega
    · omega
theorem decodeR_ok (s : Str) (hl : s.length ≤ 4000000000) (p : Oid) : CallOK Tryz.prog 139 [.str s] (Oid.under p) ⟨[], decR (decT s), []⟩ := by
  refine fnOK (n := 64) (rs := [.tmp 2, .tmp 3]) Tryz.func139 rfl rfl (by decide) rfl rfl rfl ?_; rintro x rfl hrd hng
  (repeat (first | (refine K_ifT rfl rfl ?_) | (refine K_ifF rfl rfl ?_) | (refine K_ev nmd [] hng (by kernel_rfl) fun hf C S K hC1 hC hS hK => ?_; simp (disch := first | omega | assumption) only [go_sem]; refine hK ?_; clear hK hS hC hC1 K S C hf) | ((first | refine zn ?_ | refine ze ?_ | refine zk ?_); with_reducible (constructor; repeat constructor); try refine zl ?_)))
  refine K_void 4 1 rfl ?_
  simp (disch := first | omega | assumption) only [go_sem]
  refine K_loop [0, 4] (fun k s' => ∃ (done : List Str) (r : Str) (d j c : Nat), k = r.length ∧ d < c ∧ done.length + r.length ≤ s.length ∧ decT s = (decT r).map (done ++ ·) ∧
      s' = ⟨[(0, .str r), (4, .sl (.sub d j x.p) 1 done.length)], Mem.of [(.sub d j x.p, .arr 1 (done.map AV.str))], c, []⟩) _ ⟨[], s, 2, 0, 3, rfl, by omega, by simp, by cases decT s <;> rfl, rfl⟩ ?_
  rintro k s' ⟨done, r, d, j, c, rfl, hdc, hlen, hdec, rfl⟩
  (repeat (first | (refine K_ifT rfl rfl ?_) | (refine K_ifF rfl rfl ?_) | (refine K_ev nmd [] hng (by kernel_rfl) fun hf C S K hC1 hC hS hK => ?_; simp (disch := first | omega | assumption) only [go_sem]; refine hK ?_; clear hK hS hC hC1 K S C hf) | ((first | refine zn ?_ | refine ze ?_ | refine zk ?_); with_reducible (constructor; repeat constructor); try refine zl ?_)))
  refine K_ifd rfl rfl (fun hb => ?_) (fun hb => ?_)
  · have hb' : ¬ r = [] := fun e => by subst e; simp at hb
    obtain ⟨f1, f2, f3, f4⟩ := firstI_spec r
    (repeat (first | (refine K_ifT rfl rfl ?_) | (refine K_ifF rfl rfl ?_) | (refine K_ev nmd [] hng (by kernel_rfl) fun hf C S K hC1 hC hS hK => ?_; simp (disch := first | omega | assumption) only [go_sem]; refine hK ?_; clear hK hS hC hC1 K S C hf) | ((first | refine zv ?_ | refine zw ?_ | refine zu ?_); with_reducible (constructor; repeat constructor); try refine zl ?_)))
    refine K_block ?_
    (repeat (first | (refine K_ifT rfl rfl ?_) | (refine K_ifF rfl rfl ?_) | (refine K_ev nmd [] hng (by kernel_rfl) fun hf C S K hC1 hC hS hK => ?_; simp (disch := first | omega | assumption) only [go_sem]; refine hK ?_; clear hK hS hC hC1 K S C hf) | ((first | refine zv ?_ | refine zw ?_ | refine zu ?_); with_reducible (constructor; repeat constructor); try refine zl ?_)))
    refine K_cut [0, 4, 5] (fun s' => ∃ c' : Nat, d < c' ∧ s' = ⟨[(0, .str r), (4, .sl (.sub d j x.p) 1 done.length), (5, .int .i64 (firstI r))], Mem.of [(.sub d j x.p, .arr 1 (done.map AV.str))], c', []⟩) ?_ ?_
    · (repeat (first | (refine K_ifT rfl rfl ?_) | (refine K_ifF rfl rfl ?_) | (refine K_ev nmd [] hng (by kernel_rfl) fun hf C S K hC1 hC hS hK => ?_; simp (disch := first | omega | assumption) only [go_sem]; refine hK ?_; clear hK hS hC hC1 K S C hf) | ((first | refine zn ?_ | refine ze ?_ | refine zk ?_); with_reducible (constructor; repeat constructor); try refine zl ?_)))
      refine K_loop [0, 4, 5] (fun k s' => ∃ i c' : Nat, k = r.length - i ∧ i ≤ firstI r ∧ d < c' ∧ s' = ⟨[(0, .str r), (4, .sl (.sub d j x.p) 1 done.length), (5, .int .i64 i)], Mem.of [(.sub d j x.p, .arr 1 (done.map AV.str))], c', []⟩) _ ⟨0, _, rfl, Nat.zero_le _, by omega, rfl⟩ ?_
      rintro k s' ⟨i, c', rfl, hi, hdc', rfl⟩
      (try ((first | refine zn ?_ | refine ze ?_ | refine zk ?_); with_reducible (constructor; repeat constructor)); try refine zl ?_)
      refine K_ev nmd [(4, 14)] hng (by kernel_rfl) fun hf C S K hC1 hC hS hK => ?_; simp (disch := first | omega | assumption) only [go_sem]
      (repeat' (first | (refine evG_split (fun hv => ?_) (fun hv => ?_) <;> (try simp only [zb1, zb2, zb3, zb4, zb5] at hv) <;> simp (disch := first | omega | assumption) only [go_sem, hv, Int.reduceEq, Int.reduceNe, ne_eq, not_true_eq_false, not_false_eq_true, decide_true, decide_false]) | (refine hK ?_; clear hK hS hC hC1 K S C hf)))
      · (try ((first | refine zn ?_ | refine ze ?_ | refine zk ?_); with_reducible (constructor; repeat constructor)); try refine zl ?_)
        refine K_ifd rfl rfl (fun hb => ?_) (fun hb => ?_)
        · (repeat (first | (refine K_ifT rfl rfl ?_) | (refine K_ifF rfl rfl ?_) | (refine K_ev nmd [] hng (by kernel_rfl) fun hf C S K hC1 hC hS hK => ?_; simp (disch := first | omega | assumption) only [go_sem]; refine hK ?_; clear hK hS hC hC1 K S C hf) | ((first | refine zn ?_ | refine ze ?_ | refine zk ?_); with_reducible (constructor; repeat constructor); try refine zl ?_)))
          have hne : ¬ i = firstI r := fun e => by
            have := (f3 (by omega)).1
            rw [← e] at this
            exact hb (by rw [this]; rfl)
          exact ⟨_, _, by omega, fun _ _ h => h, i + 1, _, rfl, by omega, by omega, rfl⟩
        · (repeat (first | (refine K_ifT rfl rfl ?_) | (refine K_ifF rfl rfl ?_) | (refine K_ev nmd [] hng (by kernel_rfl) fun hf C S K hC1 hC hS hK => ?_; simp (disch := first | omega | assumption) only [go_sem]; refine hK ?_; clear hK hS hC hC1 K S C hf) | ((first | refine zn ?_ | refine ze ?_ | refine zk ?_); with_reducible (constructor; repeat constructor); try refine zl ?_)))
          have h58 : r.getD i 0 = 58 := UInt8.toNat_inj.1 (by have : (58 : UInt8).toNat = 58 := rfl; omega)
          have he : i = firstI r := by
            rcases Nat.lt_or_ge i (firstI r) with h | h
            · exact absurd h58 (f2 i h)
            · omega
          subst he
          exact K_cutN ⟨_, by omega, rfl⟩
      · (repeat (first | (refine K_ifT rfl rfl ?_) | (refine K_ifF rfl rfl ?_) | (refine K_ev nmd [] hng (by kernel_rfl) fun hf C S K hC1 hC hS hK => ?_; simp (disch := first | omega | assumption) only [go_sem]; refine hK ?_; clear hK hS hC hC1 K S C hf) | ((first | refine zn ?_ | refine ze ?_ | refine zk ?_); with_reducible (constructor; repeat constructor); try refine zl ?_)))
        have he : i = firstI r := by omega
        subst he
        exact K_cutN ⟨_, by omega, rfl⟩
    rintro s' ⟨c', hdc', rfl⟩
    obtain ⟨b1, b2⟩ := refN_bounds (r.take (firstI r))
    (repeat (first | (refine K_ifT rfl rfl ?_) | (refine K_ifF rfl rfl ?_) | (refine K_ev nmd [] hng (by kernel_rfl) fun hf C S K hC1 hC hS hK => ?_; simp (disch := first | omega | assumption) only [go_sem]; (repeat ((first | refine hC1 _ (numberR_ok (r.take (firstI r)) (by simp only [List.length_take]; omega) _) (by simp (disch := first | omega | assumption) only [go_sem]) ?_); simp (disch := first | omega | assumption) only [go_sem])); refine hK ?_; clear hK hS hC hC1 K S C hf) | ((first | refine zn ?_ | refine ze ?_ | refine zk ?_); with_reducible (constructor; repeat constructor); try refine zl ?_)))
    refine K_ev nmd [(2, 28), (11, 37)] hng (by kernel_rfl) fun hf C S K hC1 hC hS hK => ?_; simp (disch := first | omega | assumption) only [go_sem]
    (repeat' (first | (refine evG_split (fun hv => ?_) (fun hv => ?_) <;> (try simp only [zb1, zb2, zb3, zb4, zb5] at hv) <;> simp (disch := first | omega | assumption) only [go_sem, hv, Int.reduceEq, Int.reduceNe, ne_eq, not_true_eq_false, not_false_eq_true, decide_true, decide_false]) | (refine hK ?_; clear hK hS hC hC1 K S C hf)))
    · have hn1 : (refN (r.take (firstI r)) + (firstI r : Int) + 1).toNat = (refN (r.take (firstI r))).toNat + firstI r + 1 := by omega
      have hn2 : (refN (r.take (firstI r)) + (firstI r : Int) + 2).toNat = (refN (r.take (firstI r))).toNat + firstI r + 2 := by omega
      have hn3 : ((firstI r : Int) + 1).toNat = firstI r + 1 := by omega
      (repeat (first | (refine K_ifT rfl rfl ?_) | (refine K_ifF rfl rfl ?_) | (refine K_ev nmd [] hng (by kernel_rfl) fun hf C S K hC1 hC hS hK => ?_; simp (disch := first | omega | assumption) only [go_sem]; refine hK ?_; clear hK hS hC hC1 K S C hf) | ((first | refine zn ?_ | refine ze ?_ | refine zk ?_); with_reducible (constructor; repeat constructor); try refine zl ?_)))
      refine K_ifd rfl rfl (fun hb => ?_) (fun hb => ?_)
      · rw [decT_none hb' (fun h => hb (by have := (ok_ref.1 h).2.2; rw [hn1, this]; rfl))] at hdec
        (repeat (first | (refine K_ifT rfl rfl ?_) | (refine K_ifF rfl rfl ?_) | (refine K_ev nmd [] hng (by kernel_rfl) fun hf C S K hC1 hC hS hK => ?_; simp (disch := first | omega | assumption) only [go_sem]; refine hK ?_; clear hK hS hC hC1 K S C hf) | ((first | refine zn ?_ | refine ze ?_ | refine zk ?_); with_reducible (constructor; repeat constructor); try refine zl ?_)))
        exact K_ret (done_plain (by rw [hdec]; rfl))
      · have h44 : r.getD ((refN (r.take (firstI r))).toNat + firstI r + 1) 0 = 44 := UInt8.toNat_inj.1 (by
          rw [hn1] at hb; have : (44 : UInt8).toNat = 44 := rfl; omega)
        have hok : okS r := ok_ref.2 ⟨by omega, by omega, h44⟩
        obtain ⟨q1, q2⟩ := piece_ref hok
        rw [decT_some hb' hok, q1, q2] at hdec
        (repeat (first | (refine K_ifT rfl rfl ?_) | (refine K_ifF rfl rfl ?_) | (refine K_ev nmd [] hng (by kernel_rfl) fun hf C S K hC1 hC hS hK => ?_; simp (disch := first | omega | assumption) only [go_sem]; refine hK ?_; clear hK hS hC hC1 K S C hf) | ((first | refine zn ?_ | refine ze ?_ | refine zk ?_); with_reducible (constructor; repeat constructor); try refine zl ?_)))
        have hdl : (r.drop ((refN (r.take (firstI r))).toNat + firstI r + 2)).length < r.length := by
          have := List.length_pos_iff.2 hb'; simp only [List.length_drop]; omega
        rw [hn1, hn2, hn3]
        refine ⟨_, _, hdl, fun _ _ h => h, done ++ [(r.take ((refN (r.take (firstI r))).toNat + firstI r + 1)).drop (firstI r + 1)], r.drop ((refN (r.take (firstI r))).toNat + firstI r + 2), c' + 1 + 1, 10, c' + 1 + 1 + 1 + 1, rfl, by omega, ?_, ?_, ?_⟩
        · simp only [List.length_append, List.length_cons, List.length_nil]; omega
        · rw [hdec, Option.map_map]; congr 1; funext l; simp
        · rw [List.length_append, List.map_append]; rfl
    · (repeat (first | (refine K_ifT rfl rfl ?_) | (refine K_ifF rfl rfl ?_) | (refine K_ev nmd [] hng (by kernel_rfl) fun hf C S K hC1 hC hS hK => ?_; simp (disch := first | omega | assumption) only [go_sem]; refine hK ?_; clear hK hS hC hC1 K S C hf) | ((first | refine zn ?_ | refine ze ?_ | refine zk ?_); with_reducible (constructor; repeat constructor); try refine zl ?_)))
      rw [decT_none hb' (fun h => by have := (ok_ref.1 h).2.1; omega)] at hdec
      exact K_ret (done_plain (by rw [hdec]; rfl))
    · (repeat (first | (refine K_ifT rfl rfl ?_) | (refine K_ifF rfl rfl ?_) | (refine K_ev nmd [] hng (by kernel_rfl) fun hf C S K hC1 hC hS hK => ?_; simp (disch := first | omega | assumption) only [go_sem]; refine hK ?_; clear hK hS hC hC1 K S C hf) | ((first | refine zn ?_ | refine ze ?_ | refine zk ?_); with_reducible (constructor; repeat constructor); try refine zl ?_)))
      rw [decT_none hb' (fun h => by have := (ok_ref.1 h).1; omega)] at hdec
      exact K_ret (done_plain (by rw [hdec]; rfl))
  · have hb' : r = [] := List.eq_nil_of_length_eq_zero (by omega)
    subst hb'
    (repeat (first | (refine K_ifT rfl rfl ?_) | (refine K_ifF rfl rfl ?_) | (refine K_ev nmd [] hng (by kernel_rfl) fun hf C S K hC1 hC hS hK => ?_; simp (disch := first | omega | assumption) only [go_sem]; refine hK ?_; clear hK hS hC hC1 K S C hf) | ((first | refine zn ?_ | refine ze ?_ | refine zk ?_); with_reducible (constructor; repeat constructor); try refine zl ?_)))
    rw [decT_nil, Option.map_some, List.append_nil] at hdec
    rw [hdec]
    (refine K_freeze (.sub d j x.p) _ _ (by simp (disch := first | omega | assumption) only [go_sem]; rfl) ?_; simp (disch := first | omega | assumption) only [go_sem])
    exact K_ret (done_plain rfl)
end Go.Proofs.YtaecbmbecofijaaGreatDoor
namespace Go.Proofs.YtaecbmbecofijaaGreatDoor
open Go Go.Ab
set_option maxRecDepth 20000
set_option maxHeartbeats 4000000
theorem entC_ref {s a b c : Str} : entC s a b c = true ↔ 1 ≤ refN a ∧ refN a ≤ 3 ∧ 0 ≤ refN b ∧ refN b ≤ 7 ∧ ¬ (refN a = 2 ∧ ¬ c = []) ∧ valT ⟨refN a, refN b, c⟩ = s := by
  rw [entC_iff]
  obtain ⟨a1, a2⟩ := num_ref a
  obtain ⟨b1, b2⟩ := num_ref b
  constructor
  · rintro ⟨h1, h2, h3, h4, h5, h6, h7⟩
    rw [a2 h1] at h3 h4 h6 h7
    rw [b2 h2] at h5 h7
    rw [b1, decide_eq_true_eq] at h2
    exact ⟨h3, h4, h2, h5, h6, h7⟩
  · rintro ⟨h1, h2, h3, h4, h5, h6⟩
    have g1 : numG a = true := by rw [a1, decide_eq_true_eq]; omega
    have g2 : numG b = true := by rw [b1, decide_eq_true_eq]; omega
    rw [a2 g1, b2 g2]
    exact ⟨g1, g2, h1, h2, h4, h5, h6⟩
theorem ent_ref {s a b c : Str} : (if entC s a b c = true then ((⟨atoiN a, atoiN b, c⟩ : Bits), (0 : Int)) else (Bits.no, 20)) = if entC s a b c = true then (⟨refN a, refN b, c⟩, 0) else (Bits.no, 20) := by
  split
  · rename_i h
    have := entC_iff.1 h
    rw [(num_ref a).2 this.1, (num_ref b).2 this.2.1]
  · rfl
theorem entryR_ok (s : Str) (hl : s.length ≤ 4000000000) (p : Oid) : CallOK Tryz.prog 108 [.str s] (Oid.under p) ⟨[], .tuple [(entT s).1.av, .int .i64 (entT s).2], []⟩ := by
  by_cases h0 : s = []
  · subst h0
    refine fnOK (n := 70) (rs := [.cell 2 37, .tmp 3]) Tryz.func108 rfl rfl (by decide) rfl rfl rfl ?_; rintro x rfl hrd hng
    (repeat (first | (refine K_ifT rfl rfl ?_) | (refine K_ifF rfl rfl ?_) | (refine K_ev nmd [] hng (by kernel_rfl) fun hf C S K hC1 hC hS hK => ?_; simp (disch := first | omega | assumption) only [go_sem]; refine hK ?_; clear hK hS hC hC1 K S C hf) | ((first | refine zn ?_ | refine ze ?_ | refine zk ?_); with_reducible (constructor; repeat constructor); try refine zl ?_)))
    have hE : entT [] = (Bits.no, 0) := rfl
    rw [hE]
    exact K_ret (done_plain (by simp (disch := first | omega | assumption) only [go_sem, Bits.no, Bits.av]))
  have hde := fun p => decodeR_ok s hl p
  cases hd : decT s with
  | none =>
    simp only [hd, decR] at hde
    have hE : entT s = (Bits.no, 20) := by rw [entT, if_neg h0, hd]
    rw [hE]
    refine fnOK (n := 70) (rs := [.cell 2 37, .tmp 3]) Tryz.func108 rfl rfl (by decide) rfl rfl rfl ?_; rintro x rfl hrd hng
    (repeat (first | (refine K_ifT rfl rfl ?_) | (refine K_ifF rfl rfl ?_) | (refine K_ev nmd [] hng (by kernel_rfl) fun hf C S K hC1 hC hS hK => ?_; simp (disch := first | omega | assumption) only [go_sem]; refine hK ?_; clear hK hS hC hC1 K S C hf) | ((first | refine zn ?_ | refine ze ?_ | refine zk ?_); with_reducible (constructor; repeat constructor); try refine zl ?_)))
    refine K_ifd rfl rfl (fun hb => ?_) (fun hb => ?_)
    · exact absurd hb h0
    · (repeat (first | (refine K_ifT rfl rfl ?_) | (refine K_ifF rfl rfl ?_) | (refine K_ev nmd [] hng (by kernel_rfl) fun hf C S K hC1 hC hS hK => ?_; simp (disch := first | omega | assumption) only [go_sem]; (repeat ((first | refine hC1 _ (hde _) (by simp (disch := first | omega | assumption) only [go_sem]) ?_); simp (disch := first | omega | assumption) only [go_sem])); refine hK ?_; clear hK hS hC hC1 K S C hf) | ((first | refine zn ?_ | refine ze ?_ | refine zk ?_); with_reducible (constructor; repeat constructor); try refine zl ?_)))
      refine K_ev nmd [(2, 19)] hng (by kernel_rfl) fun hf C S K hC1 hC hS hK => ?_; simp (disch := first | omega | assumption) only [go_sem, Int.reduceEq, Int.reduceNe, ne_eq, not_true_eq_false, not_false_eq_true, decide_true, decide_false]
      refine hK ?_; clear hK hS hC hC1 K S C hf
      (repeat (first | (refine K_ifT rfl rfl ?_) | (refine K_ifF rfl rfl ?_) | (refine K_ev nmd [] hng (by kernel_rfl) fun hf C S K hC1 hC hS hK => ?_; simp (disch := first | omega | assumption) only [go_sem]; refine hK ?_; clear hK hS hC hC1 K S C hf) | ((first | refine zn ?_ | refine ze ?_ | refine zk ?_); with_reducible (constructor; repeat constructor); try refine zl ?_)))
      exact K_ret (done_plain (by simp (disch := first | omega | assumption) only [go_sem, Bits.no, Bits.av]))
  | some l =>
    simp only [hd, decR] at hde
    by_cases h3 : l.length = 3
    · obtain ⟨a, b, c, rfl⟩ : ∃ a b c, l = [a, b, c] := by
        match l, h3 with
        | [a, b, c], _ => exact ⟨a, b, c, rfl⟩
      have ha := decT_mem hd a (by simp)
      have hbl := decT_mem hd b (by simp)
      have hc := decT_mem hd c (by simp)
      have hE : entT s = if entC s a b c = true then (⟨refN a, refN b, c⟩, 0) else (Bits.no, 20) := by rw [entT, if_neg h0, hd]; exact ent_ref
      obtain ⟨a1, a2⟩ := refN_bounds a
      obtain ⟨b1, b2⟩ := refN_bounds b
      rw [hE]
      refine fnOK (n := 70) (rs := [.cell 2 37, .tmp 3]) Tryz.func108 rfl rfl (by decide) rfl rfl rfl ?_; rintro x rfl hrd hng
      (repeat (first | (refine K_ifT rfl rfl ?_) | (refine K_ifF rfl rfl ?_) | (refine K_ev nmd [] hng (by kernel_rfl) fun hf C S K hC1 hC hS hK => ?_; simp (disch := first | omega | assumption) only [go_sem]; refine hK ?_; clear hK hS hC hC1 K S C hf) | ((first | refine zn ?_ | refine ze ?_ | refine zk ?_); with_reducible (constructor; repeat constructor); try refine zl ?_)))
      refine K_ifd rfl rfl (fun hb => ?_) (fun hb => ?_)
      · exact absurd hb h0
      · (repeat (first | (refine K_ifT rfl rfl ?_) | (refine K_ifF rfl rfl ?_) | (refine K_ev nmd [] hng (by kernel_rfl) fun hf C S K hC1 hC hS hK => ?_; simp (disch := first | omega | assumption) only [go_sem]; (repeat ((first | refine hC1 _ (hde _) (by simp (disch := first | omega | assumption) only [go_sem]) ?_); simp (disch := first | omega | assumption) only [go_sem])); refine hK ?_; clear hK hS hC hC1 K S C hf) | ((first | refine zn ?_ | refine ze ?_ | refine zk ?_); with_reducible (constructor; repeat constructor); try refine zl ?_)))
        refine K_ev nmd [(2, 19)] hng (by kernel_rfl) fun hf C S K hC1 hC hS hK => ?_; simp (disch := first | omega | assumption) only [go_sem, Int.reduceEq, Int.reduceNe, ne_eq, not_true_eq_false, not_false_eq_true, decide_true, decide_false]
        refine hK ?_; clear hK hS hC hC1 K S C hf
        (try ((first | refine zn ?_ | refine ze ?_ | refine zk ?_); with_reducible (constructor; repeat constructor)); try refine zl ?_)
        refine K_ifF rfl rfl ?_
        (try ((first | refine zn ?_ | refine ze ?_ | refine zk ?_); with_reducible (constructor; repeat constructor)); try refine zl ?_)
        refine K_cut [0, 2, 4, 6, 7] (fun s' => ∃ c0 : Nat, s' = ⟨[(0, .str s), (2, .ptr (.sub 0 0 x.p) 0), (4, .list 1 [.str a, .str b, .str c]), (6, .int .i64 (refN a)), (7, .int .i64 (refN b))], Mem.of [(.sub 0 0 x.p, .cells [.int .i64 0, .int .i64 0, .str []])], c0, []⟩ ∧ 0 < c0) ?_ ?_
        · refine K_evd nmd [] [(3, 6)] mixed hng (by kernel_rfl) [0, 2, 4, 6, 7] fun hf C S K hC hS hK => ?_; simp (disch := first | omega | assumption) only [go_sem]
          (repeat ((first | refine hC _ (numberR_ok a (by omega) _) (by simp (disch := first | omega | assumption) only [go_sem]) ?_ | refine hC _ (numberR_ok b (by omega) _) (by simp (disch := first | omega | assumption) only [go_sem]) ?_); simp (disch := first | omega | assumption) only [go_sem]))
          (first | refine hK (dynN_quiet rfl) ?_ | refine hK (by simp (disch := first | omega | assumption) only [go_sem, List.reverse_cons, List.reverse_nil, ne_eq, not_false_eq_true, implies_true]) ?_); clear hK hS hC K S C hf
          exact K_cutN ⟨_, rfl, by omega⟩
        rintro s' ⟨c0, rfl, hc0⟩
        (try ((first | refine zn ?_ | refine ze ?_ | refine zk ?_); with_reducible (constructor; repeat constructor)); try refine zl ?_)
        refine K_ev nmd [(2, 35), (6, 39), (10, 43), (14, 47), (17, 50)] hng (by kernel_rfl) fun hf C S K hC1 hC hS hK => ?_; simp (disch := first | omega | assumption) only [go_sem]
        (repeat' (first | (refine evG_split (fun hv => ?_) (fun hv => ?_) <;> (try simp only [zb1, zb2, zb3, zb4, zb5] at hv) <;> simp (disch := first | omega | assumption) only [go_sem, hv, Int.reduceEq, Int.reduceNe, ne_eq, not_true_eq_false, not_false_eq_true, decide_true, decide_false]) | (refine hK ?_; clear hK hS hC hC1 K S C hf)))
        all_goals (repeat (first | (refine K_ifT rfl rfl ?_) | (refine K_ifF rfl rfl ?_) | (refine K_ev nmd [] hng (by kernel_rfl) fun hf C S K hC1 hC hS hK => ?_; simp (disch := first | omega | assumption) only [go_sem]; refine hK ?_; clear hK hS hC hC1 K S C hf) | ((first | refine zn ?_ | refine ze ?_ | refine zk ?_); with_reducible (constructor; repeat constructor); try refine zl ?_)))
        · rename_i h1 h2 h3 h4
          have hval := valueR_ok ⟨refN a, refN b, c⟩ ⟨⟨by simp only; omega, by simp only; omega⟩, ⟨by simp only; omega, by simp only; omega⟩, by simp only; omega⟩ ⟨by simp only; omega, by simp only; omega⟩
          have hval2 := valueR_ok ⟨2, refN b, c⟩ ⟨⟨by simp only; omega, by simp only; omega⟩, ⟨by simp only; omega, by simp only; omega⟩, by simp only; omega⟩ ⟨by simp only; omega, by simp only; omega⟩
          refine K_ifd rfl rfl (fun hb => ?_) (fun hb => ?_)
          · rw [if_neg (fun h => (entC_ref.1 h).2.2.2.2.1 ⟨hv, hb⟩)]
            (repeat (first | (refine K_ifT rfl rfl ?_) | (refine K_ifF rfl rfl ?_) | (refine K_ev nmd [] hng (by kernel_rfl) fun hf C S K hC1 hC hS hK => ?_; simp (disch := first | omega | assumption) only [go_sem]; refine hK ?_; clear hK hS hC hC1 K S C hf) | ((first | refine zn ?_ | refine ze ?_ | refine zk ?_); with_reducible (constructor; repeat constructor); try refine zl ?_)))
            exact K_ret (done_plain (by simp (disch := first | omega | assumption) only [go_sem, Bits.no, Bits.av]))
          · have hcn := hb
            (repeat (first | (refine K_ifT rfl rfl ?_) | (refine K_ifF rfl rfl ?_) | (refine K_ev nmd [] hng (by kernel_rfl) fun hf C S K hC1 hC hS hK => ?_; simp (disch := first | omega | assumption) only [go_sem]; (repeat ((first | refine hC1 _ (hval _) (by simp (disch := first | omega | assumption) only [go_sem]) ?_ | refine hC1 _ (hval2 _) (by simp (disch := first | omega | assumption) only [go_sem]) ?_); simp (disch := first | omega | assumption) only [go_sem])); refine hK ?_; clear hK hS hC hC1 K S C hf) | ((first | refine zn ?_ | refine ze ?_ | refine zk ?_); with_reducible (constructor; repeat constructor); try refine zl ?_)))
            refine K_ifd rfl rfl (fun hb => ?_) (fun hb => ?_)
            · rw [if_neg (fun h => by have := (entC_ref.1 h).2.2.2.2.2; first | exact hb this | (rw [hv] at this; exact hb this))]
              (repeat (first | (refine K_ifT rfl rfl ?_) | (refine K_ifF rfl rfl ?_) | (refine K_ev nmd [] hng (by kernel_rfl) fun hf C S K hC1 hC hS hK => ?_; simp (disch := first | omega | assumption) only [go_sem]; refine hK ?_; clear hK hS hC hC1 K S C hf) | ((first | refine zn ?_ | refine ze ?_ | refine zk ?_); with_reducible (constructor; repeat constructor); try refine zl ?_)))
              exact K_ret (done_plain (by simp (disch := first | omega | assumption) only [go_sem, Bits.no, Bits.av]))
            · have hok : entC s a b c = true := entC_ref.2 ⟨by omega, by omega, by omega, by omega, fun h => hcn h.2, by first | exact Classical.not_not.1 hb | (rw [hv]; exact Classical.not_not.1 hb)⟩
              rw [if_pos hok]
              (repeat (first | (refine K_ifT rfl rfl ?_) | (refine K_ifF rfl rfl ?_) | (refine K_ev nmd [] hng (by kernel_rfl) fun hf C S K hC1 hC hS hK => ?_; simp (disch := first | omega | assumption) only [go_sem]; refine hK ?_; clear hK hS hC hC1 K S C hf) | ((first | refine zn ?_ | refine ze ?_ | refine zk ?_); with_reducible (constructor; repeat constructor); try refine zl ?_)))
              exact K_ret (done_plain (by simp (disch := first | omega | assumption) only [go_sem, Bits.av, hv]))
        · rename_i h1 h2 h3 h4
          have hval := valueR_ok ⟨refN a, refN b, c⟩ ⟨⟨by simp only; omega, by simp only; omega⟩, ⟨by simp only; omega, by simp only; omega⟩, by simp only; omega⟩ ⟨by simp only; omega, by simp only; omega⟩
          (repeat (first | (refine K_ifT rfl rfl ?_) | (refine K_ifF rfl rfl ?_) | (refine K_ev nmd [] hng (by kernel_rfl) fun hf C S K hC1 hC hS hK => ?_; simp (disch := first | omega | assumption) only [go_sem]; (repeat ((first | refine hC1 _ (hval _) (by simp (disch := first | omega | assumption) only [go_sem]) ?_); simp (disch := first | omega | assumption) only [go_sem])); refine hK ?_; clear hK hS hC hC1 K S C hf) | ((first | refine zn ?_ | refine ze ?_ | refine zk ?_); with_reducible (constructor; repeat constructor); try refine zl ?_)))
          refine K_ifd rfl rfl (fun hb => ?_) (fun hb => ?_)
          · rw [if_neg (fun h => hb (entC_ref.1 h).2.2.2.2.2)]
            (repeat (first | (refine K_ifT rfl rfl ?_) | (refine K_ifF rfl rfl ?_) | (refine K_ev nmd [] hng (by kernel_rfl) fun hf C S K hC1 hC hS hK => ?_; simp (disch := first | omega | assumption) only [go_sem]; refine hK ?_; clear hK hS hC hC1 K S C hf) | ((first | refine zn ?_ | refine ze ?_ | refine zk ?_); with_reducible (constructor; repeat constructor); try refine zl ?_)))
            exact K_ret (done_plain (by simp (disch := first | omega | assumption) only [go_sem, Bits.no, Bits.av]))
          · rw [if_pos (entC_ref.2 ⟨by omega, by omega, by omega, by omega, fun h => hv h.1, Classical.not_not.1 hb⟩)]
            (repeat (first | (refine K_ifT rfl rfl ?_) | (refine K_ifF rfl rfl ?_) | (refine K_ev nmd [] hng (by kernel_rfl) fun hf C S K hC1 hC hS hK => ?_; simp (disch := first | omega | assumption) only [go_sem]; refine hK ?_; clear hK hS hC hC1 K S C hf) | ((first | refine zn ?_ | refine ze ?_ | refine zk ?_); with_reducible (constructor; repeat constructor); try refine zl ?_)))
            exact K_ret (done_plain (by simp (disch := first | omega | assumption) only [go_sem, Bits.no, Bits.av]))
        all_goals
          rw [if_neg (fun h => by have := entC_ref.1 h; omega)]
          exact K_ret (done_plain (by simp (disch := first | omega | assumption) only [go_sem, Bits.no, Bits.av]))
    · have hE := entT_bad h0 hd h3
      rw [hE]
      refine fnOK (n := 70) (rs := [.cell 2 37, .tmp 3]) Tryz.func108 rfl rfl (by decide) rfl rfl rfl ?_; rintro x rfl hrd hng
      (repeat (first | (refine K_ifT rfl rfl ?_) | (refine K_ifF rfl rfl ?_) | (refine K_ev nmd [] hng (by kernel_rfl) fun hf C S K hC1 hC hS hK => ?_; simp (disch := first | omega | assumption) only [go_sem]; refine hK ?_; clear hK hS hC hC1 K S C hf) | ((first | refine zn ?_ | refine ze ?_ | refine zk ?_); with_reducible (constructor; repeat constructor); try refine zl ?_)))
      refine K_ifd rfl rfl (fun hb => ?_) (fun hb => ?_)
      · exact absurd hb h0
      · (repeat (first | (refine K_ifT rfl rfl ?_) | (refine K_ifF rfl rfl ?_) | (refine K_ev nmd [] hng (by kernel_rfl) fun hf C S K hC1 hC hS hK => ?_; simp (disch := first | omega | assumption) only [go_sem]; (repeat ((first | refine hC1 _ (hde _) (by simp (disch := first | omega | assumption) only [go_sem]) ?_); simp (disch := first | omega | assumption) only [go_sem])); refine hK ?_; clear hK hS hC hC1 K S C hf) | ((first | refine zn ?_ | refine ze ?_ | refine zk ?_); with_reducible (constructor; repeat constructor); try refine zl ?_)))
        refine K_ev nmd [(2, 19)] hng (by kernel_rfl) fun hf C S K hC1 hC hS hK => ?_; simp (disch := first | omega | assumption) only [go_sem, Int.reduceEq, Int.reduceNe, ne_eq, not_true_eq_false, not_false_eq_true, decide_true, decide_false]
        refine hK ?_; clear hK hS hC hC1 K S C hf
        (try ((first | refine zn ?_ | refine ze ?_ | refine zk ?_); with_reducible (constructor; repeat constructor)); try refine zl ?_)
        refine K_ifd rfl rfl (fun hb => ?_) (fun hb => ?_)
        · (repeat (first | (refine K_ifT rfl rfl ?_) | (refine K_ifF rfl rfl ?_) | (refine K_ev nmd [] hng (by kernel_rfl) fun hf C S K hC1 hC hS hK => ?_; simp (disch := first | omega | assumption) only [go_sem]; refine hK ?_; clear hK hS hC hC1 K S C hf) | ((first | refine zn ?_ | refine ze ?_ | refine zk ?_); with_reducible (constructor; repeat constructor); try refine zl ?_)))
          exact K_ret (done_plain (by simp (disch := first | omega | assumption) only [go_sem, Bits.no, Bits.av]))
        · omega
end Go.Proofs.YtaecbmbecofijaaGreatDoor
namespace Go.Proofs.YtaecbmbecofijaaGreatDoor
open Go Go.Ab
set_option maxRecDepth 20000
set_option maxHeartbeats 4000000
theorem same_take {a b : List Str} {i : Nat} (ha : i < a.length) (hb : i < b.length) (h : a.take i = b.take i) (he : a.getD i default = b.getD i default) : a.take (i + 1) = b.take (i + 1) := by
  rw [List.take_add_one, List.take_add_one, h, List.getElem?_eq_getElem ha, List.getElem?_eq_getElem hb]
  rw [List.getD_eq_getElem?_getD, List.getD_eq_getElem?_getD, List.getElem?_eq_getElem ha, List.getElem?_eq_getElem hb] at he
  simp only [Option.getD_some] at he
  rw [he]
theorem same_ok (a b : List Str) (ha : a.length ≤ 140737488355328) (hbl : b.length ≤ 140737488355328) (p : Oid) : CallOK Tryz.prog 30 [.list 1 (a.map AV.str), .list 1 (b.map AV.str)] (Oid.under p) ⟨[], .bool (decide (a = b)), []⟩ := by
  refine fnOK (n := 26) (rs := [.tmp 4]) Tryz.func30 rfl rfl (by decide) rfl rfl rfl ?_; rintro x rfl hrd hng
  (repeat (first | (refine K_ifT rfl rfl ?_) | (refine K_ifF rfl rfl ?_) | (refine K_ev nmd [] hng (by kernel_rfl) fun hf C S K hC1 hC hS hK => ?_; simp (disch := first | omega | assumption) only [go_sem]; refine hK ?_; clear hK hS hC hC1 K S C hf) | ((first | refine zn ?_ | refine ze ?_ | refine zk ?_); with_reducible (constructor; repeat constructor); try refine zl ?_)))
  refine K_ifd rfl rfl (fun hb => ?_) (fun hb => ?_)
  · have hne : ¬ a = b := fun e => hb (by rw [e])
    (repeat (first | (refine K_ifT rfl rfl ?_) | (refine K_ifF rfl rfl ?_) | (refine K_ev nmd [] hng (by kernel_rfl) fun hf C S K hC1 hC hS hK => ?_; simp (disch := first | omega | assumption) only [go_sem]; refine hK ?_; clear hK hS hC hC1 K S C hf) | ((first | refine zn ?_ | refine ze ?_ | refine zk ?_); with_reducible (constructor; repeat constructor); try refine zl ?_)))
    exact K_ret (done1 (congrArg AV.bool (decide_eq_false hne).symm))
  · have hlen : a.length = b.length := by omega
    (repeat (first | (refine K_ifT rfl rfl ?_) | (refine K_ifF rfl rfl ?_) | (refine K_ev nmd [] hng (by kernel_rfl) fun hf C S K hC1 hC hS hK => ?_; simp (disch := first | omega | assumption) only [go_sem]; refine hK ?_; clear hK hS hC hC1 K S C hf) | ((first | refine zn ?_ | refine ze ?_ | refine zk ?_); with_reducible (constructor; repeat constructor); try refine zl ?_)))
    refine K_loop [0, 1, 5] (fun k s' => ∃ (i c : Nat), k = a.length - i ∧ i ≤ a.length ∧ a.take i = b.take i ∧ s' = ⟨[(0, .list 1 (a.map AV.str)), (1, .list 1 (b.map AV.str)), (5, .int .i64 i)], Mem.of [], c, []⟩) _ ⟨0, _, rfl, Nat.zero_le _, rfl, rfl⟩ ?_
    rintro k s' ⟨i, c, rfl, hi, htk, rfl⟩
    (repeat (first | (refine K_ifT rfl rfl ?_) | (refine K_ifF rfl rfl ?_) | (refine K_ev nmd [] hng (by kernel_rfl) fun hf C S K hC1 hC hS hK => ?_; simp (disch := first | omega | assumption) only [go_sem]; refine hK ?_; clear hK hS hC hC1 K S C hf) | ((first | refine zn ?_ | refine ze ?_ | refine zk ?_); with_reducible (constructor; repeat constructor); try refine zl ?_)))
    refine K_ifd rfl rfl (fun hb => ?_) (fun hb => ?_)
    · (try ((first | refine zn ?_ | refine ze ?_ | refine zk ?_); with_reducible (constructor; repeat constructor)); try refine zl ?_)
      refine K_cut [0, 1, 5, 25] (fun s' => ∃ c' : Nat, s' = ⟨[(0, .list 1 (a.map AV.str)), (1, .list 1 (b.map AV.str)), (5, .int .i64 i), (25, .bool (decide (¬ a.getD i default = b.getD i default)))], Mem.of [], c', []⟩) ?_ ?_
      · refine K_evd nmd [] [] mixed hng (by kernel_rfl) [0, 1, 5, 25] fun hf C S K hC hS hK => ?_; simp (disch := first | omega | assumption) only [go_sem]
        (first | refine hK (dynN_quiet rfl) ?_ | refine hK (by simp (disch := first | omega | assumption) only [go_sem, List.reverse_cons, List.reverse_nil, ne_eq, not_false_eq_true, implies_true]) ?_); clear hK hS hC K S C hf
        exact K_cutN ⟨_, rfl⟩
      rintro s' ⟨c', rfl⟩
      (repeat (first | (refine K_ifT rfl rfl ?_) | (refine K_ifF rfl rfl ?_) | (refine K_ev nmd [] hng (by kernel_rfl) fun hf C S K hC1 hC hS hK => ?_; simp (disch := first | omega | assumption) only [go_sem]; refine hK ?_; clear hK hS hC hC1 K S C hf) | ((first | refine zn ?_ | refine ze ?_ | refine zk ?_); with_reducible (constructor; repeat constructor); try refine zl ?_)))
      refine K_ifd rfl rfl (fun hb => ?_) (fun hb => ?_)
      · have hne : ¬ a = b := fun e => hb (by rw [e])
        (repeat (first | (refine K_ifT rfl rfl ?_) | (refine K_ifF rfl rfl ?_) | (refine K_ev nmd [] hng (by kernel_rfl) fun hf C S K hC1 hC hS hK => ?_; simp (disch := first | omega | assumption) only [go_sem]; refine hK ?_; clear hK hS hC hC1 K S C hf) | ((first | refine zn ?_ | refine ze ?_ | refine zk ?_); with_reducible (constructor; repeat constructor); try refine zl ?_)))
        exact K_ret (done1 (congrArg AV.bool (decide_eq_false hne).symm))
      · (repeat (first | (refine K_ifT rfl rfl ?_) | (refine K_ifF rfl rfl ?_) | (refine K_ev nmd [] hng (by kernel_rfl) fun hf C S K hC1 hC hS hK => ?_; simp (disch := first | omega | assumption) only [go_sem]; refine hK ?_; clear hK hS hC hC1 K S C hf) | ((first | refine zn ?_ | refine ze ?_ | refine zk ?_); with_reducible (constructor; repeat constructor); try refine zl ?_)))
        exact ⟨_, _, by omega, fun _ _ h => h, i + 1, _, rfl, by omega, same_take (by omega) (by omega) htk (Classical.not_not.1 hb), rfl⟩
    · have he : a = b := by
        have h1 : i = a.length := by omega
        rw [h1, List.take_length, hlen, List.take_length] at htk
        exact htk
      (repeat (first | (refine K_ifT rfl rfl ?_) | (refine K_ifF rfl rfl ?_) | (refine K_ev nmd [] hng (by kernel_rfl) fun hf C S K hC1 hC hS hK => ?_; simp (disch := first | omega | assumption) only [go_sem]; refine hK ?_; clear hK hS hC hC1 K S C hf) | ((first | refine zn ?_ | refine ze ?_ | refine zk ?_); with_reducible (constructor; repeat constructor); try refine zl ?_)))
      exact K_ret (done1 (congrArg AV.bool (decide_eq_true he).symm))
end Go.Proofs.YtaecbmbecofijaaGreatDoor
namespace Go.Proofs.YtaecbmbecofijaaGreatDoor
open Go Go.Ab
set_option maxRecDepth 20000
set_option maxHeartbeats 4000000
def paths : List Str := [[], [47, 97], [47, 98], [47, 97, 47, 97], [47, 97, 47, 98], [47, 98, 47, 97], [97], [47, 97, 47, 97, 47, 97], [47], [47, 97, 98]]
def pathT (i : UInt8) : Str := paths.getD (i.toNat % 10) default
theorem path_ok (i : UInt8) (p : Oid) : CallOK Tryz.prog 21 [.int .u8 i.toNat] (Oid.under p) ⟨[], .str (pathT i), []⟩ := by
  have hP : [AV.str [], AV.str [47, 97], AV.str [47, 98], AV.str [47, 97, 47, 97], AV.str [47, 97, 47, 98], AV.str [47, 98, 47, 97], AV.str [97], AV.str [47, 97, 47, 97, 47, 97], AV.str [47], AV.str [47, 97, 98]] = paths.map AV.str := rfl
  have hPl : paths.length = 10 := rfl
  have h10 : ((i.toNat : Int)).tmod ((10 : Nat) : Int) = ((i.toNat % 10 : Nat) : Int) := tmod_nat i.toNat 10
  have hlt := i.toNat_lt
  have hm : i.toNat % 10 < 10 := Nat.mod_lt _ (by decide)
  refine fnOK (n := 13) (rs := [.tmp 2]) Tryz.func21 rfl rfl (by decide) rfl rfl rfl ?_; rintro x rfl hrd hng
  (try ((first | refine zn ?_ | refine ze ?_ | refine zk ?_); with_reducible (constructor; repeat constructor)); try refine zl ?_)
  refine K_ev nmd [] hng (by kernel_rfl) fun hf C S K hC1 hC hS hK => ?_; simp (disch := first | omega | assumption) only [go_sem]
  refine hK ?_; clear hK hS hC hC1 K S C hf
  (try ((first | refine zn ?_ | refine ze ?_ | refine zk ?_); with_reducible (constructor; repeat constructor)); try refine zl ?_)
  refine K_ev nmd [] hng (by kernel_rfl) fun hf C S K hC1 hC hS hK => ?_; simp (disch := first | omega | assumption) only [go_sem]
  refine hK ?_; clear hK hS hC hC1 K S C hf
  (try ((first | refine zn ?_ | refine ze ?_ | refine zk ?_); with_reducible (constructor; repeat constructor)); try refine zl ?_)
  refine K_ev nmd [] hng (by kernel_rfl) fun hf C S K hC1 hC hS hK => ?_; simp (disch := first | omega | assumption) only [go_sem, h10, hP, hPl]
  refine hK ?_; clear hK hS hC hC1 K S C hf
  (repeat (first | (refine K_ifT rfl rfl ?_) | (refine K_ifF rfl rfl ?_) | (refine K_ev nmd [] hng (by kernel_rfl) fun hf C S K hC1 hC hS hK => ?_; simp (disch := first | omega | assumption) only [go_sem]; refine hK ?_; clear hK hS hC hC1 K S C hf) | ((first | refine zn ?_ | refine ze ?_ | refine zk ?_); with_reducible (constructor; repeat constructor); try refine zl ?_)))
  exact K_ret (done1 rfl)
def entryB (m k l : UInt8) : Bits :=
  ⟨(m.toNat % 4 : Nat), (k.toNat % 8 : Nat), if m.toNat % 4 = 1 ∨ m.toNat % 4 = 3 then ([120, 121, 122] : Str).drop (l.toNat % 3) else []⟩
theorem lentry_ok (a b m k l : UInt8) (p : Oid) : CallOK Tryz.prog 22 [.agg [.int .u8 a.toNat, .int .u8 b.toNat, .int .u8 m.toNat, .int .u8 k.toNat, .int .u8 l.toNat]] (Oid.under p) ⟨[], (entryB m k l).av, []⟩ := by
  have h1 : ((m.toNat : Int)).tmod 4 = ((m.toNat % 4 : Nat) : Int) := tmod_nat _ 4
  have h2 : ((k.toNat : Int)).tmod 8 = ((k.toNat % 8 : Nat) : Int) := tmod_nat _ 8
  have h3 : ((l.toNat : Int)).tmod 3 = ((l.toNat % 3 : Nat) : Int) := tmod_nat _ 3
  have g1 := m.toNat_lt
  have g2 := k.toNat_lt
  have g3 := l.toNat_lt
  have g4 : l.toNat % 3 < 3 := Nat.mod_lt _ (by decide)
  refine fnOK (n := 28) (rs := [.cell 2 37]) Tryz.func22 rfl rfl (by decide) rfl rfl rfl ?_; rintro x rfl hrd hng
  (repeat (first | (refine K_ifT rfl rfl ?_) | (refine K_ifF rfl rfl ?_) | (refine K_ev nmd [] hng (by kernel_rfl) fun hf C S K hC1 hC hS hK => ?_; simp (disch := first | omega | assumption) only [go_sem, h1, h2]; refine hK ?_; clear hK hS hC hC1 K S C hf) | ((first | refine zn ?_ | refine ze ?_ | refine zk ?_); with_reducible (constructor; repeat constructor); try refine zl ?_)))
  refine K_ev nmd [(3, 16)] hng (by kernel_rfl) fun hf C S K hC1 hC hS hK => ?_; simp (disch := first | omega | assumption) only [go_sem]
  (repeat' (first | (refine evG_split (fun hv => ?_) (fun hv => ?_) <;> (try simp only [zb1, zb2, zb3, zb4, zb5] at hv) <;> simp (disch := first | omega | assumption) only [go_sem, hv]) | (refine hK ?_; clear hK hS hC hC1 K S C hf)))
  all_goals (repeat (first | (refine K_ifT rfl rfl ?_) | (refine K_ifF rfl rfl ?_) | (refine K_ev nmd [] hng (by kernel_rfl) fun hf C S K hC1 hC hS hK => ?_; simp (disch := first | omega | assumption) only [go_sem, h3]; refine hK ?_; clear hK hS hC hC1 K S C hf) | ((first | refine zn ?_ | refine ze ?_ | refine zk ?_); with_reducible (constructor; repeat constructor); try refine zl ?_)))
  · refine K_ifd rfl rfl (fun hb => ?_) (fun hb => ?_)
    · have hm : m.toNat % 4 = 3 := by omega
      have hE : entryB m k l = ⟨((m.toNat % 4 : Nat) : Int), ((k.toNat % 8 : Nat) : Int), ([120, 121, 122] : Str).drop (l.toNat % 3)⟩ := by rw [entryB, if_pos (.inr hm)]
      rw [hE]
      (repeat (first | (refine K_ifT rfl rfl ?_) | (refine K_ifF rfl rfl ?_) | (refine K_ev nmd [] hng (by kernel_rfl) fun hf C S K hC1 hC hS hK => ?_; simp (disch := first | omega | assumption) only [go_sem, h3]; refine hK ?_; clear hK hS hC hC1 K S C hf) | ((first | refine zn ?_ | refine ze ?_ | refine zk ?_); with_reducible (constructor; repeat constructor); try refine zl ?_)))
      exact K_ret (done_plain (by simp (disch := first | omega | assumption) only [go_sem, Bits.av]))
    · have hE : entryB m k l = ⟨((m.toNat % 4 : Nat) : Int), ((k.toNat % 8 : Nat) : Int), []⟩ := by rw [entryB, if_neg (by omega)]
      rw [hE]
      (repeat (first | (refine K_ifT rfl rfl ?_) | (refine K_ifF rfl rfl ?_) | (refine K_ev nmd [] hng (by kernel_rfl) fun hf C S K hC1 hC hS hK => ?_; simp (disch := first | omega | assumption) only [go_sem]; refine hK ?_; clear hK hS hC hC1 K S C hf) | ((first | refine zn ?_ | refine ze ?_ | refine zk ?_); with_reducible (constructor; repeat constructor); try refine zl ?_)))
      exact K_ret (done_plain (by simp (disch := first | omega | assumption) only [go_sem, Bits.av]))
  · have hm : m.toNat % 4 = 1 := by omega
    have hE : entryB m k l = ⟨1, ((k.toNat % 8 : Nat) : Int), ([120, 121, 122] : Str).drop (l.toNat % 3)⟩ := by rw [entryB, if_pos (.inl hm), hm]; rfl
    rw [hE]
    exact K_ret (done_plain (by simp (disch := first | omega | assumption) only [go_sem, Bits.av]))
theorem new_ok (p : Oid) : CallOK Tryz.prog 15 [] (Oid.under p) ⟨[], .ptr (.sub 1 2 p) 0, [(.sub 1 2 p, some (.cells [.map (.sub 1 0 p), .nilPtr])), (.sub 1 0 p, some (.map [.ss] false [] 0))]⟩ := by
  refine fnOK (n := 4) (rs := [.tmp 0]) Tryz.func15 rfl rfl (by decide) rfl rfl rfl ?_; rintro x rfl hrd hng
  (repeat (first | (refine K_ifT rfl rfl ?_) | (refine K_ifF rfl rfl ?_) | (refine K_ev nmd [] hng (by kernel_rfl) fun hf C S K hC1 hC hS hK => ?_; simp (disch := first | omega | assumption) only [go_sem]; refine hK ?_; clear hK hS hC hC1 K S C hf) | ((first | refine zn ?_ | refine ze ?_ | refine zk ?_); with_reducible (constructor; repeat constructor); try refine zl ?_)))
  refine K_ret (done_upd rfl ?_ ?_)
  all_goals simp [Mem.of_cons_at]
end Go.Proofs.YtaecbmbecofijaaGreatDoor
namespace Go.Proofs.YtaecbmbecofijaaGreatDoor
open Go Go.Ab
set_option maxRecDepth 20000
set_option maxHeartbeats 4000000
theorem done_updN {P : Program} {rs : List ResultVar} {need : List (Oid × AObj)} {fr : List (Nat × AV)} {m : Mem} {c : Nat} {val : AV} {upd : List (Oid × Option AObj)} (h1 : retM P m fr rs = some val)
    (h2 : ∀ q, q ∈ upd → ∀ o, q.2 = some o → m q.1 = some o) (h3 : ∀ q, q ∈ need → (∀ r, r ∈ upd → ¬ r.1 = q.1) → m q.1 = some q.2) : DoneN P rs need (fun v u => v = val ∧ u = upd) (fun _ _ => False) .normal ⟨fr, m, c, []⟩ :=
  done_normal val upd h1 ⟨rfl, rfl⟩ (upd_sub h2 h3)
variable (st t : Oid) (es : List ME) (clock : Nat) (hts : ¬ t = st) (p : Oid) (hs : ¬ Oid.under p st) (ht : ¬ Oid.under p t)
include hts hs ht
theorem put_nil (b : Bits) : CallOK Tryz.prog 19 [.ptr st 0, .str [], b.av] (Oid.under p) ⟨[(st, .cells [.map t, .nilPtr]), (t, .map [.ss] false es clock)], .tuple [], []⟩ := by
  simp only [Bits.av]
  refine fnOK (n := 35) (rs := []) Tryz.func19 rfl rfl (by decide) rfl rfl rfl ?_; rintro x rfl hrd hng
  (repeat (first | (refine K_ifT rfl rfl ?_) | (refine K_ifF rfl rfl ?_) | (refine K_ev nmd [] hng (by kernel_rfl) fun hf C S K hC1 hC hS hK => ?_; simp (disch := first | omega | assumption) only [go_sem, Oid.not_under_sub ht, Oid.sub_not_under ht, Oid.not_under_sub hs, Oid.sub_not_under hs, hts]; refine hK ?_; clear hK hS hC hC1 K S C hf) | ((first | refine zn ?_ | refine ze ?_ | refine zk ?_); with_reducible (constructor; repeat constructor); try refine zl ?_)))
  refine K_ret (done_upd rfl ?_ ?_)
  all_goals simp only [List.mem_cons, List.not_mem_nil, or_false, forall_eq_or_imp, forall_eq, Option.some.injEq, forall_eq', Mem.of_cons_at, eq_self, if_true, ↓reduceIte, reduceCtorEq, implies_true, not_true_eq_false, false_imp_iff, true_and, and_true, false_and, and_false, imp_self, Oid.not_under_sub ht, Oid.sub_not_under ht, Oid.not_under_sub hs, Oid.sub_not_under hs, hts]
theorem put_set (n : Str) (hn : ¬ n = []) (b : Bits) (hb : ¬ b.k = 0) : CallOK Tryz.prog 19 [.ptr st 0, .str n, b.av] (Oid.under p) ⟨[(st, .cells [.map t, .nilPtr]), (t, .map [.ss] false es clock)], .tuple [], [(t, some (.map [.ss] false (setE (.str n) b.av clock es) (if hasE (.str n) es then clock else clock + 1)))]⟩ := by
  simp only [Bits.av]
  refine fnOK (n := 35) (rs := []) Tryz.func19 rfl rfl (by decide) rfl rfl rfl ?_; rintro x rfl hrd hng
  (repeat (first | (refine K_ifT rfl rfl ?_) | (refine K_ifF rfl rfl ?_) | (refine K_ev nmd [] hng (by kernel_rfl) fun hf C S K hC1 hC hS hK => ?_; simp (disch := first | omega | assumption) only [go_sem, Oid.not_under_sub ht, Oid.sub_not_under ht, Oid.not_under_sub hs, Oid.sub_not_under hs, hts]; refine hK ?_; clear hK hS hC hC1 K S C hf) | ((first | refine zn ?_ | refine ze ?_ | refine zk ?_); with_reducible (constructor; repeat constructor); try refine zl ?_)))
  refine K_ifd rfl rfl (fun hb' => ?_) (fun hb' => ?_)
  · exact absurd hb' hn
  · (repeat (first | (refine K_ifT rfl rfl ?_) | (refine K_ifF rfl rfl ?_) | (refine K_ev nmd [] hng (by kernel_rfl) fun hf C S K hC1 hC hS hK => ?_; simp (disch := first | omega | assumption) only [go_sem, Oid.not_under_sub ht, Oid.sub_not_under ht, Oid.not_under_sub hs, Oid.sub_not_under hs, hts]; refine hK ?_; clear hK hS hC hC1 K S C hf) | ((first | refine zn ?_ | refine ze ?_ | refine zk ?_); with_reducible (constructor; repeat constructor); try refine zl ?_)))
    refine K_ifd rfl rfl (fun hb' => ?_) (fun hb' => ?_)
    · exact absurd hb' hb
    · (try ((first | refine zn ?_ | refine ze ?_ | refine zk ?_); with_reducible (constructor; repeat constructor)); try refine zl ?_)
      refine K_evd nmd [] [] mixed hng (by kernel_rfl) [0] fun hf C S K hC hS hK => ?_; simp (disch := first | omega | assumption) only [go_sem, Oid.not_under_sub ht, Oid.sub_not_under ht, Oid.not_under_sub hs, Oid.sub_not_under hs, hts]
      (first | refine hK (dynN_quiet rfl) ?_ | refine hK (by simp (disch := first | omega | assumption) only [go_sem, List.reverse_cons, List.reverse_nil, ne_eq, not_false_eq_true, implies_true]) ?_); clear hK hS hC K S C hf
      refine K_nil (done_updN rfl ?_ ?_)
      all_goals simp only [List.mem_cons, List.not_mem_nil, or_false, forall_eq_or_imp, forall_eq, Option.some.injEq, forall_eq', Mem.of_cons_at, eq_self, if_true, ↓reduceIte, reduceCtorEq, implies_true, not_true_eq_false, false_imp_iff, true_and, and_true, false_and, and_false, imp_self, Oid.not_under_sub ht, Oid.sub_not_under ht, Oid.not_under_sub hs, Oid.sub_not_under hs, hts]
theorem put_del (n : Str) (hn : ¬ n = []) (b : Bits) (hb : b.k = 0) : CallOK Tryz.prog 19 [.ptr st 0, .str n, b.av] (Oid.under p) ⟨[(st, .cells [.map t, .nilPtr]), (t, .map [.ss] false es clock)], .tuple [], [(t, some (.map [.ss] false (delE (.str n) es) clock))]⟩ := by
  simp only [Bits.av]
  refine fnOK (n := 35) (rs := []) Tryz.func19 rfl rfl (by decide) rfl rfl rfl ?_; rintro x rfl hrd hng
  (repeat (first | (refine K_ifT rfl rfl ?_) | (refine K_ifF rfl rfl ?_) | (refine K_ev nmd [] hng (by kernel_rfl) fun hf C S K hC1 hC hS hK => ?_; simp (disch := first | omega | assumption) only [go_sem, Oid.not_under_sub ht, Oid.sub_not_under ht, Oid.not_under_sub hs, Oid.sub_not_under hs, hts]; refine hK ?_; clear hK hS hC hC1 K S C hf) | ((first | refine zn ?_ | refine ze ?_ | refine zk ?_); with_reducible (constructor; repeat constructor); try refine zl ?_)))
  refine K_ifd rfl rfl (fun hb' => ?_) (fun hb' => ?_)
  · exact absurd hb' hn
  · (repeat (first | (refine K_ifT rfl rfl ?_) | (refine K_ifF rfl rfl ?_) | (refine K_ev nmd [] hng (by kernel_rfl) fun hf C S K hC1 hC hS hK => ?_; simp (disch := first | omega | assumption) only [go_sem, Oid.not_under_sub ht, Oid.sub_not_under ht, Oid.not_under_sub hs, Oid.sub_not_under hs, hts]; refine hK ?_; clear hK hS hC hC1 K S C hf) | ((first | refine zn ?_ | refine ze ?_ | refine zk ?_); with_reducible (constructor; repeat constructor); try refine zl ?_)))
    refine K_ifd rfl rfl (fun hb' => ?_) (fun hb' => ?_)
    · (repeat (first | (refine K_ifT rfl rfl ?_) | (refine K_ifF rfl rfl ?_) | (refine K_ev nmd [] hng (by kernel_rfl) fun hf C S K hC1 hC hS hK => ?_; simp (disch := first | omega | assumption) only [go_sem, Oid.not_under_sub ht, Oid.sub_not_under ht, Oid.not_under_sub hs, Oid.sub_not_under hs, hts]; refine hK ?_; clear hK hS hC hC1 K S C hf) | ((first | refine zn ?_ | refine ze ?_ | refine zk ?_); with_reducible (constructor; repeat constructor); try refine zl ?_)))
      refine K_nil (done_updN rfl ?_ ?_)
      all_goals simp only [List.mem_cons, List.not_mem_nil, or_false, forall_eq_or_imp, forall_eq, Option.some.injEq, forall_eq', Mem.of_cons_at, eq_self, if_true, ↓reduceIte, reduceCtorEq, implies_true, not_true_eq_false, false_imp_iff, true_and, and_true, false_and, and_false, imp_self, Oid.not_under_sub ht, Oid.sub_not_under ht, Oid.not_under_sub hs, Oid.sub_not_under hs, hts]
    · exact absurd hb hb'
omit hts in
theorem at_ok (n : Str) (b : Bits) (hv : valE (.str n) (.agg [.int .i64 0, .int .i64 0, .str []]) es = b.av) : CallOK Tryz.prog 65 [.map t, .str n] (Oid.under p) ⟨[(t, .map [.ss] false es clock)], (if n = [] then (⟨2, 7, []⟩ : Bits) else b).av, []⟩ := by
  simp only [Bits.av] at hv
  refine fnOK (n := 11) (rs := [.cell 4 37]) Tryz.func65 rfl rfl (by decide) rfl rfl rfl ?_; rintro x rfl hrd hng
  (repeat (first | (refine K_ifT rfl rfl ?_) | (refine K_ifF rfl rfl ?_) | (refine K_ev nmd [] hng (by kernel_rfl) fun hf C S K hC1 hC hS hK => ?_; simp (disch := first | omega | assumption) only [go_sem, Oid.not_under_sub ht, Oid.sub_not_under ht]; refine hK ?_; clear hK hS hC hC1 K S C hf) | ((first | refine zn ?_ | refine ze ?_ | refine zk ?_); with_reducible (constructor; repeat constructor); try refine zl ?_)))
  refine K_ifd rfl rfl (fun hb' => ?_) (fun hb' => ?_)
  · rw [if_pos hb']
    (repeat (first | (refine K_ifT rfl rfl ?_) | (refine K_ifF rfl rfl ?_) | (refine K_ev nmd [] hng (by kernel_rfl) fun hf C S K hC1 hC hS hK => ?_; simp (disch := first | omega | assumption) only [go_sem, Oid.not_under_sub ht, Oid.sub_not_under ht]; refine hK ?_; clear hK hS hC hC1 K S C hf) | ((first | refine zn ?_ | refine ze ?_ | refine zk ?_); with_reducible (constructor; repeat constructor); try refine zl ?_)))
    refine K_ret (done_upd (by simp (disch := first | omega | assumption) only [go_sem, Bits.av, Oid.not_under_sub ht, Oid.sub_not_under ht]) ?_ ?_)
    all_goals simp only [List.mem_cons, List.not_mem_nil, or_false, forall_eq_or_imp, forall_eq, Option.some.injEq, forall_eq', Mem.of_cons_at, eq_self, if_true, ↓reduceIte, reduceCtorEq, implies_true, not_true_eq_false, false_imp_iff, true_and, and_true, false_and, and_false, imp_self, Oid.not_under_sub ht, Oid.sub_not_under ht]
  · rw [if_neg hb']
    (repeat (first | (refine K_ifT rfl rfl ?_) | (refine K_ifF rfl rfl ?_) | (refine K_ev nmd [] hng (by kernel_rfl) fun hf C S K hC1 hC hS hK => ?_; simp (disch := first | omega | assumption) only [go_sem, Oid.not_under_sub ht, Oid.sub_not_under ht, hv]; refine hK ?_; clear hK hS hC hC1 K S C hf) | ((first | refine zn ?_ | refine ze ?_ | refine zk ?_); with_reducible (constructor; repeat constructor); try refine zl ?_)))
    refine K_ret (done_upd (by simp (disch := first | omega | assumption) only [go_sem, Bits.av, Oid.not_under_sub ht, Oid.sub_not_under ht]) ?_ ?_)
    all_goals simp only [List.mem_cons, List.not_mem_nil, or_false, forall_eq_or_imp, forall_eq, Option.some.injEq, forall_eq', Mem.of_cons_at, eq_self, if_true, ↓reduceIte, reduceCtorEq, implies_true, not_true_eq_false, false_imp_iff, true_and, and_true, false_and, and_false, imp_self, Oid.not_under_sub ht, Oid.sub_not_under ht]
omit hts ht in
theorem read_ok (n : Str) (f : Bool) : CallOK Tryz.prog 64 [.ptr st 0, .agg [.str n, .bool f]] (Oid.under p) ⟨[(st, .cells [.map t, .nilPtr])], .tuple [], []⟩ := by
  refine fnOK (n := 59) (rs := []) Tryz.func64 rfl rfl (by decide) rfl rfl rfl ?_; rintro x rfl hrd hng
  (try ((first | refine zn ?_ | refine ze ?_ | refine zk ?_); with_reducible (constructor; repeat constructor)); try refine zl ?_)
  refine K_ev nmd [] hng (by kernel_rfl) fun hf C S K hC1 hC hS hK => ?_; simp (disch := first | omega | assumption) only [go_sem, Oid.not_under_sub hs, Oid.sub_not_under hs]
  refine hK ?_; clear hK hS hC hC1 K S C hf
  (try ((first | refine zn ?_ | refine ze ?_ | refine zk ?_); with_reducible (constructor; repeat constructor)); try refine zl ?_)
  refine K_evd nmd [(5, 11), (9, 15)] [] mixed hng (by kernel_rfl) [27] fun hf C S K hC hS hK => ?_; simp (disch := first | omega | assumption) only [go_sem, Oid.not_under_sub hs, Oid.sub_not_under hs]
  (first | refine hK (dynN_quiet rfl) ?_ | refine hK (by simp (disch := first | omega | assumption) only [go_sem, List.reverse_cons, List.reverse_nil, ne_eq, not_false_eq_true, implies_true]) ?_); clear hK hS hC K S C hf
  (repeat (first | (refine K_ifT rfl rfl ?_) | (refine K_ifF rfl rfl ?_) | (refine K_ev nmd [] hng (by kernel_rfl) fun hf C S K hC1 hC hS hK => ?_; simp (disch := first | omega | assumption) only [go_sem]; refine hK ?_; clear hK hS hC hC1 K S C hf) | ((first | refine zn ?_ | refine ze ?_ | refine zk ?_); with_reducible (constructor; repeat constructor); try refine zl ?_)))
  refine K_ret (done_upd rfl ?_ ?_)
  all_goals simp only [List.mem_cons, List.not_mem_nil, or_false, forall_eq_or_imp, forall_eq, Option.some.injEq, forall_eq', Mem.of_cons_at, eq_self, if_true, ↓reduceIte, reduceCtorEq, implies_true, not_true_eq_false, false_imp_iff, true_and, and_true, false_and, and_false, imp_self, Oid.not_under_sub hs, Oid.sub_not_under hs]
theorem storeAt_ok (n : Str) (b : Bits) (hv : valE (.str n) (.agg [.int .i64 0, .int .i64 0, .str []]) es = b.av) : CallOK Tryz.prog 24 [.ptr st 0, .str n] (Oid.under p) ⟨[(st, .cells [.map t, .nilPtr]), (t, .map [.ss] false es clock)], (if n = [] then (⟨2, 7, []⟩ : Bits) else b).av, []⟩ := by
  have hs' : ∀ c i, ¬ Oid.under (.sub c i p) st := fun c i h => hs (Oid.under_sub h)
  have ht' : ∀ c i, ¬ Oid.under (.sub c i p) t := fun c i h => ht (Oid.under_sub h)
  generalize hB : (if n = [] then (⟨2, 7, []⟩ : Bits) else b) = B
  have hat := fun p hs ht => at_ok st t es clock p hs ht n b hv
  rw [hB] at hat
  simp only [Bits.av] at hat ⊢
  refine fnOK (n := 15) (rs := [.cell 4 37]) Tryz.func24 rfl rfl (by decide) rfl rfl rfl ?_; rintro x rfl hrd hng
  (repeat (first | (refine K_ifT rfl rfl ?_) | (refine K_ifF rfl rfl ?_) | (refine K_ev nmd [] hng (by kernel_rfl) fun hf C S K hC1 hC hS hK => ?_; simp (disch := first | omega | assumption) only [go_sem, Oid.not_under_sub ht, Oid.sub_not_under ht, Oid.not_under_sub hs, Oid.sub_not_under hs, hts]; refine hK ?_; clear hK hS hC hC1 K S C hf) | ((first | refine zn ?_ | refine ze ?_ | refine zk ?_); with_reducible (constructor; repeat constructor); try refine zl ?_)))
  refine K_ev nmd [] hng (by kernel_rfl) fun hf C S K hC1 hC hS hK => ?_; simp (disch := first | omega | assumption) only [go_sem, Oid.not_under_sub ht, Oid.sub_not_under ht, Oid.not_under_sub hs, Oid.sub_not_under hs, hts]
  refine hC1 _ (read_ok st t _ (hs' _ _) n false) (by simp (disch := first | omega | assumption) only [go_sem, Oid.not_under_sub ht, Oid.sub_not_under ht, Oid.not_under_sub hs, Oid.sub_not_under hs, hts]) ?_
  simp (disch := first | omega | assumption) only [go_sem, Oid.not_under_sub ht, Oid.sub_not_under ht, Oid.not_under_sub hs, Oid.sub_not_under hs, hts]
  refine hK ?_; clear hK hS hC hC1 K S C hf
  (try ((first | refine zn ?_ | refine ze ?_ | refine zk ?_); with_reducible (constructor; repeat constructor)); try refine zl ?_)
  refine K_ev nmd [] hng (by kernel_rfl) fun hf C S K hC1 hC hS hK => ?_; simp (disch := first | omega | assumption) only [go_sem, Oid.not_under_sub ht, Oid.sub_not_under ht, Oid.not_under_sub hs, Oid.sub_not_under hs, hts]
  refine hC1 _ (hat _ (hs' _ _) (ht' _ _)) (by simp (disch := first | omega | assumption) only [go_sem, Oid.not_under_sub ht, Oid.sub_not_under ht, Oid.not_under_sub hs, Oid.sub_not_under hs, hts]) ?_
  simp (disch := first | omega | assumption) only [go_sem, Oid.not_under_sub ht, Oid.sub_not_under ht, Oid.not_under_sub hs, Oid.sub_not_under hs, hts]
  refine hK ?_; clear hK hS hC hC1 K S C hf
  (repeat (first | (refine K_ifT rfl rfl ?_) | (refine K_ifF rfl rfl ?_) | (refine K_ev nmd [] hng (by kernel_rfl) fun hf C S K hC1 hC hS hK => ?_; simp (disch := first | omega | assumption) only [go_sem, Oid.not_under_sub ht, Oid.sub_not_under ht, Oid.not_under_sub hs, Oid.sub_not_under hs, hts]; refine hK ?_; clear hK hS hC hC1 K S C hf) | ((first | refine zn ?_ | refine ze ?_ | refine zk ?_); with_reducible (constructor; repeat constructor); try refine zl ?_)))
  refine K_ret (done_upd (by simp (disch := first | omega | assumption) only [go_sem, Oid.not_under_sub ht, Oid.sub_not_under ht, Oid.not_under_sub hs, Oid.sub_not_under hs, hts]) ?_ ?_)
  all_goals simp only [List.mem_cons, List.not_mem_nil, or_false, forall_eq_or_imp, forall_eq, Option.some.injEq, forall_eq', Mem.of_cons_at, eq_self, if_true, ↓reduceIte, reduceCtorEq, implies_true, not_true_eq_false, false_imp_iff, true_and, and_true, false_and, and_false, imp_self, Oid.not_under_sub ht, Oid.sub_not_under ht, Oid.not_under_sub hs, Oid.sub_not_under hs, hts]
end Go.Proofs.YtaecbmbecofijaaGreatDoor
namespace Go.Proofs.YtaecbmbecofijaaGreatDoor
open Go Go.Ab
set_option maxRecDepth 20000
set_option maxHeartbeats 4000000
theorem contains_ok (s : Str) (c : UInt8) (sp : Oid → Prop) : CallOK Tryz.prog 143 [.str s, .str [c]] sp ⟨[], .bool (decide (0 ≤ Lib.indexByte s c)), []⟩ :=
  callOK_same (by kernel_rfl) fun g args w ha _ => by
    obtain ⟨v, u, rfl, hv, hu⟩ := ha.two
    obtain ⟨b, rfl, hb⟩ := hv.str_inv
    obtain ⟨d, rfl, hd⟩ := hu.str_inv
    obtain rfl : d = ⟨#[c]⟩ := by cases d with | mk a => cases a with | mk l => simp only at hd; rw [hd]
    refine (Tryz.strings_Contains_one b c w).mono ?_
    rintro e w' ⟨rfl, rfl⟩
    exact ⟨_, rfl, by rw [hb]; exact .bool _, rfl⟩
def preT (s t : Str) : Bool := decide (t.length ≤ s.length) && decide (s.take t.length = t)
theorem hasPrefix_ok (s t : Str) (hl : s.length ≤ 140737488355328) (hl2 : t.length ≤ 140737488355328) (p : Oid) : CallOK Tryz.prog 200 [.str s, .str t] (Oid.under p) ⟨[], .bool (preT s t), []⟩ := by
  refine fnOK (n := 18) (rs := [.tmp 4]) Tryz.func200 rfl rfl (by decide) rfl rfl rfl ?_; rintro x rfl hrd hng
  (try ((first | refine zn ?_ | refine ze ?_ | refine zk ?_); with_reducible (constructor; repeat constructor)); try refine zl ?_)
  refine K_ev nmd [] hng (by kernel_rfl) fun hf C S K hC1 hC hS hK => ?_; simp (disch := first | omega | assumption) only [go_sem]
  refine hK ?_; clear hK hS hC hC1 K S C hf
  (try ((first | refine zn ?_ | refine ze ?_ | refine zk ?_); with_reducible (constructor; repeat constructor)); try refine zl ?_)
  refine K_ev nmd [(5, 10)] hng (by kernel_rfl) fun hf C S K hC1 hC hS hK => ?_; simp (disch := first | omega | assumption) only [go_sem]
  (repeat' (first | (refine evG_split (fun hv => ?_) (fun hv => ?_) <;> (try simp only [zb1, zb2, zb3, zb4, zb5] at hv) <;> simp (disch := first | omega | assumption) only [go_sem, hv]) | (refine hK ?_; clear hK hS hC hC1 K S C hf)))
  · (repeat (first | (refine K_ifT rfl rfl ?_) | (refine K_ifF rfl rfl ?_) | (refine K_ev nmd [] hng (by kernel_rfl) fun hf C S K hC1 hC hS hK => ?_; simp (disch := first | omega | assumption) only [go_sem]; refine hK ?_; clear hK hS hC hC1 K S C hf) | ((first | refine zn ?_ | refine ze ?_ | refine zk ?_); with_reducible (constructor; repeat constructor); try refine zl ?_)))
    exact K_ret (done1 (congrArg AV.bool (by rw [preT, decide_eq_true (by omega : t.length ≤ s.length), Bool.true_and])))
  · (repeat (first | (refine K_ifT rfl rfl ?_) | (refine K_ifF rfl rfl ?_) | (refine K_ev nmd [] hng (by kernel_rfl) fun hf C S K hC1 hC hS hK => ?_; simp (disch := first | omega | assumption) only [go_sem]; refine hK ?_; clear hK hS hC hC1 K S C hf) | ((first | refine zn ?_ | refine ze ?_ | refine zk ?_); with_reducible (constructor; repeat constructor); try refine zl ?_)))
    exact K_ret (done1 (congrArg AV.bool (by rw [preT, decide_eq_false (by omega : ¬ t.length ≤ s.length), Bool.false_and])))
theorem cutPrefix0_ok (s t : Str) (hl : s.length ≤ 140737488355328) (hl2 : t.length ≤ 140737488355328) (p : Oid) : CallOK Tryz.prog 169 [.str s, .str t] (Oid.under p) ⟨[], .tuple [.str (if preT s t = true then s.drop t.length else s), .bool (preT s t)], []⟩ := by
  have hpre : preT s t = true → t.length ≤ s.length := fun h => by simp only [preT, Bool.and_eq_true, decide_eq_true_eq] at h; exact h.1
  refine fnOK (n := 15) (rs := [.tmp 4, .tmp 5]) Tryz.func169 rfl rfl (by decide) rfl rfl rfl ?_; rintro x rfl hrd hng
  (repeat (first | (refine K_ifT rfl rfl ?_) | (refine K_ifF rfl rfl ?_) | (refine K_ev nmd [] hng (by kernel_rfl) fun hf C S K hC1 hC hS hK => ?_; simp (disch := first | omega | assumption) only [go_sem]; (repeat ((first | refine hC1 _ (hasPrefix_ok s t hl hl2 _) (by simp (disch := first | omega | assumption) only [go_sem]) ?_); simp (disch := first | omega | assumption) only [go_sem])); refine hK ?_; clear hK hS hC hC1 K S C hf) | ((first | refine zn ?_ | refine ze ?_ | refine zk ?_); with_reducible (constructor; repeat constructor); try refine zl ?_)))
  cases hp : preT s t with
  | true =>
    have := hpre hp
    (repeat (first | (refine K_ifT rfl rfl ?_) | (refine K_ifF rfl rfl ?_) | (refine K_ev nmd [] hng (by kernel_rfl) fun hf C S K hC1 hC hS hK => ?_; simp (disch := first | omega | assumption) only [go_sem]; refine hK ?_; clear hK hS hC hC1 K S C hf) | ((first | refine zn ?_ | refine ze ?_ | refine zk ?_); with_reducible (constructor; repeat constructor); try refine zl ?_)))
    exact K_ret (done_plain rfl)
  | false =>
    (repeat (first | (refine K_ifT rfl rfl ?_) | (refine K_ifF rfl rfl ?_) | (refine K_ev nmd [] hng (by kernel_rfl) fun hf C S K hC1 hC hS hK => ?_; simp (disch := first | omega | assumption) only [go_sem]; refine hK ?_; clear hK hS hC hC1 K S C hf) | ((first | refine zn ?_ | refine ze ?_ | refine zk ?_); with_reducible (constructor; repeat constructor); try refine zl ?_)))
    exact K_ret (done_plain rfl)
theorem cutPrefix_ok (s t : Str) (hl : s.length ≤ 140737488355328) (hl2 : t.length ≤ 140737488355328) (p : Oid) : CallOK Tryz.prog 142 [.str s, .str t] (Oid.under p) ⟨[], .tuple [.str (if preT s t = true then s.drop t.length else s), .bool (preT s t)], []⟩ := by
  refine fnOK (n := 11) (rs := [.tmp 4, .tmp 5]) Tryz.func142 rfl rfl (by decide) rfl rfl rfl ?_; rintro x rfl hrd hng
  (repeat (first | (refine K_ifT rfl rfl ?_) | (refine K_ifF rfl rfl ?_) | (refine K_ev nmd [] hng (by kernel_rfl) fun hf C S K hC1 hC hS hK => ?_; simp (disch := first | omega | assumption) only [go_sem]; (repeat ((first | refine hC1 _ (cutPrefix0_ok s t hl hl2 _) (by simp (disch := first | omega | assumption) only [go_sem]) ?_); simp (disch := first | omega | assumption) only [go_sem])); refine hK ?_; clear hK hS hC hC1 K S C hf) | ((first | refine zn ?_ | refine ze ?_ | refine zk ?_); with_reducible (constructor; repeat constructor); try refine zl ?_)))
  exact K_ret (done_plain rfl)
end Go.Proofs.YtaecbmbecofijaaGreatDoor
namespace Go.Proofs.YtaecbmbecofijaaGreatDoor
open Go Go.Ab
theorem sameK_str (a b : Str) : sameK (.str a) (.str b) = decide (a = b) := by
  by_cases h : a = b <;> simp [sameK, AV.cells, eqCells, eqS, h]
abbrev Ent := Str × Bits × Nat
def delB (n : Str) : List Ent → List Ent
  | [] => []
  | q :: L => if n = q.1 then L else q :: delB n L
end Go.Proofs.YtaecbmbecofijaaGreatDoor
namespace Go.Proofs.YtaecbmbecofijaaGreatDoor
open Go Go.Ab
set_option maxRecDepth 20000
theorem callOK_keep {P : Program} [Laid P] {f : FuncId} {xs : List AV} {sp : Oid → Prop} {need : List (Oid × AObj)} {v : AV} {t : Oid} {o : AObj} (h : CallOK P f xs sp ⟨need, v, []⟩) (ht : (t, o) ∈ need) : CallOK P f xs sp ⟨need, v, [(t, some o)]⟩ :=
  ⟨h.enters, fun x g args w m hm hn ha hs hx => (h.calls x g args w m hm hn ha hs hx).mono fun en w' ⟨g', u, h1, h2, h3, h4, h5⟩ => ⟨g', u, h1, h2, h3, h4, by
    have he : m.upds [(t, some o)] = m := by
      funext i
      simp only [Mem.upds, Mem.set]
      split
      · rename_i e; rw [e]; exact (hn _ ht).symm
      · rfl
    show MemRel x g' (m.upds [(t, some o)]) w'
    rw [he]; exact h5⟩⟩
def putE (n : Str) (b : Bits) (es : List ME) (clock : Nat) : List ME := if n = [] then es else if b.k = 0 then delE (.str n) es else setE (.str n) b.av clock es
def putC (n : Str) (b : Bits) (es : List ME) (clock : Nat) : Nat := if n = [] then clock else if b.k = 0 then clock else if hasE (.str n) es then clock else clock + 1
theorem put_ok (st t : Oid) (es : List ME) (clock : Nat) (hts : ¬ t = st) (p : Oid) (hs : ¬ Oid.under p st) (ht : ¬ Oid.under p t) (n : Str) (b : Bits) :
    CallOK Tryz.prog 19 [.ptr st 0, .str n, b.av] (Oid.under p) ⟨[(st, .cells [.map t, .nilPtr]), (t, .map [.ss] false es clock)], .tuple [], [(t, some (.map [.ss] false (putE n b es clock) (putC n b es clock)))]⟩ := by
  unfold putE putC
  by_cases hn : n = []
  · subst hn
    simp only [if_true]
    exact callOK_keep (put_nil st t es clock hts p hs ht b) (by simp)
  · by_cases hb : b.k = 0
    · simp only [hn, hb, if_true, if_false]
      exact put_del st t es clock hts p hs ht n hn b hb
    · simp only [hn, hb, if_false]
      exact put_set st t es clock hts p hs ht n hn b hb
end Go.Proofs.YtaecbmbecofijaaGreatDoor
namespace Go.Proofs.YtaecbmbecofijaaGreatDoor
open Go Go.Ab
open Go.Sort Go.RowKit
set_option maxRecDepth 20000
set_option maxHeartbeats 4000000
def sortS (l : List Str) : List Str := l.mergeSort fun x y => decide (x ≤ y)
theorem sr_other {w : World} {b n : Nat} {d : Array Str} {os : Array Obj} {b' : Nat} (hb : b' ≠ b) (hlt : b' < w.heap.size) : (grow (putRow encStr (Sort.ahead w n) b 0 d) os).heap[b']? = w.heap[b']? := by
  unfold putRow mapBlock
  rw [heap_grow_old _ _ (by simpa [ahead] using hlt)]
  simp [Array.getElem?_modify, Ne.symm hb, ahead]
theorem sr_same {w : World} {b n : Nat} {d : Array Str} {os : Array Obj} {c : Array Value} {t : TypeId} {fz : Nat × Nat} (hb : w.heap[b]? = some (.cells c t fz)) :
    (grow (putRow encStr (Sort.ahead w n) b 0 d) os).heap[b]? = some (.cells (putCells encStr 0 d c) t fz) := by
  have hlt := (Array.getElem?_eq_some_iff.1 hb).1
  unfold putRow mapBlock
  rw [heap_grow_old _ _ (by simpa [ahead] using hlt)]
  simp [Array.getElem?_modify, hb, ahead, onCells]
theorem sr_size {w : World} {b n : Nat} {d : Array Str} {os : Array Obj} : w.heap.size ≤ (grow (putRow encStr (Sort.ahead w n) b 0 d) os).heap.size := by
  unfold putRow mapBlock
  simp [grow, ahead]
theorem pc_size (d : Array Str) (c : Array Value) : (putCells encStr 0 d c).size = c.size := by simp [putCells]
theorem sortS_perm (l : List Str) : (sortS l).Perm l := List.mergeSort_perm _ _
theorem sortS_length (l : List Str) : (sortS l).length = l.length := (sortS_perm l).length_eq
theorem str_enc {g : Gh} {s : Str} {v : Value} : VR g (.str s) v ↔ v = encStr s := by
  constructor
  · intro h
    obtain ⟨b, rfl, hb⟩ := h.str_inv
    show Value.string b = Value.string _
    congr 1
    cases b
    simp only at hb
    congr 1
    rw [← hb]
  · rintro rfl
    exact .str _ _ rfl
theorem sortStr_ok (l : List Str) (hl : ¬ l = []) (hsz : l.length < 4611686018427387904) (id p : Oid) :
    CallOK Tryz.prog 118 [.sl id 1 l.length] (Oid.under p) ⟨[(id, .arr 1 (l.map .str))], .tuple [], [(id, some (.arr 1 ((sortS l).map .str)))]⟩ := by
  refine ⟨by kernel_rfl, fun x g args w m hm hn hargs hsp hng => ?_⟩
  have hmi := hn _ List.mem_cons_self
  simp only at hmi
  obtain ⟨v, rfl, a0⟩ := hargs.one
  have hne : l.length ≠ 0 := fun e => hl (List.eq_nil_of_length_eq_zero e)
  obtain ⟨b, cap, rfl, hloc, hcap, hrow⟩ := a0.sl_inv'.resolve_left fun h => hne h.1
  obtain ⟨b0, hb0, hcom, hmay, hobj⟩ := hm.objL hmi hloc
  rw [hloc] at hb0; simp only [Option.some.injEq] at hb0; subst hb0
  obtain ⟨c, t, fz, hh, hcs, hfz, hxl, hone, hv⟩ := hobj
  have hlt := (Array.getElem?_eq_some_iff.1 hh).1
  simp only [List.length_map, Nat.mul_one] at hcs hxl hone hv
  have hav : ∀ (l : List Str) i, i < l.length → (l.map AV.str).getD i .undef = .str (l.getD i []) := fun l i hi => by simp [List.getD_eq_getElem?_getD, List.getElem?_map, List.getElem?_eq_getElem hi]
  have hcell : ∀ i, i < l.length → c.getD i undef = encStr (l.getD i []) := fun i hi => by
    have := hv i 0 hi (by omega)
    rw [hav l i hi] at this
    simp only [AV.cells, List.getD_cons_zero, Nat.mul_one, Nat.add_zero] at this
    exact str_enc.1 this
  have hH : Holds encStr w b 0 l.toArray := by
    intro j hj
    have hj' : j < l.length := by simpa using hj
    have hjc : j < c.size := by omega
    constructor
    · have h3 := hcell j hj'
      simp only [World.cell?, hh, Nat.zero_add, Option.isSome_none, Bool.false_eq_true, if_false, Array.getElem?_eq_getElem hjc, Option.some.injEq]
      rw [Array.getD_eq_getD_getElem?, Array.getElem?_eq_getElem hjc, Option.getD_some] at h3
      rw [h3]
      have h5 : l.toArray[j]! = l.getD j [] := by simp [List.getElem?_eq_getElem hj', hj']
      rw [h5]
    · simp only [World.frozen?, hh, Nat.zero_add]
      have := hfz j hjc
      by_cases h : fz.1 ≤ j
      · have : ¬ j < fz.2 := fun h' => this ⟨h, h'⟩
        simp [this]
      · simp [h]
  refine (Tryz.slices_Sort_string b 0 cap l w hH hlt hsz).mono ?_
  rintro en w' ⟨rfl, n, os, rfl⟩
  have hlen := sortS_length l
  show ∃ _ _, _
  refine ⟨g, _, rfl, Gh.le_refl g, fun _ _ => rfl, .tuple _ _ rfl (fun j hj => absurd hj (Nat.not_lt_zero _)), ?_⟩
  have hfold : (l.mergeSort fun x y => decide (x ≤ y)) = sortS l := rfl
  rw [hfold]
  refine hm.turn (o := .arr 1 ((sortS l).map .str)) hmi hloc rfl rfl ⟨rfl, Nat.le_add_right _ _⟩ sr_size (fun b' hb' hlt' => sr_other hb' hlt') (fun r hr => ?_) ?_ ?_
  · obtain ⟨c', t', fz', h2, h3⟩ := hm.rows b r hr
    exact ⟨_, _, _, sr_same h2, by rw [pc_size]; exact h3⟩
  · intro c9 t9 fz9 h9; exact ⟨_, _, sr_same h9⟩
  · have hget : ∀ i, i < (sortS l).length → (putCells encStr 0 (sortS l).toArray c).getD i undef = encStr ((sortS l).getD i []) := fun i hi => by
      have hc2 : i < c.size := by omega
      simp only [putCells, Array.getD_eq_getD_getElem?, Array.getElem?_mapIdx, Array.getElem?_eq_getElem hc2, Option.map_some, Option.getD_some, Nat.zero_le, true_and, Nat.zero_add, Nat.sub_zero, List.size_toArray, hi, if_true]
      congr 1
      simp [List.getElem?_eq_getElem hi, hi]
    refine ⟨_, t, fz, sr_same hh, ?_, ?_, ?_, ?_, ?_⟩
    · rw [pc_size, List.length_map, Nat.mul_one, hlen]; exact hcs
    · rw [pc_size]; exact hfz
    · intro i hi
      rw [hav _ i (by simpa using hi)]; rfl
    · intro j hj
      have hj' : j < (sortS l).length := by simpa using hj
      rw [hget j hj']; rfl
    · intro i j hi hj
      have hi' : i < (sortS l).length := by simpa using hi
      obtain rfl : j = 0 := by omega
      rw [hav _ i hi', Nat.mul_one, Nat.add_zero, hget i hi']
      exact .str _ _ rfl
theorem sortStr_nil (p : Oid) : CallOK Tryz.prog 118 [.nilSl] (Oid.under p) ⟨[], .tuple [], []⟩ :=
  callOK_same (by kernel_rfl) fun g args w ha _ => by
    obtain ⟨v, rfl, hv⟩ := ha.one
    rw [hv.nilSl_inv]
    refine (Tryz.slices_Sort_string_none none 0 w).mono ?_
    rintro e w' ⟨rfl, rfl⟩
    exact ⟨_, rfl, .tuple _ _ rfl (fun j hj => absurd hj (Nat.not_lt_zero _)), rfl⟩
/-! one sorted row -/
theorem sorted_one {l l' : List Str} (hp : l.Perm l') (h1 : l.Pairwise (· ≤ ·)) (h2 : l'.Pairwise (· ≤ ·)) : l = l' := by
  exact List.Perm.eq_of_pairwise (le := (· ≤ ·)) (fun a b _ _ h3 h4 => List.le_antisymm h3 h4) h1 h2 hp
theorem sortS_le (l : List Str) : (sortS l).Pairwise (· ≤ ·) := by
  have := List.pairwise_mergeSort (le := fun (x y : Str) => decide (x ≤ y)) (fun a b c h1 h2 => by
    simp only [decide_eq_true_eq] at h1 h2 ⊢; exact List.le_trans h1 h2) (fun a b => by
    simp only [Bool.or_eq_true, decide_eq_true_eq]; exact List.le_total a b) l
  exact this.imp fun h => by simpa using h
theorem sortS_eq {l l' : List Str} (hp : l.Perm l') (h : l'.Pairwise (· ≤ ·)) : sortS l = l' := sorted_one ((sortS_perm l).trans hp) (sortS_le l) h
theorem sortS_perm_eq {l l' : List Str} (hp : l.Perm l') : sortS l = sortS l' := sorted_one ((sortS_perm l).trans (hp.trans (sortS_perm l').symm)) (sortS_le l) (sortS_le l')
end Go.Proofs.YtaecbmbecofijaaGreatDoor
namespace Go.Ab
/-! ### a map's entries -/
section
variable {κ ν : Type} [DecidableEq κ] {ek : κ → AV} {ev : ν → AV}
def entG (ek : κ → AV) (ev : ν → AV) (q : κ × ν × Nat) : ME := ⟨ek q.1, ev q.2.1, q.2.2⟩
def prj (q : κ × ν × Nat) : κ × ν := (q.1, q.2.1)
def lookG (n : κ) : List (κ × ν) → Option ν
  | [] => none
  | q :: L => if n = q.1 then some q.2 else lookG n L
def setG (n : κ) (b : ν) (c : Nat) : List (κ × ν × Nat) → List (κ × ν × Nat)
  | [] => [(n, b, c)]
  | q :: L => if n = q.1 then (q.1, b, q.2.2) :: L else q :: setG n b c L
def delG (n : κ) : List (κ × ν × Nat) → List (κ × ν × Nat)
  | [] => []
  | q :: L => if n = q.1 then L else q :: delG n L
def optV (ev : ν → AV) (z : AV) : Option ν → AV
  | some b => ev b
  | none => z
theorem val_G (he : EncOK ek) (n : κ) (z : AV) : ∀ E : List (κ × ν × Nat), valE (ek n) z (E.map (entG ek ev)) = optV ev z (lookG n (E.map prj))
  | [] => rfl
  | q :: L => by
    have ih := val_G he n z L
    have h1 := he n q.1
    simp only [valE, List.map_cons, lookE, entG, h1, lookG, prj] at ih ⊢
    by_cases h : n = q.1
    · simp [h, optV]
    · simp only [h, decide_false, Bool.false_eq_true, if_false]; exact ih
theorem has_G (he : EncOK ek) (n : κ) : ∀ E : List (κ × ν × Nat), hasE (ek n) (E.map (entG ek ev)) = (lookG n (E.map prj)).isSome
  | [] => rfl
  | q :: L => by
    have ih := has_G he n L
    have h1 := he n q.1
    simp only [hasE, List.map_cons, lookE, entG, h1, lookG, prj] at ih ⊢
    by_cases h : n = q.1
    · simp [h]
    · simp only [h, decide_false, Bool.false_eq_true, if_false]; exact ih
theorem set_G (he : EncOK ek) (n : κ) (b : ν) (c : Nat) : ∀ E : List (κ × ν × Nat), setE (ek n) (ev b) c (E.map (entG ek ev)) = (setG n b c E).map (entG ek ev)
  | [] => rfl
  | q :: L => by
    have ih := set_G he n b c L
    have h1 := he n q.1
    simp only [List.map_cons, setE, setG]
    by_cases h : n = q.1
    · simp [h, entG, he q.1 q.1]
    · simp only [h, entG, h1, decide_false, Bool.false_eq_true, if_false, List.map_cons]
      exact congrArg _ ih
theorem del_G (he : EncOK ek) (n : κ) : ∀ E : List (κ × ν × Nat), delE (ek n) (E.map (entG ek ev)) = (delG n E).map (entG ek ev)
  | [] => rfl
  | q :: L => by
    have ih := del_G he n L
    have h1 := he n q.1
    simp only [List.map_cons, delE, delG]
    by_cases h : n = q.1
    · simp [h, entG, he q.1 q.1]
    · simp only [h, entG, h1, decide_false, Bool.false_eq_true, if_false, List.map_cons]
      exact congrArg _ ih
theorem filter_no {n : κ} : ∀ {L : List (κ × ν)}, ¬ n ∈ L.map (·.1) → L.filter (fun q => decide (¬ q.1 = n)) = L
  | [], _ => rfl
  | q :: L, h => by
    simp only [List.map_cons, List.mem_cons, not_or] at h
    have h1 : ¬ q.1 = n := fun e => h.1 e.symm
    rw [List.filter_cons_of_pos (by simpa using h1), filter_no h.2]
theorem setG_perm (n : κ) (b : ν) (c : Nat) : ∀ E : List (κ × ν × Nat), ((E.map prj).map (·.1)).Nodup → ((setG n b c E).map prj).Perm ((n, b) :: (E.map prj).filter fun q => decide (¬ q.1 = n))
  | [], _ => .refl _
  | q :: L, h => by
    simp only [List.map_cons, List.nodup_cons] at h
    have ih := setG_perm n b c L h.2
    simp only [setG]
    by_cases hn : n = q.1
    · subst hn
      rw [if_pos rfl, List.map_cons, List.map_cons, List.filter_cons_of_neg (by simp [prj])]; erw [filter_no h.1]
      exact .refl _
    · rw [if_neg hn, List.map_cons, List.map_cons, List.filter_cons_of_pos (by show decide (¬ (prj q).1 = n) = true; exact decide_eq_true fun e => hn (Eq.symm e))]
      exact (ih.cons _).trans (.swap _ _ _)
theorem delG_eq (n : κ) : ∀ E : List (κ × ν × Nat), ((E.map prj).map (·.1)).Nodup → (delG n E).map prj = (E.map prj).filter fun q => decide (¬ q.1 = n)
  | [], _ => rfl
  | q :: L, h => by
    simp only [List.map_cons, List.nodup_cons] at h
    have ih := delG_eq n L h.2
    simp only [delG]
    by_cases hn : n = q.1
    · subst hn
      rw [if_pos rfl, List.map_cons, List.filter_cons_of_neg (by simp [prj])]; exact (filter_no h.1).symm
    · rw [if_neg hn, List.map_cons, List.map_cons, List.filter_cons_of_pos (by show decide (¬ (prj q).1 = n) = true; exact decide_eq_true fun e => hn (Eq.symm e)), ih]
theorem lookG_mem {n : κ} {b : ν} : ∀ {L : List (κ × ν)}, (L.map (·.1)).Nodup → (lookG n L = some b ↔ (n, b) ∈ L)
  | [], _ => by simp [lookG]
  | q :: L, h => by
    simp only [List.map_cons, List.nodup_cons] at h
    have ih := lookG_mem (n := n) (b := b) h.2
    simp only [lookG]
    by_cases hn : n = q.1
    · subst hn
      rw [if_pos rfl]
      refine ⟨fun e => ?_, fun e => ?_⟩
      · simp only [Option.some.injEq] at e; subst e; exact List.mem_cons_self
      · rcases List.mem_cons.1 e with e | e
        · rw [← e]
        · exact absurd (List.mem_map_of_mem (f := (·.1)) e) h.1
    · rw [if_neg hn, ih]
      exact ⟨List.mem_cons_of_mem _, fun e => (List.mem_cons.1 e).resolve_left fun e => hn (by rw [← e])⟩
theorem lookG_perm {n : κ} {L L' : List (κ × ν)} (hp : L.Perm L') (h : (L.map (·.1)).Nodup) : lookG n L = lookG n L' := by
  have h' : (L'.map (·.1)).Nodup := (hp.map _).nodup_iff.1 h
  cases h1 : lookG n L with
  | some b => rw [eq_comm, lookG_mem h', ← hp.mem_iff, ← lookG_mem h]; exact h1
  | none =>
    cases h2 : lookG n L' with
    | none => rfl
    | some b => rw [lookG_mem h', ← hp.mem_iff, ← lookG_mem h, h1] at h2; cases h2
/-- The map's entries are the list's, in some order. -/
def MapG (ek : κ → AV) (ev : ν → AV) (es : List ME) (L : List (κ × ν)) : Prop := ∃ E : List (κ × ν × Nat), es = E.map (entG ek ev) ∧ (E.map prj).Perm L ∧ (L.map (·.1)).Nodup
omit [DecidableEq κ] in
theorem mapG_new : MapG ek ev [] ([] : List (κ × ν)) := ⟨[], rfl, .refl _, List.nodup_nil⟩
theorem mapG_val (he : EncOK ek) {es : List ME} {L : List (κ × ν)} (h : MapG ek ev es L) (n : κ) (z : AV) : valE (ek n) z es = optV ev z (lookG n L) := by
  obtain ⟨E, rfl, h2, h3⟩ := h
  rw [val_G he, lookG_perm h2 ((h2.map _).nodup_iff.2 h3)]
theorem mapG_has (he : EncOK ek) {es : List ME} {L : List (κ × ν)} (h : MapG ek ev es L) (n : κ) : hasE (ek n) es = (lookG n L).isSome := by
  obtain ⟨E, rfl, h2, h3⟩ := h
  rw [has_G he, lookG_perm h2 ((h2.map _).nodup_iff.2 h3)]
theorem mapG_set (he : EncOK ek) {es : List ME} {L L' : List (κ × ν)} (h : MapG ek ev es L) (n : κ) (b : ν) (c : Nat) (hp : L'.Perm ((n, b) :: L.filter fun q => decide (¬ q.1 = n))) : MapG ek ev (setE (ek n) (ev b) c es) L' := by
  obtain ⟨E, rfl, h2, h3⟩ := h
  have h4 := (h2.map (·.1)).nodup_iff.2 h3
  refine ⟨_, set_G he n b c E, ((setG_perm n b c E h4).trans ((h2.filter _).cons _)).trans hp.symm, ((hp.map (·.1)).nodup_iff).2 ?_⟩
  rw [List.map_cons, List.nodup_cons]
  refine ⟨fun hm => ?_, h3.sublist (List.filter_sublist.map _)⟩
  obtain ⟨q, h5, h6⟩ := List.mem_map.1 hm
  have := (List.mem_filter.1 h5).2
  simp only [decide_eq_true_eq] at this
  exact this h6
theorem mapG_del (he : EncOK ek) {es : List ME} {L L' : List (κ × ν)} (h : MapG ek ev es L) (n : κ) (hp : L'.Perm (L.filter fun q => decide (¬ q.1 = n))) : MapG ek ev (delE (ek n) es) L' := by
  obtain ⟨E, rfl, h2, h3⟩ := h
  have h4 := (h2.map (·.1)).nodup_iff.2 h3
  refine ⟨_, del_G he n E, ?_, ((hp.map (·.1)).nodup_iff).2 (h3.sublist (List.filter_sublist.map _))⟩
  rw [delG_eq n E h4]
  exact (h2.filter _).trans hp.symm
omit [DecidableEq κ] in
/-- What was seen of a map, when all was seen. -/
theorem seen_perm {es S : List ME} (hp : es.Pairwise fun e e' => e.born < e'.born) (hs : ∀ e ∈ S, e ∈ es) (hn : (S.map (·.born)).Nodup) (hall : ∀ e ∈ es, e.born ∈ S.map (·.born)) : S.Perm es := by
  have hne : es.Nodup := (hp.imp fun {a b} h => by intro e; subst e; exact Nat.lt_irrefl _ h)
  have hns : S.Nodup := by
    refine List.Pairwise.imp ?_ (List.pairwise_map.1 hn)
    intro a b h e; exact h (by rw [e])
  refine (List.perm_ext_iff_of_nodup hns hne).2 fun e => ⟨hs e, fun he => ?_⟩
  obtain ⟨e', h1, h2⟩ := List.mem_map.1 (hall e he)
  have h3 : e' = e := by
    apply Classical.byContradiction
    intro hne'
    have hinj : ∀ a ∈ es, ∀ b ∈ es, ¬ a = b → ¬ a.born = b.born := fun a ha b hb hab => by
      have h5 : es.Pairwise fun a b => ¬ a.born = b.born := hp.imp fun h => by omega
      obtain ⟨i, hi, rfl⟩ := List.mem_iff_getElem.1 ha
      obtain ⟨j, hj, rfl⟩ := List.mem_iff_getElem.1 hb
      rw [List.pairwise_iff_getElem] at h5
      rcases Nat.lt_trichotomy i j with h | h | h
      · exact h5 i j hi hj h
      · subst h; exact absurd rfl hab
      · exact fun e => h5 j i hj hi h (Eq.symm e)
    exact hinj e' (hs e' h1) e he hne' h2
  rwa [← h3]
end
/-! ### lists in order -/
section
variable {κ ν : Type} [DecidableEq κ] (lt : κ → κ → Prop) [DecidableRel lt]
/-- A strict order in which any two stand. -/
structure Ord : Prop where
  irr : ∀ a, ¬ lt a a
  tr : ∀ a b c, lt a b → lt b c → lt a c
  tot : ∀ a b, ¬ lt a b → ¬ a = b → lt b a
def tipG (n : κ) : Option ν → List (κ × ν)
  | some b => [(n, b)]
  | none => []
/-- Put at its place; none: taken away. -/
def insG (n : κ) (o : Option ν) : List (κ × ν) → List (κ × ν)
  | [] => tipG n o
  | q :: L => if lt q.1 n then q :: insG n o L else tipG n o ++ (if q.1 = n then L else q :: L)
def SortG (L : List (κ × ν)) : Prop := L.Pairwise fun a b => lt a.1 b.1
variable {lt}
omit [DecidableEq κ] [DecidableRel lt] in
theorem SortG.nodup (ho : Ord lt) {L : List (κ × ν)} (h : SortG lt L) : (L.map (·.1)).Nodup := by
  rw [List.nodup_iff_pairwise_ne, List.pairwise_map]
  exact h.imp fun {a b} h (e : a.1 = b.1) => ho.irr a.1 (by rw [← e] at h; exact h)
theorem insG_filter (ho : Ord lt) (n : κ) (o : Option ν) : ∀ {L : List (κ × ν)}, SortG lt L → (insG lt n o L).Perm (tipG n o ++ L.filter fun q => decide (¬ q.1 = n))
  | [], _ => by simp [insG]
  | q :: L, h => by
    have h2 := List.pairwise_cons.1 h
    have ih := insG_filter ho n o (L := L) h2.2
    simp only [insG]
    by_cases hl : lt q.1 n
    · have hn : ¬ q.1 = n := fun e => ho.irr n (by rw [e] at hl; exact hl)
      rw [if_pos hl, List.filter_cons_of_pos (by simpa using hn)]
      exact (ih.cons _).trans List.perm_middle.symm
    · rw [if_neg hl]
      have hno : ∀ q' ∈ L, ¬ q'.1 = n := fun q' hq e => by
        have := h2.1 q' hq
        rw [e] at this; exact hl this
      have hf : L.filter (fun q => decide (¬ q.1 = n)) = L := filter_no fun hm => by
        obtain ⟨q', h3, h4⟩ := List.mem_map.1 hm
        exact hno q' h3 h4
      by_cases hn : q.1 = n
      · rw [if_pos hn, List.filter_cons_of_neg (by simpa using hn), hf]
      · rw [if_neg hn, List.filter_cons_of_pos (by simpa using hn), hf]
theorem insG_mem {n : κ} {o : Option ν} {x : κ × ν} : ∀ {L : List (κ × ν)}, x ∈ insG lt n o L → x ∈ tipG n o ∨ x ∈ L
  | [], h => .inl h
  | q :: L, h => by
    simp only [insG] at h
    split at h
    · rcases List.mem_cons.1 h with rfl | h
      · exact .inr List.mem_cons_self
      · exact (insG_mem h).imp id (List.mem_cons_of_mem _)
    · rcases List.mem_append.1 h with h | h
      · exact .inl h
      · split at h
        · exact .inr (List.mem_cons_of_mem _ h)
        · exact .inr h
omit [DecidableEq κ] [DecidableRel lt] in
theorem tipG_mem {n : κ} {o : Option ν} {x : κ × ν} (h : x ∈ tipG n o) : x.1 = n ∧ o = some x.2 := by
  cases o with
  | none => cases h
  | some b => simp only [tipG, List.mem_singleton] at h; subst h; exact ⟨rfl, rfl⟩
theorem insG_sort (ho : Ord lt) (n : κ) (o : Option ν) : ∀ {L : List (κ × ν)}, SortG lt L → SortG lt (insG lt n o L)
  | [], _ => by cases o <;> simp [insG, tipG, SortG]
  | q :: L, h => by
    have h2 := List.pairwise_cons.1 h
    have ih := insG_sort ho n o (L := L) h2.2
    simp only [insG]
    by_cases hl : lt q.1 n
    · rw [if_pos hl]
      refine List.pairwise_cons.2 ⟨fun x hx => ?_, ih⟩
      rcases insG_mem hx with hx | hx
      · rw [(tipG_mem hx).1]; exact hl
      · exact h2.1 x hx
    · rw [if_neg hl]
      refine List.pairwise_append.2 ⟨by cases o <;> simp [tipG], ?_, fun x hx y hy => ?_⟩
      · split
        · exact h2.2
        · exact h
      · rw [(tipG_mem hx).1]
        by_cases hn : q.1 = n
        · rw [if_pos hn] at hy; rw [← hn]; exact h2.1 y hy
        · rw [if_neg hn] at hy
          have hq := ho.tot q.1 n hl hn
          rcases List.mem_cons.1 hy with rfl | hy
          · exact hq
          · exact ho.tr _ _ _ hq (h2.1 y hy)
omit [DecidableEq κ] [DecidableRel lt] in
theorem sortG_one (ho : Ord lt) {L L' : List (κ × ν)} (hp : L.Perm L') (h1 : SortG lt L) (h2 : SortG lt L') : L = L' :=
  List.Perm.eq_of_pairwise (le := fun a b : κ × ν => lt a.1 b.1) (fun a b _ _ h3 h4 => absurd (ho.tr _ _ _ h3 h4) (ho.irr _)) h1 h2 hp
theorem lookG_ins (ho : Ord lt) (n n' : κ) (o : Option ν) {L : List (κ × ν)} (h : SortG lt L) : lookG n' (insG lt n o L) = if n' = n then o else lookG n' L := by
  have h1 := insG_sort ho n o h
  have hp := insG_filter ho n o h
  have hnd := h1.nodup ho
  rw [lookG_perm hp hnd]
  have hf : ∀ {L : List (κ × ν)}, lookG n' (L.filter fun q => decide (¬ q.1 = n)) = if n' = n then none else lookG n' L := by
    intro L
    induction L with
    | nil => simp [lookG]
    | cons q L ih =>
      by_cases hn : q.1 = n
      · rw [List.filter_cons_of_neg (by simpa using hn), ih, lookG]
        by_cases h' : n' = n
        · simp [h']
        · have : ¬ n' = q.1 := fun e => h' (e.trans hn)
          simp [h', this]
      · rw [List.filter_cons_of_pos (by simpa using hn), lookG, lookG, ih]
        by_cases h' : n' = n
        · subst h'
          have : ¬ n' = q.1 := fun e => hn (Eq.symm e)
          simp [this]
        · simp [h']
  cases o with
  | none => simp only [tipG, List.nil_append, hf]
  | some b =>
    simp only [tipG, List.cons_append, List.nil_append, lookG, hf]
    by_cases h' : n' = n <;> simp [h']
end
end Go.Ab
namespace Go.Proofs.YtaecbmbecofijaaGreatDoor
open Go Go.Ab
set_option maxRecDepth 20000
set_option maxHeartbeats 4000000
def keyS (e : ME) : Str := match e.key with
  | .str s => s
  | _ => []
/-- What stands right below a place. -/
def restOf (n k : Str) : Option Str := if preT k (n ++ [47]) = true ∧ ¬ 0 ≤ Lib.indexByte (k.drop (n.length + 1)) 47 then some (k.drop (n.length + 1)) else none
theorem of_app {l l' : List (Oid × AObj)} {i : Oid} (h : ∀ q ∈ l, ¬ i = q.1) : Mem.of (l ++ l') i = Mem.of l' i := by
  induction l with
  | nil => rfl
  | cons q l ih => rw [List.cons_append, Mem.of_cons_at, if_neg (h q List.mem_cons_self)]; exact ih fun q' hq' => h q' (List.mem_cons_of_mem _ hq')
theorem app_mem {m : Mem} {B L : List (Oid × AObj)} (h1 : ∀ q, q ∈ B → m q.1 = some q.2) (h2 : ∀ q, q ∈ L → m q.1 = some q.2) : ∀ q, q ∈ B ++ L → m q.1 = some q.2 :=
  fun q hq => (List.mem_append.1 hq).elim (h1 q) (h2 q)
theorem str_of_fits {k : AV} (h : keyFits [.ss] false k = true) : ∃ s, k = .str s := by
  cases k <;> simp [keyFits, AV.isAgg, AV.cells, fits, fitS] at h ⊢
theorem sub_len {es U : List ME} (hp : es.Pairwise fun e e' => e.born < e'.born) (hs : ∀ e ∈ U, e ∈ es) (hn : (U.map (·.born)).Nodup) : U.length ≤ es.length := by
  have h1 : U.Nodup := List.Pairwise.imp (fun h e => h (by rw [e])) (List.pairwise_map.1 hn)
  exact h1.length_le_of_subset fun e he => hs e he
theorem find_born {es : List ME} (hp : es.Pairwise fun e e' => e.born < e'.born) {e : ME} (he : e ∈ es) : es.find? (fun q => q.born == e.born) = some e := by
  induction es with
  | nil => cases he
  | cons a es ih =>
    have h2 := List.pairwise_cons.1 hp
    rcases List.mem_cons.1 he with rfl | he
    · simp
    · have := h2.1 e he
      rw [List.find?_cons_of_neg (by simp; omega)]
      exact ih h2.2 he
theorem below_seq (b1 b2 o : Oid) (n : Str) (hln : n.length ≤ 140737488355000) (es : List ME) (clock : Nat) (hkl : ∀ e ∈ es, (keyS e).length ≤ 140737488355328) (p : Oid) (hne1 : ¬ o = b1) (hne2 : ¬ o = b2) (hne3 : ¬ b2 = b1) (hb1 : ¬ Oid.under p b1) (hb2 : ¬ Oid.under p b2) (ho : ¬ Oid.under p o) :
    SeqND Tryz.prog 141 [.ptr b1 0, .ptr b2 0] p [(b1, .cells [.map o]), (b2, .cells [.str n]), (o, .map [.ss] false es clock)] 1 (fun pre xs => pre.length < es.length ∧ ∃ s : Str, xs = [.str s]) (fun b pre => b = true → ∃ U : List ME, U.Perm es ∧ pre = (U.filterMap fun e => restOf n (keyS e)).map fun s => [.str s]) := by
  intro l J L0 hJ hdis hnp hY
  refine callND_cons (by kernel_rfl) fun hcon => ?_
  refine fnND (n := 32) (rs := []) Tryz.func141 rfl rfl (by decide) rfl rfl rfl ?_; rintro x rfl hrd hng
  have hcL : ∀ q ∈ L0, Mem.of L0 q.1 = some q.2 := fun q hq => by
    have := hcon q (List.mem_append_right _ hq)
    rwa [of_app fun q' hq' => hdis q hq q' hq'] at this
  generalize hQ : DoneN Tryz.prog [] ([(b1, .cells [.map o]), (b2, .cells [.str n]), (o, .map [.ss] false es clock)] ++ L0) _ _ = Q
  refine T_wf fun hwf => ?_
  obtain ⟨hw1, hw2⟩ := hwf o [.ss] false es clock (by simp only [fa_cons, fa_nil, Mem.of_cons_at, Mem.of_nil_at, Mem.of_upds, Mem.of_putL, putLs, putL, List.cons_append, List.nil_append, List.append_nil, ↓reduceIte, eq_self, and_true, true_and, and_self, and_false, false_and, reduceCtorEq, Oid.sub.injEq, Nat.reduceEqDiff, hne1, hne2, hne3, Oid.sub_not_under hb1, Oid.sub_not_under hb2, Oid.sub_not_under ho, Oid.not_under_sub hb1, Oid.not_under_sub hb2, Oid.not_under_sub ho])
  have hstr : ∀ e ∈ es, e.key = .str (keyS e) := fun e he => by
    obtain ⟨s, hs⟩ := str_of_fits (hw1 e he).1
    simp only [keyS, hs]
  (try ((first | refine zn ?_ | refine ze ?_ | refine zk ?_); with_reducible (constructor; repeat constructor)); try refine zl ?_)
  refine K_ev nmd [] hng (by kernel_rfl) fun hf C S K hC1 hC hS hK => ?_; simp (disch := first | omega | assumption) only [go_sem, hne1, hne2, hne3, Oid.sub_not_under hb1, Oid.sub_not_under hb2, Oid.sub_not_under ho, Oid.not_under_sub hb1, Oid.not_under_sub hb2, Oid.not_under_sub ho, of_put_at]
  refine hK ?_; clear hK hS hC hC1 K S C hf
  (try ((first | refine zn ?_ | refine ze ?_ | refine zk ?_); with_reducible (constructor; repeat constructor)); try refine zl ?_)
  have hn0 : ∀ q ∈ L0, ¬ q.1 = b1 ∧ ¬ q.1 = b2 ∧ ¬ q.1 = o ∧ ¬ q.1 = .sub 0 1 x.p := fun q hq => ⟨hdis q hq _ List.mem_cons_self, hdis q hq _ (List.mem_cons_of_mem _ List.mem_cons_self), hdis q hq _ (List.mem_cons_of_mem _ (List.mem_cons_of_mem _ List.mem_cons_self)), fun e => hnp q hq (e ▸ Oid.under_sub (Oid.under_refl _))⟩
  refine K_mem ([(b1, .cells [.map o]), (b2, .cells [.str n]), (o, .map [.ss] false es clock), (.sub 0 1 x.p, .iter (some o) clock [] clock)] ++ L0) (app_mem ?_ ?_) ?_
  · simp only [fa_cons, fa_nil, Mem.of_cons_at, Mem.of_nil_at, Mem.of_upds, Mem.of_putL, putLs, putL, List.cons_append, List.nil_append, List.append_nil, ↓reduceIte, eq_self, and_true, true_and, and_self, and_false, false_and, reduceCtorEq, Oid.sub.injEq, Nat.reduceEqDiff, hne1, hne2, hne3, Oid.sub_not_under hb1, Oid.sub_not_under hb2, Oid.sub_not_under ho, Oid.not_under_sub hb1, Oid.not_under_sub hb2, Oid.not_under_sub ho, of_put_at]
  · intro q hq
    obtain ⟨a1, a2, a3, a4⟩ := hn0 q hq
    simp only [fa_cons, fa_nil, Mem.of_cons_at, Mem.of_nil_at, Mem.of_upds, Mem.of_putL, putLs, putL, List.cons_append, List.nil_append, List.append_nil, ↓reduceIte, eq_self, and_true, true_and, and_self, and_false, false_and, reduceCtorEq, Oid.sub.injEq, Nat.reduceEqDiff, of_put_at, a1, a2, a3, a4]
    exact hcL q hq
  refine K_loop [0, 1, 2, 8] (fun q s' => ∃ (c : Nat) (U : List ME) (L : List (Oid × AObj)), s' = ⟨[(0, .fn (.yield l) [] []), (1, .ptr b1 0), (2, .ptr b2 0), (8, .iter (.sub 0 1 x.p))], Mem.of ([(b1, .cells [.map o]), (b2, .cells [.str n]), (o, .map [.ss] false es clock), (.sub 0 1 x.p, .iter (some o) clock (U.map ME.born) clock)] ++ L), c, []⟩ ∧ 0 < c ∧ q = es.length - U.length ∧ (U.map ME.born).Nodup ∧ (∀ e ∈ U, e ∈ es) ∧ J true ((U.filterMap fun e => restOf n (keyS e)).map fun s => [.str s]) L ∧
    (∀ q ∈ L, Mem.of L q.1 = some q.2) ∧ ∀ q ∈ L, ((∃ q' ∈ L0, q'.1 = q.1) ∨ Oid.under x.p q.1) ∧ ¬ q.1 = b1 ∧ ¬ q.1 = b2 ∧ ¬ q.1 = o ∧ ¬ q.1 = .sub 0 1 x.p ∧ ∀ d j, c ≤ d → ¬ Oid.under (.sub d j x.p) q.1) es.length ⟨_, [], L0, rfl, by omega, rfl, List.nodup_nil, fun i h => (by cases h), hJ, hcL, fun q hq => ⟨.inl ⟨q, hq, rfl⟩, (hn0 q hq).1, (hn0 q hq).2.1, (hn0 q hq).2.2.1, (hn0 q hq).2.2.2, fun d j _ h => hnp q hq (Oid.under_sub h)⟩⟩ ?_
  rintro q s' ⟨c, U, L, rfl, hc, rfl, hnd, hlt, hj, hcc, hnm⟩
  have hst : U.map ME.born = [] ∨ es = [] ∨ ∃ e ∈ es, e.born < clock := by
    cases U with
    | nil => exact .inl rfl
    | cons e _ => exact .inr (.inr ⟨e, hlt e List.mem_cons_self, (hw1 e (hlt e List.mem_cons_self)).2⟩)
  (try ((first | refine zn ?_ | refine ze ?_ | refine zk ?_); with_reducible (constructor; repeat constructor)); try refine zl ?_)
  refine K_ev nmd [] hng (by kernel_rfl) fun hf C S K hC1 hC hS hK => ?_; simp (disch := first | omega | assumption) only [go_sem]
  refine hS _ _ _ (fun o' hd ho' => nd_next (it := .sub 0 1 x.p) (id := o) (since := clock) (ks := [.ss]) (ag := false) (clock := clock) ho' rfl hst) ?_ ?_ (fun _ _ h => h.elim)
  · simp only [fa_cons, fa_nil, Mem.of_cons_at, Mem.of_nil_at, Mem.of_upds, Mem.of_putL, putLs, putL, List.cons_append, List.nil_append, List.append_nil, ↓reduceIte, eq_self, and_true, true_and, and_self, and_false, false_and, reduceCtorEq, Oid.sub.injEq, Nat.reduceEqDiff, hne1, hne2, hne3, Oid.sub_not_under hb1, Oid.sub_not_under hb2, Oid.sub_not_under ho, Oid.not_under_sub hb1, Oid.not_under_sub hb2, Oid.not_under_sub ho]
  rintro val upd (⟨e, he, hns, rfl, rfl⟩ | ⟨hall, rfl, rfl⟩)
  · have hfi := find_born hw2 he
    have hk := hstr e he
    have hkl1 := hkl e he
    have hnd' : ((U ++ [e]).map ME.born).Nodup := by
      rw [List.map_append]
      exact List.nodup_append.2 ⟨hnd, by simp, fun a ha b hb' e' => by simp at hb'; subst hb'; subst e'; exact hns ha⟩
    have hlt' : ∀ j ∈ U ++ [e], j ∈ es := fun j hj => by
      rcases List.mem_append.1 hj with hj | hj
      · exact hlt j hj
      · simp at hj; subst hj; exact he
    have hle := sub_len hw2 hlt' hnd'
    have hfm : (U.filterMap fun e => restOf n (keyS e)).length ≤ U.length := List.length_filterMap_le ..
    have hrest : ((U ++ [e]).filterMap fun e => restOf n (keyS e)) = (U.filterMap fun e => restOf n (keyS e)) ++ (restOf n (keyS e)).toList := by
      rw [List.filterMap_append]; congr 1
    generalize keyS e = s at *
    simp (disch := first | omega | assumption) only [go_sem, hne1, hne2, hne3, Oid.sub_not_under hb1, Oid.sub_not_under hb2, Oid.sub_not_under ho, Oid.not_under_sub hb1, Oid.not_under_sub hb2, Oid.not_under_sub ho, of_put_at, hk]
    refine hK ?_; clear hK hS hC hC1 K S C hf
    (repeat (first | (refine K_ifT rfl rfl ?_) | (refine K_ifF rfl rfl ?_) | (refine K_ev nmd [] hng (by kernel_rfl) fun hf C S K hC1 hC hS hK => ?_; simp (disch := first | omega | assumption) only [go_sem]; refine hK ?_; clear hK hS hC hC1 K S C hf) | ((first | refine zv ?_ | refine zw ?_ | refine zu ?_); with_reducible (constructor; repeat constructor); try refine zl ?_)))
    refine K_block ?_
    (repeat (first | (refine K_ifT rfl rfl ?_) | (refine K_ifF rfl rfl ?_) | (refine K_ev nmd [] hng (by kernel_rfl) fun hf C S K hC1 hC hS hK => ?_; simp (disch := first | omega | assumption) only [go_sem]; refine hK ?_; clear hK hS hC hC1 K S C hf) | ((first | refine zv ?_ | refine zw ?_ | refine zu ?_); with_reducible (constructor; repeat constructor); try refine zl ?_)))
    refine K_ev nmd [] hng (by kernel_rfl) fun hf C S K hC1 hC hS hK => ?_; simp (disch := first | omega | assumption) only [go_sem, hne1, hne2, hne3, Oid.sub_not_under hb1, Oid.sub_not_under hb2, Oid.sub_not_under ho, Oid.not_under_sub hb1, Oid.not_under_sub hb2, Oid.not_under_sub ho, of_put_at, hfi, hk, List.getLast?_concat]
    refine hK ?_; clear hK hS hC hC1 K S C hf
    (repeat (first | (refine K_ifT rfl rfl ?_) | (refine K_ifF rfl rfl ?_) | (refine K_ev nmd [] hng (by kernel_rfl) fun hf C S K hC1 hC hS hK => ?_; simp (disch := first | omega | assumption) only [go_sem]; refine hK ?_; clear hK hS hC hC1 K S C hf) | ((first | refine zv ?_ | refine zw ?_ | refine zu ?_); with_reducible (constructor; repeat constructor); try refine zl ?_)))
    refine K_ev nmd [] hng (by kernel_rfl) fun hf C S K hC1 hC hS hK => ?_; simp (disch := first | omega | assumption) only [go_sem, hne1, hne2, hne3, Oid.sub_not_under hb1, Oid.sub_not_under hb2, Oid.sub_not_under ho, Oid.not_under_sub hb1, Oid.not_under_sub hb2, Oid.not_under_sub ho, of_put_at]
    refine hC1 _ (cutPrefix_ok s (n ++ [47]) (by omega) (by simp only [List.length_append, List.length_cons, List.length_nil]; omega) _) (by simp (disch := first | omega | assumption) only [go_sem]) ?_
    simp (disch := first | omega | assumption) only [go_sem]
    refine hK ?_; clear hK hS hC hC1 K S C hf
    have hnm2 : ∀ q ∈ L, ((∃ q' ∈ L0, q'.1 = q.1) ∨ Oid.under x.p q.1) ∧ ¬ q.1 = b1 ∧ ¬ q.1 = b2 ∧ ¬ q.1 = o ∧ ¬ q.1 = .sub 0 1 x.p ∧ ∀ d j, c + 4 ≤ d → ¬ Oid.under (.sub d j x.p) q.1 := fun q hq => by
      obtain ⟨a0, a1, a2, a3, a4, a5⟩ := hnm q hq
      exact ⟨a0, a1, a2, a3, a4, fun d j hd => a5 d j (by omega)⟩
    have hnL : ∀ q ∈ L, ∀ q' ∈ ([(b1, .cells [.map o]), (b2, .cells [.str n]), (o, .map [.ss] false es clock), (.sub 0 1 x.p, .iter (some o) clock (U.map ME.born ++ [e.born]) clock)] : List (Oid × AObj)), ¬ q.1 = q'.1 := fun q hq => by
      obtain ⟨_, a1, a2, a3, a4, a5⟩ := hnm q hq
      simp only [fa_cons, fa_nil, Mem.of_cons_at, Mem.of_nil_at, Mem.of_upds, Mem.of_putL, putLs, putL, List.cons_append, List.nil_append, List.append_nil, ↓reduceIte, eq_self, and_true, true_and, and_self, and_false, false_and, reduceCtorEq, Oid.sub.injEq, Nat.reduceEqDiff, a1, a2, a3, a4, not_false_eq_true]
    have hBm : ∀ q ∈ ([(b1, .cells [.map o]), (b2, .cells [.str n]), (o, .map [.ss] false es clock), (.sub 0 1 x.p, .iter (some o) clock (U.map ME.born ++ [e.born]) clock)] : List (Oid × AObj)), Mem.of ([(b1, .cells [.map o]), (b2, .cells [.str n]), (o, .map [.ss] false es clock), (.sub 0 1 x.p, .iter (some o) clock (U.map ME.born ++ [e.born]) clock)] ++ L) q.1 = some q.2 := by
      simp only [fa_cons, fa_nil, Mem.of_cons_at, Mem.of_nil_at, Mem.of_upds, Mem.of_putL, putLs, putL, List.cons_append, List.nil_append, List.append_nil, ↓reduceIte, eq_self, and_true, true_and, and_self, and_false, false_and, reduceCtorEq, Oid.sub.injEq, Nat.reduceEqDiff, hne1, hne2, hne3, Oid.sub_not_under hb1, Oid.sub_not_under hb2, Oid.sub_not_under ho, Oid.not_under_sub hb1, Oid.not_under_sub hb2, Oid.not_under_sub ho]
    have hall := cons_app hBm hnL hcc
    have hmm : (U ++ [e]).map ME.born = U.map ME.born ++ [e.born] := by simp
    have hlen2 : (U ++ [e]).length = U.length + 1 := by simp
    by_cases hp : preT s (n ++ [47]) = true
    · by_cases hq : 0 ≤ Lib.indexByte (s.drop (n.length + 1)) 47
      · have hro : restOf n s = none := if_neg fun h => h.2 hq
        (repeat (first | (refine K_ifT rfl rfl ?_) | (refine K_ifF rfl rfl ?_) | (refine K_ev nmd [] hng (by kernel_rfl) fun hf C S K hC1 hC hS hK => ?_; simp (disch := first | omega | assumption) only [go_sem]; refine hK ?_; clear hK hS hC hC1 K S C hf) | ((first | refine zv ?_ | refine zw ?_ | refine zu ?_); with_reducible (constructor; repeat constructor); try refine zl ?_)))
        refine K_ev nmd [(1, 21), (6, 26)] hng (by kernel_rfl) fun hf C S K hC1 hC hS hK => ?_; simp (disch := first | omega | assumption) only [go_sem, hp]
        refine hC1 _ (contains_ok (s.drop (n.length + 1)) 47 _) (by simp (disch := first | omega | assumption) only [go_sem]) ?_
        simp (disch := first | omega | assumption) only [go_sem, hq]
        refine hK ?_; clear hK hS hC hC1 K S C hf
        (repeat (first | (refine K_ifT rfl rfl ?_) | (refine K_ifF rfl rfl ?_) | (refine K_ev nmd [] hng (by kernel_rfl) fun hf C S K hC1 hC hS hK => ?_; simp (disch := first | omega | assumption) only [go_sem]; refine hK ?_; clear hK hS hC hC1 K S C hf) | ((first | refine zn ?_ | refine ze ?_ | refine zk ?_); with_reducible (constructor; repeat constructor); try refine zl ?_)))
        refine ⟨_, Mem.of ([(b1, .cells [.map o]), (b2, .cells [.str n]), (o, .map [.ss] false es clock), (.sub 0 1 x.p, .iter (some o) clock (U.map ME.born ++ [e.born]) clock)] ++ L), ?_, mem_sub hall, c + 1 + 1 + 1 + 1, U ++ [e], L, by rw [hmm]; rfl, by omega, rfl, hnd', hlt', ?_, hcc, hnm2⟩
        · rw [hlen2] at hle ⊢; omega
        · rw [hrest, hro]; simpa using hj
      · have hro : restOf n s = some (s.drop (n.length + 1)) := if_pos ⟨hp, hq⟩
        (repeat (first | (refine K_ifT rfl rfl ?_) | (refine K_ifF rfl rfl ?_) | (refine K_ev nmd [] hng (by kernel_rfl) fun hf C S K hC1 hC hS hK => ?_; simp (disch := first | omega | assumption) only [go_sem]; refine hK ?_; clear hK hS hC hC1 K S C hf) | ((first | refine zv ?_ | refine zw ?_ | refine zu ?_); with_reducible (constructor; repeat constructor); try refine zl ?_)))
        refine K_ev nmd [(1, 21), (6, 26)] hng (by kernel_rfl) fun hf C S K hC1 hC hS hK => ?_; simp (disch := first | omega | assumption) only [go_sem, hp]
        refine hC1 _ (contains_ok (s.drop (n.length + 1)) 47 _) (by simp (disch := first | omega | assumption) only [go_sem]) ?_
        simp (disch := first | omega | assumption) only [go_sem, hq]
        generalize hr : s.drop (n.length + 1) = r at *
        refine hS _ _ _ (fun o' hd ho' => eff_yield ho' rfl (hY _ [.str r] L (.sub (c + 1 + 1 + 1) 9 x.p) hj rfl ⟨by rw [List.length_map]; rw [hlen2] at hle; omega, r, rfl⟩)) (fun q hq => hall q (List.mem_append_right _ hq)) ?_ (fun _ _ h => h.elim)
        rintro val upd ⟨b, L', rfl, hj', hU⟩
        have hym := yield_mem hU (fun q hq => hall q (List.mem_append_right _ hq)) hBm ?_
        rotate_left
        · intro q hq
          refine ⟨fun q' hq' => hnL q' hq' q hq, fun hu => ?_⟩
          simp only [List.mem_cons, List.not_mem_nil, or_false] at hq
          rcases hq with rfl | rfl | rfl | rfl
          · exact hb1 (Oid.under_sub hu)
          · exact hb2 (Oid.under_sub hu)
          · exact ho (Oid.under_sub hu)
          · have := (Oid.apart hu (Oid.under_refl _)).1; omega
        have hcl : ∀ q ∈ L', Mem.of L' q.1 = some q.2 := fun q hq => by
          obtain ⟨o', ho'⟩ := Mem.of_some hq
          obtain ⟨q', h1, h2, h3⟩ := Mem.of_mem ho'
          have h4 := hym q (List.mem_append_right _ hq)
          have h5 := hym q' (List.mem_append_right _ h1)
          rw [h2, h4, h3] at h5
          rw [ho']; exact h5.symm
        simp (disch := first | omega | assumption) only [go_sem]
        refine hK ?_; clear hK hS hC hC1 K S C hf
        (repeat (first | (refine K_ifT rfl rfl ?_) | (refine K_ifF rfl rfl ?_) | (refine K_ev nmd [] hng (by kernel_rfl) fun hf C S K hC1 hC hS hK => ?_; simp (disch := first | omega | assumption) only [go_sem]; refine hK ?_; clear hK hS hC hC1 K S C hf) | ((first | refine zv ?_ | refine zw ?_ | refine zu ?_); with_reducible (constructor; repeat constructor); try refine zl ?_)))
        refine K_mem ([(b1, .cells [.map o]), (b2, .cells [.str n]), (o, .map [.ss] false es clock), (.sub 0 1 x.p, .iter (some o) clock (U.map ME.born ++ [e.born]) clock)] ++ L') (by rw [← Mem.of_upds]; exact hym) ?_
        have hnm' : ∀ q ∈ L', ((∃ q' ∈ L0, q'.1 = q.1) ∨ Oid.under x.p q.1) ∧ ¬ q.1 = b1 ∧ ¬ q.1 = b2 ∧ ¬ q.1 = o ∧ ¬ q.1 = .sub 0 1 x.p ∧ ∀ d j, c + 1 + 1 + 1 + 1 ≤ d → ¬ Oid.under (.sub d j x.p) q.1 := fun q hq => by
          rcases hU.nam q hq with ⟨q', h1, h2⟩ | h1
          · obtain ⟨a0, a1, a2, a3, a4, a5⟩ := hnm q' h1
            rw [h2] at a0 a1 a2 a3 a4 a5
            exact ⟨a0, a1, a2, a3, a4, fun d j hd => a5 d j (by omega)⟩
          · have hu := Oid.under_sub h1
            refine ⟨.inr hu, fun e => hb1 (e ▸ hu), fun e => hb2 (e ▸ hu), fun e => ho (e ▸ hu), fun e => ?_, fun d j hd h2 => ?_⟩
            · rw [e] at h1; have := (Oid.apart h1 (Oid.under_refl _)).1; omega
            · have := (Oid.apart h1 h2).1; omega
        have hmap : ((U ++ [e]).filterMap fun e => restOf n (keyS e)).map (fun s => [AV.str s]) = ((U.filterMap fun e => restOf n (keyS e)).map fun s => [AV.str s]) ++ [[.str r]] := by rw [hrest, hro]; simp
        have hnL' : ∀ q ∈ L', ∀ q' ∈ ([(b1, .cells [.map o]), (b2, .cells [.str n]), (o, .map [.ss] false es clock), (.sub 0 1 x.p, .iter (some o) clock (U.map ME.born ++ [e.born]) clock)] : List (Oid × AObj)), ¬ q.1 = q'.1 := fun q hq => by
          obtain ⟨_, a1, a2, a3, a4, a5⟩ := hnm' q hq
          simp only [fa_cons, fa_nil, Mem.of_cons_at, Mem.of_nil_at, Mem.of_upds, Mem.of_putL, putLs, putL, List.cons_append, List.nil_append, List.append_nil, ↓reduceIte, eq_self, and_true, true_and, and_self, and_false, false_and, reduceCtorEq, Oid.sub.injEq, Nat.reduceEqDiff, a1, a2, a3, a4, not_false_eq_true]
        have hall' := cons_app (L := L') (B := [(b1, .cells [.map o]), (b2, .cells [.str n]), (o, .map [.ss] false es clock), (.sub 0 1 x.p, .iter (some o) clock (U.map ME.born ++ [e.born]) clock)]) (fun q hq => by
          have := hym q (List.mem_append_left _ hq)
          revert q
          simp only [fa_cons, fa_nil, Mem.of_cons_at, Mem.of_nil_at, Mem.of_upds, Mem.of_putL, putLs, putL, List.cons_append, List.nil_append, List.append_nil, ↓reduceIte, eq_self, and_true, true_and, and_self, and_false, false_and, reduceCtorEq, Oid.sub.injEq, Nat.reduceEqDiff, hne1, hne2, hne3, Oid.sub_not_under hb1, Oid.sub_not_under hb2, Oid.sub_not_under ho, Oid.not_under_sub hb1, Oid.not_under_sub hb2, Oid.not_under_sub ho, implies_true]) hnL' hcl
        cases b with
        | true =>
          (repeat (first | (refine K_ifT rfl rfl ?_) | (refine K_ifF rfl rfl ?_) | (refine K_ev nmd [] hng (by kernel_rfl) fun hf C S K hC1 hC hS hK => ?_; simp (disch := first | omega | assumption) only [go_sem]; refine hK ?_; clear hK hS hC hC1 K S C hf) | ((first | refine zn ?_ | refine ze ?_ | refine zk ?_); with_reducible (constructor; repeat constructor); try refine zl ?_)))
          rw [← hmap] at hj'
          refine ⟨_, Mem.of ([(b1, .cells [.map o]), (b2, .cells [.str n]), (o, .map [.ss] false es clock), (.sub 0 1 x.p, .iter (some o) clock (U.map ME.born ++ [e.born]) clock)] ++ L'), ?_, mem_sub hall', c + 1 + 1 + 1 + 1, U ++ [e], L', by rw [hmm]; rfl, by omega, rfl, hnd', hlt', hj', hcl, hnm'⟩
          rw [hlen2] at hle ⊢; omega
        | false =>
          refine K_ifT rfl rfl (K_ret ?_)
          subst hQ
          have hsw := swap_of (L := [(b1, .cells [.map o]), (b2, .cells [.str n]), (o, .map [.ss] false es clock)] ++ L0) (L' := [(b1, .cells [.map o]), (b2, .cells [.str n]), (o, .map [.ss] false es clock)] ++ L') (m := Mem.of ([(b1, .cells [.map o]), (b2, .cells [.str n]), (o, .map [.ss] false es clock), (.sub 0 1 x.p, .iter (some o) clock (U.map ME.born ++ [e.born]) clock)] ++ L')) (sp := Oid.under x.p) (fun q hq => hall' q (by
              rcases List.mem_append.1 hq with hq | hq
              · exact List.mem_append_left _ (by simp only [List.mem_cons, List.not_mem_nil, or_false] at hq ⊢; rcases hq with h | h | h <;> simp [h])
              · exact List.mem_append_right _ hq)) (fun q hq => by
              rcases List.mem_append.1 hq with hq | hq
              · exact .inl ⟨q, List.mem_append_left _ hq, rfl⟩
              · rcases (hnm' q hq).1 with ⟨q', h1, h2⟩ | h
                · exact .inl ⟨q', List.mem_append_right _ h1, h2⟩
                · exact .inr h)
          exact done_ret _ _ rfl ⟨false, _, L', fun h => (by cases h), hj', hsw.1⟩ hsw.2
    · have hro : restOf n s = none := if_neg fun h => hp h.1
      rw [Bool.not_eq_true] at hp
      (repeat (first | (refine K_ifT rfl rfl ?_) | (refine K_ifF rfl rfl ?_) | (refine K_ev nmd [] hng (by kernel_rfl) fun hf C S K hC1 hC hS hK => ?_; simp (disch := first | omega | assumption) only [go_sem]; refine hK ?_; clear hK hS hC hC1 K S C hf) | ((first | refine zv ?_ | refine zw ?_ | refine zu ?_); with_reducible (constructor; repeat constructor); try refine zl ?_)))
      refine K_ev nmd [(1, 21), (6, 26)] hng (by kernel_rfl) fun hf C S K hC1 hC hS hK => ?_; simp (disch := first | omega | assumption) only [go_sem, hp]
      refine hK ?_; clear hK hS hC hC1 K S C hf
      (repeat (first | (refine K_ifT rfl rfl ?_) | (refine K_ifF rfl rfl ?_) | (refine K_ev nmd [] hng (by kernel_rfl) fun hf C S K hC1 hC hS hK => ?_; simp (disch := first | omega | assumption) only [go_sem]; refine hK ?_; clear hK hS hC hC1 K S C hf) | ((first | refine zn ?_ | refine ze ?_ | refine zk ?_); with_reducible (constructor; repeat constructor); try refine zl ?_)))
      refine ⟨_, Mem.of ([(b1, .cells [.map o]), (b2, .cells [.str n]), (o, .map [.ss] false es clock), (.sub 0 1 x.p, .iter (some o) clock (U.map ME.born ++ [e.born]) clock)] ++ L), ?_, mem_sub hall, c + 1 + 1 + 1 + 1, U ++ [e], L, by rw [hmm]; rfl, by omega, rfl, hnd', hlt', ?_, hcc, hnm2⟩
      · rw [hlen2] at hle ⊢; omega
      · rw [hrest, hro]; simpa using hj
  · simp (disch := first | omega | assumption) only [go_sem]
    refine hK ?_; clear hK hS hC hC1 K S C hf
    (try ((first | refine zn ?_ | refine ze ?_ | refine zk ?_); with_reducible (constructor; repeat constructor)); try refine zl ?_)
    subst hQ
    have hfull := seen_perm hw2 hlt hnd fun e he => hall e he (hw1 e he).2
    have hnL : ∀ q ∈ L, ∀ q' ∈ ([(b1, .cells [.map o]), (b2, .cells [.str n]), (o, .map [.ss] false es clock), (.sub 0 1 x.p, .iter (some o) clock (U.map ME.born) clock)] : List (Oid × AObj)), ¬ q.1 = q'.1 := fun q hq => by
      obtain ⟨_, a1, a2, a3, a4, a5⟩ := hnm q hq
      simp only [fa_cons, fa_nil, Mem.of_cons_at, Mem.of_nil_at, Mem.of_upds, Mem.of_putL, putLs, putL, List.cons_append, List.nil_append, List.append_nil, ↓reduceIte, eq_self, and_true, true_and, and_self, and_false, false_and, reduceCtorEq, Oid.sub.injEq, Nat.reduceEqDiff, a1, a2, a3, a4, not_false_eq_true]
    have hall' := cons_app (L := L) (B := [(b1, .cells [.map o]), (b2, .cells [.str n]), (o, .map [.ss] false es clock), (.sub 0 1 x.p, .iter (some o) clock (U.map ME.born) clock)]) (by
      simp only [fa_cons, fa_nil, Mem.of_cons_at, Mem.of_nil_at, Mem.of_upds, Mem.of_putL, putLs, putL, List.cons_append, List.nil_append, List.append_nil, ↓reduceIte, eq_self, and_true, true_and, and_self, and_false, false_and, reduceCtorEq, Oid.sub.injEq, Nat.reduceEqDiff, hne1, hne2, hne3, Oid.sub_not_under hb1, Oid.sub_not_under hb2, Oid.sub_not_under ho, Oid.not_under_sub hb1, Oid.not_under_sub hb2, Oid.not_under_sub ho]) hnL hcc
    have hsw := swap_of (L := [(b1, .cells [.map o]), (b2, .cells [.str n]), (o, .map [.ss] false es clock)] ++ L0) (L' := [(b1, .cells [.map o]), (b2, .cells [.str n]), (o, .map [.ss] false es clock)] ++ L) (m := Mem.of ([(b1, .cells [.map o]), (b2, .cells [.str n]), (o, .map [.ss] false es clock), (.sub 0 1 x.p, .iter (some o) clock (U.map ME.born) clock)] ++ L)) (sp := Oid.under x.p) (fun q hq => hall' q (by
          rcases List.mem_append.1 hq with hq | hq
          · exact List.mem_append_left _ (by simp only [List.mem_cons, List.not_mem_nil, or_false] at hq ⊢; rcases hq with h | h | h <;> simp [h])
          · exact List.mem_append_right _ hq)) (fun q hq => by
          rcases List.mem_append.1 hq with hq | hq
          · exact .inl ⟨q, List.mem_append_left _ hq, rfl⟩
          · rcases (hnm q hq).1 with ⟨q', h1, h2⟩ | h
            · exact .inl ⟨q', List.mem_append_right _ h1, h2⟩
            · exact .inr h)
    refine K_ifF rfl rfl ?_
    (try ((first | refine zn ?_ | refine ze ?_ | refine zk ?_); with_reducible (constructor; repeat constructor)); try refine zl ?_)
    refine K_nil ?_
    exact done_normal _ _ rfl ⟨true, _, L, fun _ => ⟨U, hfull, rfl⟩, hj, hsw.1⟩ hsw.2
end Go.Proofs.YtaecbmbecofijaaGreatDoor
namespace Go.Proofs.YtaecbmbecofijaaGreatDoor
open Go Go.Ab
set_option maxRecDepth 20000
set_option maxHeartbeats 4000000
theorem bindA_one (t : Nat) (a : AV) (fr : List (Nat × AV)) : bindA [t] [a] fr = (t, a) :: fr := rfl
theorem T_fresh {P : Program} [Laid P] {x : Ctx} {n : Nat} {a : Code} {Q : AX → AS → Prop} {fr : List (Nat × AV)} {m : Mem} {c : Nat} {ds : List AD} (h : (∀ i, Young x.p c i → m i = none) → T P x n a ⟨fr, m, c, ds⟩ Q) : T P x n a ⟨fr, m, c, ds⟩ Q :=
  fun g a w hr => h hr.fresh g a w hr
theorem T_aft {P : Program} [Laid P] {x : Ctx} {n : Nat} {a : Code} {Q : AX → AS → Prop} {s : AS} (h : T P x n a s (after P x n Q [])) : T P x n a s Q := T_mono h fun _ _ h => h
/-- A row of strings: none, or its own. -/
def SRow (l : List Str) (v : AV) (L : List (Oid × AObj)) (sp : Oid → Prop) : Prop :=
  (l = [] ∧ v = .nilSl ∧ L = []) ∨ (¬ l = [] ∧ ∃ id, v = .sl id 1 l.length ∧ L = [(id, .arr 1 (l.map .str))] ∧ sp id)
theorem SRow.mono {l : List Str} {v : AV} {L : List (Oid × AObj)} {sp sp' : Oid → Prop} (h : SRow l v L sp) (hs : ∀ i, sp i → sp' i) : SRow l v L sp' := h.imp id fun ⟨a, i, b, c, d⟩ => ⟨a, i, b, c, hs i d⟩
theorem appendSeq_ok (gf : FuncId) (cap : List AV) (need : List (Oid × AObj)) (N : Nat) (S : Bool → List (List AV) → Prop) (hN : N ≤ 2000000000000) (p : Oid) (hnp : ∀ q ∈ need, ¬ Oid.under p q.1) (hna : ∀ q ∈ need, ∀ sz xs, ¬ q.2 = .arr sz xs)
    (hseq : ∀ p', Oid.under p p' → SeqND Tryz.prog gf cap p' need 1 (fun pre xs => pre.length < N ∧ ∃ h : Str, xs = [.str h]) S) :
    CallND Tryz.prog 156 [.nilSl, .fn (.func gf) [] cap] (Oid.under p) need (fun v u => ∃ l L', S true (l.map fun h => [.str h]) ∧ SRow l v L' (Oid.under p) ∧ u = sets L') (fun _ _ => False) := by
  refine callND_cons (by kernel_rfl) fun hcon => ?_
  refine fnND (n := 13) (rs := [.tmp 4]) Tryz.func156 rfl rfl (by decide) rfl rfl rfl ?_; rintro x rfl hrd hng
  have hnb : ∀ q ∈ need, ¬ q.1 = .sub 0 0 x.p := fun q hq e => hnp q hq (e ▸ Oid.under_sub (Oid.under_refl _))
  generalize hQ : DoneN Tryz.prog _ need _ _ = Q
  (try ((first | refine zn ?_ | refine ze ?_ | refine zk ?_); with_reducible (constructor; repeat constructor)); try refine zl ?_)
  refine K_ev nmd [] hng (by kernel_rfl) fun hf C S K hC1 hC hS hK => ?_; simp (disch := first | omega | assumption) only [go_sem, of_put_at]
  refine hK ?_; clear hK hS hC hC1 K S C hf
  (repeat (first | (refine K_ifT rfl rfl ?_) | (refine K_ifF rfl rfl ?_) | (refine K_ev nmd [] hng (by kernel_rfl) fun hf C S K hC1 hC hS hK => ?_; simp (disch := first | omega | assumption) only [go_sem]; refine hK ?_; clear hK hS hC hC1 K S C hf) | ((first | refine zn ?_ | refine ze ?_ | refine zk ?_); with_reducible (constructor; repeat constructor); try refine zl ?_)))
  refine T_rangeFunc (S := S) hrd hng (by decide) rfl rfl (hseq _ (Oid.under_sub (Oid.under_refl _))) ?_
    (fun jump pre L => jump = none ∧ ∃ (l : List Str) (v : AV) (L1 : List (Oid × AObj)), pre = l.map (fun h => [.str h]) ∧ SRow l v L1 (fun id => ¬ id = .sub 0 0 x.p) ∧ L = (.sub 0 0 x.p, .cells [v]) :: L1)
    [(.sub 0 0 x.p, .cells [.nilSl])] ⟨rfl, [], .nilSl, [], rfl, .inl ⟨rfl, rfl, rfl⟩, rfl⟩ ?_ ?_
    (fun _ xs L1 p' s => ∃ h : Str, xs = [.str h] ∧ F s.fr 5 = .str h ∧ F s.fr 2 = .ptr (.sub 0 0 x.p) 0 ∧ (∀ q, q ∈ L1 → s.mem q.1 = some q.2) ∧ s.ds = [] ∧ 0 < s.c ∧ ¬ p' = x.p) ?_ ?_ ?_ ?_
  · intro q hq
    rw [of_put_at, if_neg (hnb q hq)]; exact hcon q hq
  · intro q hq
    simp only [List.mem_singleton] at hq
    subst hq
    rw [of_put_at, if_pos rfl]
  · intro q hq q' hq' e
    simp only [List.mem_singleton] at hq
    subst hq
    exact hnb q' hq' e.symm
  · rintro y l0 pre xs L1 ⟨_, l, v, L2, rfl, hr, rfl⟩ _ ⟨hlen, h, rfl⟩ hyr hyg
    refine T_aft (T_fresh fun hf => ?_)
    replace hng := hyg
    have hfy := hf (.sub 0 0 y.p) ⟨0, 0, Nat.le_refl _, Oid.under_refl _⟩
    have hb : ¬ Oid.sub 0 0 y.p = .sub 0 0 x.p := fun e => by rw [e] at hfy; simp [Mem.of_cons_at] at hfy
    have hb2 : ¬ y.p = x.p := fun e => hb (by rw [e])
    generalize hrest : L2 = rest at hfy ⊢
    rw [Mem.of_cons_at, if_neg hb] at hfy
    have hdis : ∀ q ∈ L2, ¬ q.1 = .sub 0 0 x.p ∧ Mem.of L2 q.1 = some q.2 := by
      rcases hr with ⟨_, _, rfl⟩ | ⟨_, id, _, rfl, hid⟩
      · intro q hq; cases hq
      · intro q hq
        simp only [List.mem_singleton] at hq
        subst hq
        exact ⟨hid, by simp [Mem.of_cons_at]⟩
    refine K_ev nmd [] hng (by kernel_rfl) fun hf C S K hC1 hC hS hK => ?_; simp (disch := first | omega | assumption) only [go_sem, of_put_at, hb2, bindA_one]
    refine hK ?_; clear hK hS hC hC1 K S C hf
    refine K_nil ⟨rfl, h, rfl, rfl, rfl, ?_, rfl, by simp, hb2⟩
    refine app_mem (B := [(.sub 0 0 x.p, .cells [v])]) ?_ ?_
    · simp only [fa_cons, fa_nil, Mem.of_cons_at, Mem.of_nil_at, Mem.of_upds, Mem.of_putL, putLs, putL, List.cons_append, List.nil_append, List.append_nil, ↓reduceIte, eq_self, and_true, true_and, and_self, and_false, false_and, reduceCtorEq, Oid.sub.injEq, Nat.reduceEqDiff, of_put_at, hb2, AV.cells]
    · intro q hq
      subst hrest
      obtain ⟨a2, a3⟩ := hdis q hq
      simp only [fa_cons, fa_nil, Mem.of_cons_at, Mem.of_nil_at, Mem.of_upds, Mem.of_putL, putLs, putL, List.cons_append, List.nil_append, List.append_nil, ↓reduceIte, eq_self, and_true, true_and, and_self, and_false, false_and, reduceCtorEq, Oid.sub.injEq, Nat.reduceEqDiff, of_put_at, hb2, a2]
      exact a3
  · rintro y l0 pre xs L1 ⟨fr, m, c, ds⟩ ⟨_, l, v, L2, rfl, hr, rfl⟩ _ ⟨hlen, _, _⟩ hyr hyg ⟨h, rfl, h5, h2, hm, rfl, hc, hb2⟩
    simp only at h5 h2 hm hc
    refine T_aft (K_fr [(5, .str h), (2, .ptr (.sub 0 0 x.p) 0)] rfl (by simp [h5, h2]) (K_mem _ hm (T_fresh fun hf => ?_)))
    replace hng := hyg
    have hfy : ∀ j, Mem.of ((Oid.sub 0 0 x.p, AObj.cells [v]) :: L2) (.sub c j y.p) = none := fun j => hf _ ⟨c, j, Nat.le_refl _, Oid.under_refl _⟩
    clear hf
    have hb3 : ¬ x.p = y.p := fun e => hb2 e.symm
    rcases hr with ⟨rfl, rfl, rfl⟩ | ⟨hl, id, rfl, rfl, hid⟩
    · (repeat (first | (refine K_ifT rfl rfl ?_) | (refine K_ifF rfl rfl ?_) | (refine K_ev nmd [] hng (by kernel_rfl) fun hf C S K hC1 hC hS hK => ?_; simp (disch := first | omega | assumption) only [go_sem]; refine hK ?_; clear hK hS hC hC1 K S C hf) | ((first | refine zv ?_ | refine zw ?_ | refine zu ?_); with_reducible (constructor; repeat constructor); try refine zl ?_)))
      refine K_block ?_
      (repeat (first | (refine K_ifT rfl rfl ?_) | (refine K_ifF rfl rfl ?_) | (refine K_ev nmd [] hng (by kernel_rfl) fun hf C S K hC1 hC hS hK => ?_; simp (disch := first | omega | assumption) only [go_sem]; refine hK ?_; clear hK hS hC hC1 K S C hf) | ((first | refine zv ?_ | refine zw ?_ | refine zu ?_); with_reducible (constructor; repeat constructor); try refine zl ?_)))
      refine K_ev nmd [] hng (by kernel_rfl) fun hf C S K hC1 hC hS hK => ?_; simp (disch := first | omega | assumption) only [go_sem, of_put_at, hb2, hb3, gdR_T]
      refine hK ?_; clear hK hS hC hC1 K S C hf
      (try ((first | refine zn ?_ | refine ze ?_ | refine zk ?_); with_reducible (constructor; repeat constructor)); try refine zl ?_)
      refine K_nil ⟨[(.sub 0 0 x.p, .cells [.sl (.sub c 3 y.p) 1 1]), (.sub c 3 y.p, .arr 1 [.str h])], ⟨rfl, [h], _, _, rfl, .inr ⟨by simp, .sub c 3 y.p, rfl, rfl, fun e => by simp at e⟩, rfl⟩, ?_, ?_⟩
      · simp only [fa_cons, fa_nil, Mem.of_cons_at, Mem.of_nil_at, Mem.of_upds, Mem.of_putL, putLs, putL, List.cons_append, List.nil_append, List.append_nil, ↓reduceIte, eq_self, and_true, true_and, and_self, and_false, false_and, reduceCtorEq, Oid.sub.injEq, Nat.reduceEqDiff, hb2, hb3]
      · intro q hq
        simp only [List.mem_cons, List.not_mem_nil, or_false] at hq
        rcases hq with rfl | rfl
        · exact .inl ⟨_, List.mem_cons_self, rfl⟩
        · exact .inr (Oid.under_sub (Oid.under_refl _))
    · simp only [List.length_map] at hlen
      have hi1 : ¬ Oid.sub c 3 y.p = id := fun e => by have := hfy 3; rw [e] at this; simp only [Mem.of_cons_at, if_neg hid] at this; simp at this
      have hi2 : ¬ id = Oid.sub c 3 y.p := fun e => hi1 e.symm
      (repeat (first | (refine K_ifT rfl rfl ?_) | (refine K_ifF rfl rfl ?_) | (refine K_ev nmd [] hng (by kernel_rfl) fun hf C S K hC1 hC hS hK => ?_; simp (disch := first | omega | assumption) only [go_sem]; refine hK ?_; clear hK hS hC hC1 K S C hf) | ((first | refine zv ?_ | refine zw ?_ | refine zu ?_); with_reducible (constructor; repeat constructor); try refine zl ?_)))
      refine K_block ?_
      (repeat (first | (refine K_ifT rfl rfl ?_) | (refine K_ifF rfl rfl ?_) | (refine K_ev nmd [] hng (by kernel_rfl) fun hf C S K hC1 hC hS hK => ?_; simp (disch := first | omega | assumption) only [go_sem]; refine hK ?_; clear hK hS hC hC1 K S C hf) | ((first | refine zv ?_ | refine zw ?_ | refine zu ?_); with_reducible (constructor; repeat constructor); try refine zl ?_)))
      refine K_ev nmd [] hng (by kernel_rfl) fun hf C S K hC1 hC hS hK => ?_; simp (disch := first | omega | assumption) only [go_sem, of_put_at, hb2, hb3, hid, hi1, hi2]
      refine hK ?_; clear hK hS hC hC1 K S C hf
      (try ((first | refine zn ?_ | refine ze ?_ | refine zk ?_); with_reducible (constructor; repeat constructor)); try refine zl ?_)
      refine K_nil ⟨[(.sub 0 0 x.p, .cells [.sl (.sub c 3 y.p) 1 (l ++ [h]).length]), (.sub c 3 y.p, .arr 1 ((l ++ [h]).map .str))], ⟨rfl, l ++ [h], _, _, by simp, .inr ⟨by simp, .sub c 3 y.p, rfl, rfl, fun e => by simp at e⟩, rfl⟩, ?_, ?_⟩
      · simp only [fa_cons, fa_nil, Mem.of_cons_at, Mem.of_nil_at, Mem.of_upds, Mem.of_putL, putLs, putL, List.cons_append, List.nil_append, List.append_nil, ↓reduceIte, eq_self, and_true, true_and, and_self, and_false, false_and, reduceCtorEq, Oid.sub.injEq, Nat.reduceEqDiff, hb2, hb3, List.length_append, List.map_append, List.length_cons, List.length_nil, List.map_cons, List.map_nil]
      · intro q hq
        simp only [List.mem_cons, List.not_mem_nil, or_false] at hq
        rcases hq with rfl | rfl
        · exact .inl ⟨_, List.mem_cons_self, rfl⟩
        · exact .inr (Oid.under_sub (Oid.under_refl _))
  · rintro pre L' m' hS ⟨_, l, v, L2, rfl, hr, rfl⟩ hL' hd hold hnm
    have hmx := hL' _ List.mem_cons_self
    have hne : ∀ q ∈ need, m' q.1 = some q.2 := fun q hq => hold q.1 q.2 (by rw [of_put_at, if_neg (hnb q hq)]; exact hcon q hq) (by simp only [List.mem_singleton]; rintro q' rfl e; exact hnb q hq e.symm)
    refine K_mem ([(.sub 0 0 x.p, .cells [v]), (.sub (0 + 1 + 1) 0 x.p, .dfr)] ++ (L2 ++ need)) (app_mem (B := [(.sub 0 0 x.p, .cells [v]), (.sub (0 + 1 + 1) 0 x.p, .dfr)]) ?_ (app_mem (fun q hq => hL' q (List.mem_cons_of_mem _ hq)) hne)) ?_
    · intro q hq
      simp only [List.mem_cons, List.not_mem_nil, or_false] at hq
      rcases hq with rfl | rfl
      · exact hmx
      · exact hd
    have hnid : ∀ id xs, L2 = [(id, .arr 1 xs)] → (∀ q ∈ need, ¬ q.1 = id) ∧ ¬ id = .sub 2 0 x.p := fun id xs e => by
      have h1 := hL' (id, .arr 1 xs) (by rw [e]; exact List.mem_cons_of_mem _ List.mem_cons_self)
      simp only at h1
      refine ⟨fun q hq e1 => ?_, fun e1 => ?_⟩
      · have h2 := hne q hq
        rw [e1, h1, Option.some.injEq] at h2
        exact hna q hq _ _ h2.symm
      · rw [e1, hd] at h1; cases h1
    have hrow2 : SRow l v L2 (Oid.under x.p) := by
      rcases hr with hr | ⟨hl, id, rfl, rfl, hid⟩
      · exact .inl hr
      · refine .inr ⟨hl, id, rfl, rfl, ?_⟩
        rcases hnm _ (List.mem_cons_of_mem _ List.mem_cons_self) with ⟨q', h1, h2⟩ | ⟨q', h1, h2⟩ | h
        · exact absurd h2 ((hnid id _ rfl).1 q' h1)
        · simp only [List.mem_singleton] at h1
          subst h1
          exact absurd h2.symm hid
        · exact Oid.under_sub h
    have hin : ∀ q ∈ L2 ++ need, ¬ q.1 = .sub 0 0 x.p ∧ ¬ q.1 = .sub 2 0 x.p ∧ Mem.of (L2 ++ need) q.1 = some q.2 := by
      have hn2 : ∀ q ∈ need, ¬ q.1 = .sub 2 0 x.p := fun q hq e => hnp q hq (e ▸ Oid.under_sub (Oid.under_refl _))
      rcases hr with ⟨_, _, rfl⟩ | ⟨_, id, _, rfl, hid⟩
      · exact fun q hq => ⟨hnb q hq, hn2 q hq, hcon q hq⟩
      · intro q hq
        rcases List.mem_append.1 hq with hq | hq
        · simp only [List.mem_singleton] at hq
          subst hq
          exact ⟨hid, (hnid id _ rfl).2, by rw [List.cons_append, Mem.of_cons_at, if_pos rfl]⟩
        · exact ⟨hnb q hq, hn2 q hq, by rw [List.cons_append, Mem.of_cons_at, if_neg ((hnid id _ rfl).1 q hq)]; exact hcon q hq⟩
    generalize hrest : L2 ++ need = rest
    (repeat (first | (refine K_ifT rfl rfl ?_) | (refine K_ifF rfl rfl ?_) | (refine K_ev nmd [] hng (by kernel_rfl) fun hf C S K hC1 hC hS hK => ?_; simp (disch := first | omega | assumption) only [go_sem]; refine hK ?_; clear hK hS hC hC1 K S C hf) | ((first | refine zv ?_ | refine zw ?_ | refine zu ?_); with_reducible (constructor; repeat constructor); try refine zl ?_)))
    refine K_ret ?_
    subst hQ
    refine ⟨?_, _, sets L2, rfl, ⟨l, L2, hS, ?_, rfl⟩, ?_⟩
    · simp only [fa_cons, fa_nil, Mem.of_cons_at, Mem.of_nil_at, Mem.of_upds, Mem.of_putL, putLs, putL, List.cons_append, List.nil_append, List.append_nil, ↓reduceIte, eq_self, and_true, true_and, and_self, and_false, false_and, reduceCtorEq, Oid.sub.injEq, Nat.reduceEqDiff, of_put_at]
    · exact hrow2
    · intro i o h
      have : ∃ q ∈ L2 ++ need, q.1 = i ∧ q.2 = o := by
        by_cases hk : ∃ q ∈ sets L2, q.1 = i
        · obtain ⟨q', k1, k2, k3⟩ := upds_mem (m := Mem.of need) hk
          rw [k3] at h
          obtain ⟨q, h1, rfl⟩ := List.mem_map.1 k1
          exact ⟨q, List.mem_append_left _ h1, k2, Option.some.inj h⟩
        · rw [upds_nokey fun q hq e => hk ⟨q, hq, e⟩] at h
          obtain ⟨q, h1, h2, h3⟩ := Mem.of_mem h
          exact ⟨q, List.mem_append_right _ h1, h2, h3⟩
      obtain ⟨q, hq, rfl, rfl⟩ := this
      obtain ⟨a1, a2, a3⟩ := hin q hq
      show ((Mem.of ((Oid.sub 0 0 x.p, AObj.cells [v]) :: (Oid.sub 2 0 x.p, AObj.dfr) :: rest)).set (.sub 2 0 x.p) none) q.1 = some q.2
      subst hrest
      simp only [Mem.set, if_neg a2, Mem.of_cons_at, if_neg a1]
      exact a3
  · rintro pre L' m' cd _ ⟨h, _⟩
    cases h
theorem collect_ok (gf : FuncId) (cap : List AV) (need : List (Oid × AObj)) (N : Nat) (Sq : Bool → List (List AV) → Prop) (hN : N ≤ 2000000000000) (p : Oid) (hnp : ∀ q ∈ need, ¬ Oid.under p q.1) (hna : ∀ q ∈ need, ∀ sz xs, ¬ q.2 = .arr sz xs)
    (hseq : ∀ p', Oid.under p p' → SeqND Tryz.prog gf cap p' need 1 (fun pre xs => pre.length < N ∧ ∃ h : Str, xs = [.str h]) Sq) :
    CallND Tryz.prog 117 [.fn (.func gf) [] cap] (Oid.under p) need (fun v u => ∃ l L', Sq true (l.map fun h => [.str h]) ∧ SRow l v L' (Oid.under p) ∧ u = sets L') (fun _ _ => False) := by
  refine callND_cons (by kernel_rfl) fun hcon => ?_
  refine fnND (n := 5) (rs := [.tmp 2]) Tryz.func117 rfl rfl (by decide) rfl rfl rfl ?_; rintro x rfl hrd hng
  (try ((first | refine zn ?_ | refine ze ?_ | refine zk ?_); with_reducible (constructor; repeat constructor)); try refine zl ?_)
  (repeat (first | (refine K_ifT rfl rfl ?_) | (refine K_ifF rfl rfl ?_) | (refine K_ev nmd [] hng (by kernel_rfl) fun hf C S K hC1 hC hS hK => ?_; simp (disch := first | omega | assumption) only [go_sem]; refine hK ?_; clear hK hS hC hC1 K S C hf) | ((first | refine zn ?_ | refine ze ?_ | refine zk ?_); with_reducible (constructor; repeat constructor); try refine zl ?_)))
  refine K_ev nmd [] hng (by kernel_rfl) fun hf C S K hC1 hC hS hK => ?_; simp (disch := first | omega | assumption) only [go_sem]
  refine hC _ _ _ (appendSeq_ok gf cap need N Sq hN _ (fun q hq h => hnp q hq (Oid.under_sub h)) hna fun p' h => hseq p' (Oid.under_sub h)) hcon ?_ (fun _ _ h => h.elim)
  rintro val upd ⟨l, L', hSq, hr, rfl⟩
  simp (disch := first | omega | assumption) only [go_sem]
  refine hK ?_; clear hK hS hC hC1 K S C hf
  (try ((first | refine zn ?_ | refine ze ?_ | refine zk ?_); with_reducible (constructor; repeat constructor)); try refine zl ?_)
  refine K_ret (done_ret _ _ rfl ⟨l, L', hSq, hr.mono fun _ h => Oid.under_sub h, rfl⟩ ?_)
  intro i o h
  rw [Mem.of_upds] at h; exact h
theorem str_inj {a b : List Str} (e : a.map (fun h => [AV.str h]) = b.map fun h => [AV.str h]) : a = b := (List.map_inj_right (fun x y h => by simpa using h)).1 e
/-- Collected and sorted: one row. -/
theorem sorted_ok (gf : FuncId) (cap : List AV) (need : List (Oid × AObj)) (N : Nat) (l0 : List Str) (Sq : Bool → List (List AV) → Prop) (hN : N ≤ 2000000000000) (hl0 : l0.length ≤ N) (p : Oid) (hnp : ∀ q ∈ need, ¬ Oid.under p q.1) (hna : ∀ q ∈ need, ∀ sz xs, ¬ q.2 = .arr sz xs)
    (hseq : ∀ p', Oid.under p p' → SeqND Tryz.prog gf cap p' need 1 (fun pre xs => pre.length < N ∧ ∃ h : Str, xs = [.str h]) Sq)
    (hall : ∀ l : List Str, Sq true (l.map fun h => [.str h]) → l.Perm l0) :
    CallOK Tryz.prog 69 [.fn (.func gf) [] cap] (Oid.under p) ⟨need, .list 1 ((sortS l0).map .str), []⟩ := by
  refine (callND_cons (by kernel_rfl) fun hcon => ?_ : CallND Tryz.prog _ _ _ need (fun v u => v = _ ∧ u = []) (fun _ _ => False)).ok
  refine fnND (n := 9) (rs := [.tmp 2]) Tryz.func69 rfl rfl (by decide) rfl rfl rfl ?_; rintro x rfl hrd hng
  (repeat (first | (refine K_ifT rfl rfl ?_) | (refine K_ifF rfl rfl ?_) | (refine K_ev nmd [] hng (by kernel_rfl) fun hf C S K hC1 hC hS hK => ?_; simp (disch := first | omega | assumption) only [go_sem]; refine hK ?_; clear hK hS hC hC1 K S C hf) | ((first | refine zn ?_ | refine ze ?_ | refine zk ?_); with_reducible (constructor; repeat constructor); try refine zl ?_)))
  refine K_ev nmd [] hng (by kernel_rfl) fun hf C S K hC1 hC hS hK => ?_; simp (disch := first | omega | assumption) only [go_sem]
  refine hC _ _ _ (collect_ok gf cap need N Sq hN _ (fun q hq h => hnp q hq (Oid.under_sub h)) hna fun p' h => hseq p' (Oid.under_sub h)) hcon ?_ (fun _ _ h => h.elim)
  rintro val upd ⟨l, L', hSq, hr, rfl⟩
  have hp := hall l hSq
  have hse : sortS l = sortS l0 := sortS_perm_eq hp
  rcases hr with ⟨rfl, rfl, rfl⟩ | ⟨hl, id, rfl, rfl, hid⟩
  · simp (disch := first | omega | assumption) only [go_sem, sets, List.map_nil]
    refine hK ?_; clear hK hS hC hC1 K S C hf
    (repeat (first | (refine K_ifT rfl rfl ?_) | (refine K_ifF rfl rfl ?_) | (refine K_ev nmd [] hng (by kernel_rfl) fun hf C S K hC1 hC hS hK => ?_; simp (disch := first | omega | assumption) only [go_sem]; refine hK ?_; clear hK hS hC hC1 K S C hf) | ((first | refine zv ?_ | refine zw ?_ | refine zu ?_); with_reducible (constructor; repeat constructor); try refine zl ?_)))
    refine K_ev nmd [] hng (by kernel_rfl) fun hf C S K hC1 hC hS hK => ?_; simp (disch := first | omega | assumption) only [go_sem]
    refine hC1 _ (sortStr_nil _) (by simp (disch := first | omega | assumption) only [go_sem]) ?_
    simp (disch := first | omega | assumption) only [go_sem]
    refine hK ?_; clear hK hS hC hC1 K S C hf
    refine K_next ?_
    refine K_nilList 3 1 rfl ?_
    (repeat (first | (refine K_ifT rfl rfl ?_) | (refine K_ifF rfl rfl ?_) | (refine K_ev nmd [] hng (by kernel_rfl) fun hf C S K hC1 hC hS hK => ?_; simp (disch := first | omega | assumption) only [go_sem]; refine hK ?_; clear hK hS hC hC1 K S C hf) | ((first | refine zn ?_ | refine ze ?_ | refine zk ?_); with_reducible (constructor; repeat constructor); try refine zl ?_)))
    exact K_ret (done_ret (.list 1 ((sortS l0).map .str)) [] (by rw [← hse, show sortS [] = [] by simp [sortS]]; rfl) ⟨rfl, rfl⟩ fun _ _ h => h)
  · have hid2 := Oid.under_sub hid
    have hnid : ∀ q ∈ need, ¬ q.1 = id := fun q hq e => hnp q hq (e ▸ hid2)
    simp (disch := first | omega | assumption) only [go_sem, sets, List.map_cons, List.map_nil]
    refine hK ?_; clear hK hS hC hC1 K S C hf
    (repeat (first | (refine K_ifT rfl rfl ?_) | (refine K_ifF rfl rfl ?_) | (refine K_ev nmd [] hng (by kernel_rfl) fun hf C S K hC1 hC hS hK => ?_; simp (disch := first | omega | assumption) only [go_sem]; refine hK ?_; clear hK hS hC hC1 K S C hf) | ((first | refine zv ?_ | refine zw ?_ | refine zu ?_); with_reducible (constructor; repeat constructor); try refine zl ?_)))
    have hlen : l.length ≤ 2000000000000 := by rw [hp.length_eq]; omega
    refine K_ev nmd [] hng (by kernel_rfl) fun hf C S K hC1 hC hS hK => ?_; simp (disch := first | omega | assumption) only [go_sem]
    refine hC1 _ (sortStr_ok l hl (by omega) id _) (by simp (disch := first | omega | assumption) only [go_sem, of_put_at]) ?_
    simp (disch := first | omega | assumption) only [go_sem]
    refine hK ?_; clear hK hS hC hC1 K S C hf
    refine K_next ?_
    refine K_freeze id 1 ((sortS l).map .str) (by simp (disch := first | omega | assumption) only [go_sem, of_put_at]) ?_
    simp (disch := first | omega | assumption) only [go_sem, sortS_length]
    (repeat (first | (refine K_ifT rfl rfl ?_) | (refine K_ifF rfl rfl ?_) | (refine K_ev nmd [] hng (by kernel_rfl) fun hf C S K hC1 hC hS hK => ?_; simp (disch := first | omega | assumption) only [go_sem]; refine hK ?_; clear hK hS hC hC1 K S C hf) | ((first | refine zn ?_ | refine ze ?_ | refine zk ?_); with_reducible (constructor; repeat constructor); try refine zl ?_)))
    refine K_ret (done_ret (.list 1 ((sortS l0).map .str)) [] (by rw [← hse]; rfl) ⟨rfl, rfl⟩ fun i o h => ?_)
    have h' : Mem.of need i = some o := h
    have hi : ¬ i = id := fun e => by obtain ⟨q, h1, h2, h3⟩ := Mem.of_mem h'; exact hnid q h1 (h2.trans e)
    rw [of_put_at, if_neg hi, of_put_at, if_neg hi, of_put_at, if_neg hi]; exact h'
/-! the names below a place -/
def namesE (n : Str) (es : List ME) : List Str := es.filterMap fun e => restOf n (keyS e)
theorem below_ok (o : Oid) (n : Str) (p : Oid) (ho : ¬ Oid.under p o) : CallOK Tryz.prog 110 [.map o, .str n] (Oid.under p) ⟨[], .fn (.func 141) [] [.ptr (.sub 0 0 p) 0, .ptr (.sub 0 1 p) 0], [(.sub 0 0 p, some (.cells [.map o])), (.sub 0 1 p, some (.cells [.str n]))]⟩ := by
  refine fnOK (n := 6) (rs := [.tmp 4]) Tryz.func110 rfl rfl (by decide) rfl rfl rfl ?_; rintro x rfl hrd hng
  (repeat (first | (refine K_ifT rfl rfl ?_) | (refine K_ifF rfl rfl ?_) | (refine K_ev nmd [] hng (by kernel_rfl) fun hf C S K hC1 hC hS hK => ?_; simp (disch := first | omega | assumption) only [go_sem]; refine hK ?_; clear hK hS hC hC1 K S C hf) | ((first | refine zn ?_ | refine ze ?_ | refine zk ?_); with_reducible (constructor; repeat constructor); try refine zl ?_)))
  refine K_ret (done_ret _ _ rfl ⟨rfl, rfl⟩ ?_)
  intro i o' h
  rw [Mem.of_upds] at h
  exact h
theorem names_ok (o : Oid) (n : Str) (hln : n.length ≤ 140737488355000) (es : List ME) (clock : Nat) (hkl : ∀ e ∈ es, (keyS e).length ≤ 140737488355328) (hel : es.length ≤ 2000000000000) (p : Oid) (ho : ¬ Oid.under p o) :
    CallOK Tryz.prog 66 [.map o, .str n] (Oid.under p) ⟨[(o, .map [.ss] false es clock)], .list 1 ((sortS (namesE n es)).map .str), []⟩ := by
  refine fnOK (n := 9) (rs := [.tmp 4]) Tryz.func66 rfl rfl (by decide) rfl rfl rfl ?_; rintro x rfl hrd hng
  have hu12 : ∀ j, Oid.under (.sub 1 2 x.p) (.sub 0 j (.sub 1 2 x.p)) := fun j => Oid.under_sub (Oid.under_refl _)
  have hapt : ∀ j p', Oid.under (.sub 1 3 x.p) p' → ¬ Oid.under p' (.sub 0 j (.sub 1 2 x.p)) := fun j p' h h2 => by
    have := (Oid.apart (Oid.under_trans h h2) (hu12 j)).2
    omega
  (try ((first | refine zn ?_ | refine ze ?_ | refine zk ?_); with_reducible (constructor; repeat constructor)); try refine zl ?_)
  (repeat (first | (refine K_ifT rfl rfl ?_) | (refine K_ifF rfl rfl ?_) | (refine K_ev nmd [] hng (by kernel_rfl) fun hf C S K hC1 hC hS hK => ?_; simp (disch := first | omega | assumption) only [go_sem]; refine hK ?_; clear hK hS hC hC1 K S C hf) | ((first | refine zn ?_ | refine ze ?_ | refine zk ?_); with_reducible (constructor; repeat constructor); try refine zl ?_)))
  refine K_ev nmd [] hng (by kernel_rfl) fun hf C S K hC1 hC hS hK => ?_; simp (disch := first | omega | assumption) only [go_sem]
  refine hC1 _ (below_ok o n _ (fun h => ho (Oid.under_sub h))) (by simp (disch := first | omega | assumption) only [go_sem]) ?_
  simp (disch := first | omega | assumption) only [go_sem]
  refine hC1 _ (sorted_ok 141 [.ptr (.sub 0 0 (.sub 1 2 x.p)) 0, .ptr (.sub 0 1 (.sub 1 2 x.p)) 0] [(.sub 0 0 (.sub 1 2 x.p), .cells [.map o]), (.sub 0 1 (.sub 1 2 x.p), .cells [.str n]), (o, .map [.ss] false es clock)] es.length (namesE n es) _ hel (List.length_filterMap_le _ _) _ ?_ ?_
    (fun p' hp => below_seq (.sub 0 0 (.sub 1 2 x.p)) (.sub 0 1 (.sub 1 2 x.p)) o n hln es clock hkl p' ?_ ?_ ?_ ?_ ?_ ?_) ?_) ?_ ?_
  · intro q hq
    simp only [List.mem_cons, List.not_mem_nil, or_false] at hq
    rcases hq with rfl | rfl | rfl
    · exact hapt 0 _ (Oid.under_refl _)
    · exact hapt 1 _ (Oid.under_refl _)
    · exact fun h => ho (Oid.under_sub h)
  · intro q hq
    simp only [List.mem_cons, List.not_mem_nil, or_false] at hq
    rcases hq with rfl | rfl | rfl <;> (intro sz xs e; cases e)
  · exact fun e => ho (e ▸ Oid.under_sub (hu12 0))
  · exact fun e => ho (e ▸ Oid.under_sub (hu12 1))
  · simp
  · exact hapt 0 _ hp
  · exact hapt 1 _ hp
  · exact fun h => ho (Oid.under_sub (Oid.under_trans hp h))
  · intro l hl
    obtain ⟨U, h1, h2⟩ := hl rfl
    rw [str_inj h2]
    exact h1.filterMap _
  · have h0 := fun j => Oid.not_under_sub (fun h => ho (Oid.under_sub h) : ¬ Oid.under (.sub 1 2 x.p) o) 0 j
    have h1 := fun j => Oid.sub_not_under (fun h => ho (Oid.under_sub h) : ¬ Oid.under (.sub 1 2 x.p) o) 0 j
    simp only [fa_cons, fa_nil, Mem.of_cons_at, Mem.of_nil_at, Mem.of_upds, Mem.of_putL, putLs, putL, List.cons_append, List.nil_append, List.append_nil, ↓reduceIte, eq_self, and_true, true_and, and_self, and_false, false_and, reduceCtorEq, Oid.sub.injEq, Nat.reduceEqDiff, of_put_at, h0, h1]
  · simp (disch := first | omega | assumption) only [go_sem]
    refine hK ?_; clear hK hS hC hC1 K S C hf
    (repeat (first | (refine K_ifT rfl rfl ?_) | (refine K_ifF rfl rfl ?_) | (refine K_ev nmd [] hng (by kernel_rfl) fun hf C S K hC1 hC hS hK => ?_; simp (disch := first | omega | assumption) only [go_sem]; refine hK ?_; clear hK hS hC hC1 K S C hf) | ((first | refine zn ?_ | refine ze ?_ | refine zk ?_); with_reducible (constructor; repeat constructor); try refine zl ?_)))
    refine K_ret (done_ret _ _ rfl ⟨rfl, rfl⟩ fun i o' h => ?_)
    have h' : Mem.of [(o, AObj.map [.ss] false es clock)] i = some o' := h
    rw [Mem.of_cons_at] at h'
    split at h'
    · rename_i e
      subst e
      have h0 := fun j => Oid.not_under_sub (fun h => ho (Oid.under_sub h) : ¬ Oid.under (.sub 1 2 x.p) i) 0 j
      have h1 := fun j => Oid.sub_not_under (fun h => ho (Oid.under_sub h) : ¬ Oid.under (.sub 1 2 x.p) i) 0 j
      simp only [fa_cons, fa_nil, Mem.of_cons_at, Mem.of_nil_at, Mem.of_upds, Mem.of_putL, putLs, putL, List.cons_append, List.nil_append, List.append_nil, ↓reduceIte, eq_self, and_true, true_and, and_self, and_false, false_and, reduceCtorEq, Oid.sub.injEq, Nat.reduceEqDiff, of_put_at, h0, h1]
      exact h'
    · cases h'
end Go.Proofs.YtaecbmbecofijaaGreatDoor
namespace Go.Proofs.YtaecbmbecofijaaGreatDoor
open Go Go.Ab
theorem digits_len : ∀ (k n : Nat), n < 10 ^ (k + 1) → (Lib.decDigits n).length ≤ k + 1
  | 0, n, h => by rw [digits_small (by simpa using h)]; simp
  | k + 1, n, h => by
    by_cases hs : n < 10
    · rw [digits_small hs]; simp
    · rw [digits_big hs, List.length_append]
      have := digits_len k (n / 10) (by rw [Nat.pow_succ] at h; omega)
      simp only [List.length_cons, List.length_nil]; omega
theorem digits_no (n : Nat) : ∀ b, b ∈ Lib.decDigits n → ¬ b = 58 := by
  have one : ∀ d, d < 10 → ¬ UInt8.ofNat (48 + d) = 58 := fun d hd e => by
    have h1 := congrArg UInt8.toNat e
    rw [UInt8.toNat_ofNat'] at h1
    have : (58 : UInt8).toNat = 58 := rfl
    omega
  induction n using Nat.strongRecOn with
  | ind n ih =>
    intro b hb
    by_cases h : n < 10
    · rw [digits_small h, List.mem_singleton] at hb; subst hb; exact one n h
    · rw [digits_big h] at hb
      rcases List.mem_append.1 hb with hb | hb
      · exact ih _ (by omega) b hb
      · rw [List.mem_singleton] at hb; subst hb; exact one _ (by omega)
theorem idx_at (u : Str) : ∀ t : Str, (∀ b, b ∈ t → ¬ b = 58) → Lib.indexByte (t ++ 58 :: u) 58 = t.length
  | [], _ => by simp [Lib.indexByte]
  | b :: t, h => by
    have hb : (b == 58) = false := by simpa using h b (by simp)
    have ih := idx_at u t fun b hb => h b (by simp [hb])
    simp only [List.cons_append, Lib.indexByte, hb, Bool.false_eq_true, if_false, ih, beq_iff_eq]
    rw [if_neg (by omega), List.length_cons]; omega
theorem refN_digits {n : Nat} (h : n < 1000000000) : refN (Lib.decDigits n) = n := by
  have hl := digits_len 8 n h
  rw [refN, if_neg, dec_digits]
  rintro (h | h | ⟨h, h'⟩)
  · exact digits_ne n h
  · omega
  · have := digits_head n h
    subst this
    rw [digits_small (by decide)] at h'
    simp at h'
theorem decT_chunk (s t : Str) (hs : s.length < 1000000000) : decT (chunk s ++ t) = (decT t).map (s :: ·) := by
  have he : chunk s ++ t = Lib.decDigits s.length ++ 58 :: (s ++ 44 :: t) := by
    rw [chunk, Lib.itoa_nonneg]; simp only [List.append_assoc, List.singleton_append, List.cons_append, List.nil_append]
  have hi := idx_at (s ++ 44 :: t) _ (digits_no s.length)
  have hne : ¬ chunk s ++ t = [] := fun e => by rw [he] at e; simp at e
  have hcol : colon (chunk s ++ t) = (Lib.decDigits s.length).length := by rw [colon, he, hi]; rfl
  have hhead : headS (chunk s ++ t) = Lib.decDigits s.length := by rw [headS, hcol, he, List.take_left']; rfl
  have hrest : restS (chunk s ++ t) = s ++ 44 :: t := by
    rw [restS, hcol, he, ← List.drop_drop, List.drop_left']; · rfl
    · rfl
  obtain ⟨n1, n2⟩ := num_ref (headS (chunk s ++ t))
  rw [hhead, refN_digits hs] at n1 n2
  have hg : numG (headS (chunk s ++ t)) = true := by rw [hhead, n1]; simp
  have ha : atoiN (headS (chunk s ++ t)) = s.length := by rw [hhead]; exact n2 (by rw [← hhead]; exact hg)
  have hsz : sizeS (chunk s ++ t) = s.length := by rw [sizeS, ha]; rfl
  have hok : okS (chunk s ++ t) := by
    refine ⟨by rw [he, hi]; omega, hg, by rw [ha, hrest]; simp; omega, ?_⟩
    rw [hsz, hrest]; simp
  rw [decT_some hne hok, hsz, hrest]
  have h1 : (s ++ 44 :: t).take s.length = s := by rw [List.take_left']; rfl
  have h2 : (s ++ 44 :: t).drop (s.length + 1) = t := by
    rw [← List.drop_drop, List.drop_left']; · rfl
    · rfl
  rw [h1, h2]
theorem decT_enc : ∀ l : List Str, (∀ s, s ∈ l → s.length < 1000000000) → decT (encT l) = some l
  | [], _ => rfl
  | s :: l, h => by
    rw [encT, decT_chunk s _ (h s (by simp)), decT_enc l fun s hs => h s (by simp [hs])]; rfl
theorem ent_val (b : Bits) (h1 : 1 ≤ b.k ∧ b.k ≤ 3) (h2 : 0 ≤ b.m ∧ b.m ≤ 7) (h3 : ¬ (b.k = 2 ∧ ¬ b.l = [])) (h4 : b.l.length < 1000000000) : entT (valT b) = (b, 0) := by
  obtain ⟨k, m, l⟩ := b
  simp only at h1 h2 h3 h4
  obtain ⟨k, rfl⟩ := Int.eq_ofNat_of_zero_le (by omega : 0 ≤ k)
  obtain ⟨m, rfl⟩ := Int.eq_ofNat_of_zero_le h2.1
  have hv : valT ⟨k, m, l⟩ = encT [Lib.decDigits k, Lib.decDigits m, l] := by
    rw [valT, if_neg (by simp only; omega), Lib.itoa_nonneg, Lib.itoa_nonneg]
  have hne : ¬ valT ⟨k, m, l⟩ = [] := fun e => by
    rw [hv] at e
    have := congrArg List.length e
    have hc := chunk_len (Lib.decDigits k)
    simp only [encT, List.length_append, List.length_nil] at this
    omega
  have hd : decT (valT ⟨k, m, l⟩) = some [Lib.decDigits k, Lib.decDigits m, l] := by
    rw [hv]
    refine decT_enc _ fun s hs => ?_
    have d1 := digits_len 0 k (by omega)
    have d2 := digits_len 0 m (by omega)
    simp only [List.mem_cons, List.not_mem_nil, or_false] at hs
    rcases hs with rfl | rfl | rfl <;> omega
  have hk := refN_digits (n := k) (by omega)
  have hm := refN_digits (n := m) (by omega)
  have hC : entC (valT ⟨k, m, l⟩) (Lib.decDigits k) (Lib.decDigits m) l = true := entC_ref.2 ⟨by rw [hk]; omega, by rw [hk]; omega, by rw [hm]; omega, by rw [hm]; omega, by rw [hk]; exact h3, by rw [hk, hm]⟩
  rw [entT, if_neg hne, hd]
  simp only
  rw [ent_ref, if_pos hC, hk, hm]
end Go.Proofs.YtaecbmbecofijaaGreatDoor
namespace Go.Proofs.YtaecbmbecofijaaGreatDoor
open Go Go.Ab
set_option maxRecDepth 20000
set_option maxHeartbeats 4000000
theorem storeNames_ok (st t : Oid) (es : List ME) (clock : Nat) (hts : ¬ t = st) (p : Oid) (hs : ¬ Oid.under p st) (ht : ¬ Oid.under p t) (n : Str) (hln : n.length ≤ 140737488355000) (hkl : ∀ e ∈ es, (keyS e).length ≤ 140737488355328) (hel : es.length ≤ 2000000000000) :
    CallOK Tryz.prog 25 [.ptr st 0, .str n] (Oid.under p) ⟨[(st, .cells [.map t, .nilPtr]), (t, .map [.ss] false es clock)], .list 1 ((sortS (namesE n es)).map .str), []⟩ := by
  have hs' : ∀ c i, ¬ Oid.under (.sub c i p) st := fun c i h => hs (Oid.under_sub h)
  have ht' : ∀ c i, ¬ Oid.under (.sub c i p) t := fun c i h => ht (Oid.under_sub h)
  refine fnOK (n := 15) (rs := [.tmp 4]) Tryz.func25 rfl rfl (by decide) rfl rfl rfl ?_; rintro x rfl hrd hng
  (repeat (first | (refine K_ifT rfl rfl ?_) | (refine K_ifF rfl rfl ?_) | (refine K_ev nmd [] hng (by kernel_rfl) fun hf C S K hC1 hC hS hK => ?_; simp (disch := first | omega | assumption) only [go_sem, Oid.not_under_sub ht, Oid.sub_not_under ht, Oid.not_under_sub hs, Oid.sub_not_under hs, hts]; refine hK ?_; clear hK hS hC hC1 K S C hf) | ((first | refine zn ?_ | refine ze ?_ | refine zk ?_); with_reducible (constructor; repeat constructor); try refine zl ?_)))
  refine K_ev nmd [] hng (by kernel_rfl) fun hf C S K hC1 hC hS hK => ?_; simp (disch := first | omega | assumption) only [go_sem, Oid.not_under_sub ht, Oid.sub_not_under ht, Oid.not_under_sub hs, Oid.sub_not_under hs, hts]
  refine hC1 _ (read_ok st t _ (hs' _ _) n true) (by simp (disch := first | omega | assumption) only [go_sem, Oid.not_under_sub ht, Oid.sub_not_under ht, Oid.not_under_sub hs, Oid.sub_not_under hs, hts]) ?_
  simp (disch := first | omega | assumption) only [go_sem, Oid.not_under_sub ht, Oid.sub_not_under ht, Oid.not_under_sub hs, Oid.sub_not_under hs, hts]
  refine hK ?_; clear hK hS hC hC1 K S C hf
  (try ((first | refine zn ?_ | refine ze ?_ | refine zk ?_); with_reducible (constructor; repeat constructor)); try refine zl ?_)
  refine K_ev nmd [] hng (by kernel_rfl) fun hf C S K hC1 hC hS hK => ?_; simp (disch := first | omega | assumption) only [go_sem, Oid.not_under_sub ht, Oid.sub_not_under ht, Oid.not_under_sub hs, Oid.sub_not_under hs, hts]
  refine hC1 _ (names_ok t n hln es clock hkl hel _ (ht' _ _)) (by simp (disch := first | omega | assumption) only [go_sem, Oid.not_under_sub ht, Oid.sub_not_under ht, Oid.not_under_sub hs, Oid.sub_not_under hs, hts]) ?_
  simp (disch := first | omega | assumption) only [go_sem, Oid.not_under_sub ht, Oid.sub_not_under ht, Oid.not_under_sub hs, Oid.sub_not_under hs, hts]
  refine hK ?_; clear hK hS hC hC1 K S C hf
  (repeat (first | (refine K_ifT rfl rfl ?_) | (refine K_ifF rfl rfl ?_) | (refine K_ev nmd [] hng (by kernel_rfl) fun hf C S K hC1 hC hS hK => ?_; simp (disch := first | omega | assumption) only [go_sem, Oid.not_under_sub ht, Oid.sub_not_under ht, Oid.not_under_sub hs, Oid.sub_not_under hs, hts]; refine hK ?_; clear hK hS hC hC1 K S C hf) | ((first | refine zn ?_ | refine ze ?_ | refine zk ?_); with_reducible (constructor; repeat constructor); try refine zl ?_)))
  refine K_ret (done_upd rfl ?_ ?_)
  all_goals simp only [List.mem_cons, List.not_mem_nil, or_false, forall_eq_or_imp, forall_eq, Option.some.injEq, forall_eq', Mem.of_cons_at, eq_self, if_true, ↓reduceIte, reduceCtorEq, implies_true, not_true_eq_false, false_imp_iff, true_and, and_true, false_and, and_false, imp_self, Oid.not_under_sub ht, Oid.sub_not_under ht, Oid.not_under_sub hs, Oid.sub_not_under hs, hts]
theorem under_nw {c' j a i c : Nat} {p : Oid} (hj : ¬ j = 0) : ¬ Oid.under (.sub c' j p) (.sub a i (.sub c 0 p)) := by
  have hself : ¬ Oid.under (.sub c' j p) p := fun h => by have := Oid.under_depth h; simp [Oid.depth] at this; omega
  simp only [Oid.under, Oid.sub.injEq, hj, false_and, and_false, hself, or_false, Oid.self_ne_sub, false_or, not_false_eq_true]
theorem val_tx1 : valT ⟨1, 6, [120]⟩ = [49, 58, 49, 44, 49, 58, 54, 44, 49, 58, 120, 44] := by kernel_rfl
theorem ent_tx1 : entT [49, 58, 49, 44, 49, 58, 54, 44, 49, 58, 120, 44] = (⟨1, 6, [120]⟩, 0) := by
  rw [← val_tx1]
  exact ent_val _ ⟨by decide, by decide⟩ ⟨by decide, by decide⟩ (by simp) (by simp)
theorem ent_x : entT [120] = (Bits.no, 20) := by kernel_rfl
theorem sortS_one (a : Str) : sortS [a] = [a] := by simp [sortS]
theorem awake_ok (p : Oid) (hp : p.mono = false) : CallOK Tryz.prog 14 [] (Oid.under p) ⟨[], .bool true, []⟩ := by
  refine fnOK (n := 54) (rs := [.tmp 0]) Tryz.func14 rfl rfl (by decide) rfl rfl rfl ?_; rintro x rfl hrd hng
  have hts : ¬ Oid.sub 1 0 (.sub 1 0 x.p) = Oid.sub 1 2 (.sub 1 0 x.p) := by simp
  have hput := fun p hs ht => put_ok (.sub 1 2 (.sub 1 0 x.p)) (.sub 1 0 (.sub 1 0 x.p)) [] 0 hts p hs ht [47, 97] ⟨1, 6, [120]⟩
  rw [show putE [47, 97] ⟨1, 6, [120]⟩ [] 0 = [⟨.str [47, 97], .agg [.int .i64 1, .int .i64 6, .str [120]], 0⟩] from rfl, show putC [47, 97] ⟨1, 6, [120]⟩ [] 0 = 1 from rfl] at hput
  have he1 := fun p hp => entry_ok [49, 58, 49, 44, 49, 58, 54, 44, 49, 58, 120, 44] (by decide) p hp
  rw [ent_tx1] at he1
  have he2 := fun p hp => entry_ok [120] (by decide) p hp
  rw [ent_x] at he2
  have ha1 := fun p hs ht => storeAt_ok (.sub 1 2 (.sub 1 0 x.p)) (.sub 1 0 (.sub 1 0 x.p)) [⟨.str [47, 97], .agg [.int .i64 1, .int .i64 6, .str [120]], 0⟩] 1 hts p hs ht [47, 97] ⟨1, 6, [120]⟩ rfl
  have ha2 := fun p hs ht => storeAt_ok (.sub 1 2 (.sub 1 0 x.p)) (.sub 1 0 (.sub 1 0 x.p)) [⟨.str [47, 97], .agg [.int .i64 1, .int .i64 6, .str [120]], 0⟩] 1 hts p hs ht [] Bits.no rfl
  have hn := fun p hs ht => storeNames_ok (.sub 1 2 (.sub 1 0 x.p)) (.sub 1 0 (.sub 1 0 x.p)) [⟨.str [47, 97], .agg [.int .i64 1, .int .i64 6, .str [120]], 0⟩] 1 hts p hs ht [] (by simp) (by simp [keyS]) (by simp)
  rw [show namesE [] [⟨.str [47, 97], .agg [.int .i64 1, .int .i64 6, .str [120]], 0⟩] = [[97]] by kernel_rfl, sortS_one] at hn
  have hsm := fun p => same_ok [[97]] [[97]] (by simp) (by simp) p
  have hv := fun p hp => value_ok ⟨1, 6, [120]⟩ ⟨⟨by decide, by decide⟩, ⟨by decide, by decide⟩, by decide⟩ p hp
  rw [val_tx1] at hv
  simp only [Bits.av, Bits.no, List.map_cons, List.map_nil, if_true, reduceCtorEq, if_false, decide_true] at hput he1 he2 ha1 ha2 hn hsm hv
  (repeat (first | (refine K_ifT rfl rfl ?_) | (refine K_ifF rfl rfl ?_) | (refine K_ev nmd [] hng (by kernel_rfl) fun hf C S K hC1 hC hS hK => ?_; simp (disch := first | omega | assumption) only [go_sem]; (repeat ((first | refine hC1 _ (new_ok _) (by simp (disch := first | omega | assumption) only [go_sem]) ?_ | refine hC1 _ (hput _ (under_nw (by decide)) (under_nw (by decide))) (by simp (disch := first | omega | assumption) only [go_sem]) ?_ | refine hC1 _ (he1 _ (mono_sub' rfl hp)) (by simp (disch := first | omega | assumption) only [go_sem]) ?_ | refine hC1 _ (he2 _ (mono_sub' rfl hp)) (by simp (disch := first | omega | assumption) only [go_sem]) ?_); simp (disch := first | omega | assumption) only [go_sem])); refine hK ?_; clear hK hS hC hC1 K S C hf) | ((first | refine zn ?_ | refine ze ?_ | refine zk ?_); with_reducible (constructor; repeat constructor); try refine zl ?_)))
  refine K_ev nmd [(4, 24), (10, 30), (16, 36), (20, 40), (25, 45), (29, 49)] hng (by kernel_rfl) fun hf C S K hC1 hC hS hK => ?_; simp (disch := first | omega | assumption) only [go_sem, Int.reduceEq, Int.reduceNe, ne_eq, not_true_eq_false, not_false_eq_true, decide_true, decide_false]
  (repeat' (first | (refine evG_split (fun hv => ?_) (fun hv => ?_) <;> (try simp only [zb1, zb2, zb3, zb4, zb5] at hv) <;> simp (disch := first | omega | assumption) only [go_sem, hv, Int.reduceEq, Int.reduceNe, ne_eq, not_true_eq_false, not_false_eq_true, decide_true, decide_false]) | (refine hC1 _ (ha1 _ (under_nw (by decide)) (under_nw (by decide))) (by simp (disch := first | omega | assumption) only [go_sem, Int.reduceEq, Int.reduceNe, ne_eq, not_true_eq_false, not_false_eq_true, decide_true, decide_false]) ?_; simp (disch := first | omega | assumption) only [go_sem, Int.reduceEq, Int.reduceNe, ne_eq, not_true_eq_false, not_false_eq_true, decide_true, decide_false]) | (refine hC1 _ (ha2 _ (under_nw (by decide)) (under_nw (by decide))) (by simp (disch := first | omega | assumption) only [go_sem, Int.reduceEq, Int.reduceNe, ne_eq, not_true_eq_false, not_false_eq_true, decide_true, decide_false]) ?_; simp (disch := first | omega | assumption) only [go_sem, Int.reduceEq, Int.reduceNe, ne_eq, not_true_eq_false, not_false_eq_true, decide_true, decide_false]) | (refine hC1 _ (hn _ (under_nw (by decide)) (under_nw (by decide))) (by simp (disch := first | omega | assumption) only [go_sem, Int.reduceEq, Int.reduceNe, ne_eq, not_true_eq_false, not_false_eq_true, decide_true, decide_false]) ?_; simp (disch := first | omega | assumption) only [go_sem, Int.reduceEq, Int.reduceNe, ne_eq, not_true_eq_false, not_false_eq_true, decide_true, decide_false]) | (refine hC1 _ (hsm _) (by simp (disch := first | omega | assumption) only [go_sem, Int.reduceEq, Int.reduceNe, ne_eq, not_true_eq_false, not_false_eq_true, decide_true, decide_false]) ?_; simp (disch := first | omega | assumption) only [go_sem, Int.reduceEq, Int.reduceNe, ne_eq, not_true_eq_false, not_false_eq_true, decide_true, decide_false]) | (refine hC1 _ (hv _ (mono_sub' rfl hp)) (by simp (disch := first | omega | assumption) only [go_sem, Int.reduceEq, Int.reduceNe, ne_eq, not_true_eq_false, not_false_eq_true, decide_true, decide_false]) ?_; simp (disch := first | omega | assumption) only [go_sem, Int.reduceEq, Int.reduceNe, ne_eq, not_true_eq_false, not_false_eq_true, decide_true, decide_false]) | (refine hK ?_; clear hK hS hC hC1 K S C hf)))
  (repeat (first | (refine K_ifT rfl rfl ?_) | (refine K_ifF rfl rfl ?_) | (refine K_ev nmd [] hng (by kernel_rfl) fun hf C S K hC1 hC hS hK => ?_; simp (disch := first | omega | assumption) only [go_sem]; refine hK ?_; clear hK hS hC hC1 K S C hf) | ((first | refine zn ?_ | refine ze ?_ | refine zk ?_); with_reducible (constructor; repeat constructor); try refine zl ?_)))
  exact K_ret (done1 rfl)
end Go.Proofs.YtaecbmbecofijaaGreatDoor
namespace Go.Ab
open Go.ChangeShapes Go.WideShapes
section
variable {β : Type}
/-- A law's row that lists variables: its witness, what its arguments read as, what the list gives, its contract. -/
theorem law_lifted_row {C : Checked} [Laid C.prog] {os : Os} {f : FuncId} {fn : Func} {s : ChangeSpec} {F : Stop.Interp} {conds : List PathCond} {laid : List (String × DataW Unit)} {tb : TypeId} {H : Type} {enc : TypeId × Value → H} {ts : List TypeId} {B : β → List AV} {W : β → Prop}
    (own : ownKnob C.prog.godebug = none) (started : os.Started) (noInit : C.prog.inits.idxOf? f = none) (hfn : C.prog.funcs[f]? = some fn)
    (witness : ∃ (w : World) (tape : Tape) (i : Input), w.os = os ∧ (w.forCall tape i).Shaped C.prog ∧ i.vars = [] ∧ Input.okWide C.prog (w.forCall tape i) .any w.heap.size f i ∧
      (OpenSpec.ofChange s).preRow enc C.prog fn conds false laid (w.forCall tape i).memory i.args ∧ ({} : Assume).holds C.prog (lone (Frame.enter C.prog f i.args .normal) [] (w.forCall tape i)))
    (hl : laidOutB C.prog = true) (hz : ∀ t e, t < C.prog.types.size → C.prog.underlying t = some (.slice e) → 0 < C.prog.cellsOf e) (hp : fn.params.toList = ts) (hrB : (ts.all fun t => C.prog.readableRec t && decide (t < C.prog.types.size)) = true)
    (hrt : fn.resultTypes = #[tb]) (htb : C.prog.underlying tb = some .bool) (hv : s.vars = []) (hs : ∀ ds : List (DataW H), ds.length = ts.length → s.fn H ds = { results := [.lit (.bool true)], args := ds })
    (hA : RdA C.prog ts B W) (hc : ∀ b, W b → CallOK C.prog f (B b) (Oid.under (.root C.prog.globals.size)) ⟨[], .bool true, []⟩) (hLaid : ∀ W : World, laidMetH C.prog laid W → W.ShapedOpen C.prog → Laid.facts C.prog (ghAll C.prog.globals.size W)) :
    ReturnsInHanded {} C os f .any ((OpenSpec.ofChange s).preRow enc C.prog fn conds false laid) (((OpenSpec.ofChange s).at F).post enc C.prog fn false true false false) := by
  have hr : ∀ t ∈ ts, C.prog.readableRec t = true ∧ t < C.prog.types.size := fun t ht => by
    have := List.all_eq_true.1 hrB t ht
    simpa using this
  refine returnsInHanded_of_row own started noInit hfn witness ?_
  intro w base args ds gs before hval hW _ _ hsz hlaid hopen _
  have hW : DataW.Whole enc C.prog fn.params.toList s.vars false w args.toList ds gs before := hW
  have hsz : (DataW.weightsEach C.prog (fn.params.toList ++ s.plain.varTypes C.prog) (ds ++ gs)).all (· ≤ reachBytes) = true := hsz
  have hW' := hW
  obtain ⟨p, q, hT, hV, rfl, hfz, hnd⟩ := hW
  rw [hv] at hV
  obtain ⟨rfl, rfl⟩ := trodVars_none hV
  have hlen := trodAll_length hT
  rw [hp] at hT hlen
  have hvt : s.plain.varTypes C.prog = [] := by
    have : s.plain.vars = [] := hv
    unfold DataSpec.varTypes; rw [this]; rfl
  rw [hvt, List.append_nil, List.append_nil, List.all_eq_true, hp] at hsz
  obtain ⟨b, k1, k2, k3⟩ := hA.rd (ng := C.prog.globals.size) (fun j t v ht hv' => hval j t v (by rw [← Array.getElem?_toList, hp]; exact ht) (by rw [← Array.getElem?_toList]; exact hv')) hT fun n hn => by simpa using hsz n hn
  refine law_post hl hz (by rw [hp]; exact hr) hrt htb hv hW' (hs ds hlen) (avs := B b) ⟨by simpa using k2, fun j hj => ?_⟩ (hc b k1) (hLaid _ hlaid hopen)
  have := k3 j (by rw [k2]; exact hj)
  simpa [List.getD_eq_getElem?_getD, Array.getD_eq_getD_getElem?] using this
end
/-! ### what a list gives -/
theorem ghAll_table {ng : Nat} {P : Program} {W : World} {name : String} {k : IntKind} {zs : List Int} {g : Nat} (hg : P.globalNamed name = some g) (h : Lib.TabIs P W name k zs) :
    (ghAll ng W).row g = some zs.length ∧ ∀ j z, zs[j]? = some z → (ghAll ng W).com g j = some (.int k z) := by
  simp only [Lib.TabIs, World.var?, hg, Option.bind_some] at h
  cases hw : W.heap[g]? with
  | none => rw [hw] at h; cases h
  | some o =>
    rw [hw] at h
    cases o with
    | cells c t fz =>
      simp only [Option.some.injEq] at h
      subst h
      refine ⟨by simp [ghAll, hw], fun j z hz => ghAll_com ?_ rfl⟩
      simp [World.cell?, hw, hz]
    | _ => cases h
/-- A variable that holds an error. -/
theorem ghAll_err {ng : Nat} {P : Program} {W : World} {name nm : String} {d : DataW Unit} {g : Nat} {ti : TypeId} {ms : Array (String × TypeId)} (hg : P.globalNamed name = some g) (hty : (P.globals[g]?).map (·.type) = some ti) (hi : P.underlying ti = some (.interface ms))
    {l : List (String × DataW Unit)} (hm : (name, .iface nm d) ∈ l) (h : laidMet P l W) : ∃ v, (ghAll ng W).com g 0 = some v ∧ (v = .nilIface ∨ ∃ t p, v = .iface t p) := by
  obtain ⟨ps, hl, _, _⟩ := h
  have key : ∀ {l : List (String × DataW Unit)} {ps : List MemPlace}, DataW.LaidVars P W l ps → (name, .iface nm d) ∈ l → ∃ t p, W.cell? ⟨g, 0, none⟩ = some (.iface t p) := by
    intro l
    induction l with
    | nil => intro ps _ hm; cases hm
    | cons x r ih =>
      obtain ⟨n, e⟩ := x
      intro ps hl hm
      obtain ⟨g', t, cs, fuel, p, q, h1, h2, h3, h4, h5, _⟩ := hl
      rcases List.mem_cons.1 hm with hm | hm
      · simp only [Prod.mk.injEq] at hm
        obtain ⟨rfl, rfl⟩ := hm
        rw [hg] at h1; simp only [Option.some.injEq] at h1; subst h1
        rw [hty] at h2; simp only [Option.some.injEq] at h2; subst h2
        obtain ⟨_, u, v, h6, _, _⟩ := iface_of_trod hi h4
        simp only [World.var?, hg, Option.bind_some] at h3
        cases hw : W.heap[g]? with
        | none => rw [hw] at h3; cases h3
        | some o =>
          rw [hw] at h3
          cases o with
          | cells c t' fz =>
            simp only [Option.some.injEq] at h3
            subst h3
            refine ⟨u, v, ?_⟩
            have h7 : c[0]? = some (.iface u v) := by rw [← Array.getElem?_toList, h6]; rfl
            simp [World.cell?, hw, h7]
          | _ => cases h3
      · exact ih h5 hm
  obtain ⟨t, p, hc⟩ := key hl hm
  exact ⟨_, ghAll_com hc rfl, .inr ⟨t, p, rfl⟩⟩
/-- A variable that holds a table. -/
theorem tab_of_mem {P : Program} {W : World} {name : String} {k : IntKind} {zs : List Int} {g : Nat} {t e : TypeId} {n : Nat} (hg : P.globalNamed name = some g) (hty : (P.globals[g]?).map (·.type) = some t) (ht : P.underlying t = some (.array n e)) (he : P.underlying e = some (.int k)) (hce : P.cellsOf e = 1) (hct : P.cellsOf t = n)
    {l : List (String × DataW Unit)} (hm : (name, Lib.tabData k zs) ∈ l) (h : laidMet P l W) : Lib.TabIs P W name k zs := by
  obtain ⟨ps, hl, h1, h2⟩ := h
  clear h1 h2
  induction l generalizing ps with
  | nil => cases hm
  | cons x r ih =>
    obtain ⟨n', d⟩ := x
    obtain ⟨g', t', cs, fuel, p, q, h1, h2, h3, h4, h5, _⟩ := hl
    rcases List.mem_cons.1 hm with hm | hm
    · simp only [Prod.mk.injEq] at hm
      obtain ⟨rfl, rfl⟩ := hm
      rw [hg] at h1; simp only [Option.some.injEq] at h1; subst h1
      rw [hty] at h2; simp only [Option.some.injEq] at h2; subst h2
      have := Lib.cells_of_tab ht he hce hct h4
      show W.var? P name = _
      rw [h3, ← this]
    · exact ih hm q h5
end Go.Ab
namespace Go.Proofs.YtaecbmbecofijaaGreatDoor
open Go Go.Ab Go.ChangeShapes Go.WideShapes Go.RowKit
set_option maxRecDepth 100000
/-- The list of the rows. -/
def LL : List (String × DataW Unit) := [("math/bits.deBruijn32tab", Rows.laid_math_bits_deBruijn32tab), ("math/bits.deBruijn64tab", Rows.laid_math_bits_deBruijn64tab), ("internal/strconv.uint64pow10", Rows.laid_internal_strconv_uint64pow10), ("strconv.ErrRange", Rows.laid_strconv_ErrRange), ("strconv.ErrSyntax", Rows.laid_strconv_ErrSyntax)]
def setC (c : Array Value) : Obj → Obj
  | .cells _ t fz => .cells c t fz
  | o => o
def laidHeap (h : Array Obj) : Array Obj := (((((h.modify 4 (setC #[.int .u8 0, .int .u8 1, .int .u8 28, .int .u8 2, .int .u8 29, .int .u8 14, .int .u8 24, .int .u8 3, .int .u8 30, .int .u8 22, .int .u8 20, .int .u8 15, .int .u8 25, .int .u8 17, .int .u8 4, .int .u8 8, .int .u8 31, .int .u8 27, .int .u8 13, .int .u8 23, .int .u8 21, .int .u8 19, .int .u8 16, .int .u8 7, .int .u8 26, .int .u8 12, .int .u8 18, .int .u8 6, .int .u8 11, .int .u8 5, .int .u8 10, .int .u8 9])).modify 5 (setC #[.int .u8 0, .int .u8 1, .int .u8 56, .int .u8 2, .int .u8 57, .int .u8 49, .int .u8 28, .int .u8 3, .int .u8 61, .int .u8 58, .int .u8 42, .int .u8 50, .int .u8 38, .int .u8 29, .int .u8 17, .int .u8 4, .int .u8 62, .int .u8 47, .int .u8 59, .int .u8 36, .int .u8 45, .int .u8 43, .int .u8 51, .int .u8 22, .int .u8 53, .int .u8 39, .int .u8 33, .int .u8 30, .int .u8 24, .int .u8 18, .int .u8 12, .int .u8 5, .int .u8 63, .int .u8 55, .int .u8 48, .int .u8 27, .int .u8 60, .int .u8 41, .int .u8 37, .int .u8 16, .int .u8 46, .int .u8 35, .int .u8 44, .int .u8 21, .int .u8 52, .int .u8 32, .int .u8 23, .int .u8 11, .int .u8 54, .int .u8 26, .int .u8 40, .int .u8 15, .int .u8 34, .int .u8 20, .int .u8 31, .int .u8 10, .int .u8 25, .int .u8 14, .int .u8 19, .int .u8 9, .int .u8 13, .int .u8 8, .int .u8 7, .int .u8 6])).modify 3 (setC #[.int .u64 1, .int .u64 10, .int .u64 100, .int .u64 1000, .int .u64 10000, .int .u64 100000, .int .u64 1000000, .int .u64 10000000, .int .u64 100000000, .int .u64 1000000000, .int .u64 10000000000, .int .u64 100000000000, .int .u64 1000000000000, .int .u64 10000000000000, .int .u64 100000000000000, .int .u64 1000000000000000, .int .u64 10000000000000000, .int .u64 100000000000000000, .int .u64 1000000000000000000, .int .u64 10000000000000000000])).modify 2 (setC #[.iface 242 (.pointer (some ⟨13, 0, none⟩))])).modify 1 (setC #[.iface 242 (.pointer (some ⟨14, 0, none⟩))])) ++ #[.cells #[.string ⟨#[118, 97, 108, 117, 101, 32, 111, 117, 116, 32, 111, 102, 32, 114, 97, 110, 103, 101]⟩] 244 (0, 0), .cells #[.string ⟨#[105, 110, 118, 97, 108, 105, 100, 32, 115, 121, 110, 116, 97, 120]⟩] 244 (0, 0)]
noncomputable def laidWorld (os : Os) : World := { World.holding Tryz.prog os ⟨#[], #[], []⟩ with heap := laidHeap (World.holding Tryz.prog os ⟨#[], #[], []⟩).heap }
theorem laid_met (os : Os) (args : Array Value) : laidMet Tryz.prog LL ((laidWorld os).forCall (fun _ _ => 0) ⟨#[], args, []⟩).memory :=
  laidMet_of_run' 8 (by kernel_rfl) (by kernel_rfl)
theorem laid_h {W : World} (h : laidMetH Tryz.prog LL W) : laidMet Tryz.prog LL W := h
end Go.Proofs.YtaecbmbecofijaaGreatDoor
namespace Go.Proofs.YtaecbmbecofijaaGreatDoor
open Go Go.Ab
set_option maxRecDepth 100000
instance laidChecked : Laid Tryz.checked.prog := laidHere
theorem own : ownKnob Tryz.prog.godebug = none := by kernel_rfl
theorem laidOut : laidOutB Tryz.prog = true := by kernel_rfl
theorem full : ∀ t e, t < Tryz.prog.types.size → Tryz.prog.underlying t = some (.slice e) → 0 < Tryz.prog.cellsOf e := slices_full_of _ (by kernel_rfl)
theorem laid_facts {W : World} (h : laidMetH Tryz.prog LL W) (ho : W.ShapedOpen Tryz.prog) : Laid.facts Tryz.prog (ghAll Tryz.prog.globals.size W) := by
  have h' := laid_h h
  have ht : Lib.TabIs Tryz.prog W "internal/strconv.uint64pow10" .u64 Lib.pow10Tab :=
    tab_of_mem (g := 3) (t := 234) (e := 186) (n := 20) (by kernel_rfl) (by kernel_rfl) (by kernel_rfl) (by kernel_rfl) (by kernel_rfl) (by kernel_rfl) (l := LL) (List.mem_cons_of_mem _ (List.mem_cons_of_mem _ List.mem_cons_self)) h'
  have hn : Tryz.prog.globalNamed "internal/strconv.uint64pow10" = some 3 := by kernel_rfl
  obtain ⟨t1, t2⟩ := ghAll_table (ng := Tryz.prog.globals.size) hn ht
  obtain ⟨m, hm⟩ := cell_of_shapedOpen_int (P := Tryz.prog) (g := 0) (zero := #[.int .i64 0]) (t := 3) ho (of_decide_eq_true (by kernel_rfl)) (by kernel_rfl) rfl (by kernel_rfl) (by kernel_rfl) Tryz.underlying3
  refine ⟨t1, t2, ?_, ?_, m, ghAll_com hm rfl⟩
  · exact ghAll_err (P := Tryz.prog) (name := "strconv.ErrSyntax") (ti := 166) (by kernel_rfl) (by kernel_rfl) Tryz.underlying166 (l := LL) (List.mem_cons_of_mem _ (List.mem_cons_of_mem _ (List.mem_cons_of_mem _ (List.mem_cons_of_mem _ List.mem_cons_self)))) h'
  · exact ghAll_err (P := Tryz.prog) (name := "strconv.ErrRange") (ti := 166) (by kernel_rfl) (by kernel_rfl) Tryz.underlying166 (l := LL) (List.mem_cons_of_mem _ (List.mem_cons_of_mem _ (List.mem_cons_of_mem _ List.mem_cons_self))) h'
end Go.Proofs.YtaecbmbecofijaaGreatDoor
namespace Go.Ab
section
variable {P : Program} [Laid P] {x : Ctx} {n : Nat} {Q : AX → AS → Prop} {fr : List (Nat × AV)} {m : Mem} {c : Nat} {ds : List AD} {ks : List Pc}
/-- An object's cells, by what they say less of. -/
theorem MemRel.cells {x : Ctx} {g : Gh} {m : Mem} {w : World} (h : MemRel x g m w) {i : Oid} {vs ws : List AV} (hi : m i = some (.cells vs)) (hw : AVles vs ws) : MemRel x g (m.set i (some (.cells ws))) w := by
  obtain ⟨b, hb, _, _, cc, t, fz, h1, h2, h3, h4⟩ := h.obj i _ hi
  exact h.turn hi hb rfl rfl ⟨rfl, Nat.le_refl _⟩ (Nat.le_refl _) (fun _ _ _ => rfl) (fun r hr => h.rows b r hr) (fun _ t' fz' h9 => ⟨_, _, h9⟩)
    ⟨cc, t, fz, h1, h2.trans hw.length, h3, fun j hj => hw.at j _ _ (h4 j (by rw [hw.length]; exact hj))⟩
/-- What may be said instead, of the same world. -/
def Gho (x : Ctx) (n : Nat) (R : AS → Prop) (s : AS) : Prop := ∀ g a w, Rel x n g s a w → ∃ g' s', Rel x n g' s' a w ∧ R s'
theorem Gho.now {R : AS → Prop} {s : AS} (h : R s) : Gho x n R s := fun g _ _ hr => ⟨g, s, hr, h⟩
theorem Gho.step {R : AS → Prop} {s s' : AS} (hg : ∀ g a w, Rel x n g s a w → ∃ g', Rel x n g' s' a w) (h : Gho x n R s') : Gho x n R s := fun g a w hr => let ⟨g', hr'⟩ := hg g a w hr; h g' a w hr'
theorem T_gho {b : Code} {R : AS → Prop} {s : AS} (h : Gho x n R s) (h2 : ∀ s, R s → T P x n b s Q) : T P x n b s Q := fun g a w hr => let ⟨g', _, hr', hR⟩ := h g a w hr; h2 _ hR g' a w hr'
theorem Rel.cells {g : Gh} {a : Act} {w : World} (hr : Rel x n g ⟨fr, m, c, ds⟩ a w) (i : Oid) (vs ws : List AV) (hi : m i = some (.cells vs)) (hw : AVles vs ws) : ∃ g', Rel x n g' ⟨fr, m.set i (some (.cells ws)), c, ds⟩ a w :=
  ⟨g, hr.mr.cells hi hw, hr.tm, hr.df, hr.fr, hr.young⟩
theorem K_cells {a : Code} (i : Oid) (vs ws : List AV) (hi : m i = some (.cells vs)) (hw : AVles vs ws) (h : T P x n a ⟨fr, m.set i (some (.cells ws)), c, ds⟩ Q) : T P x n a ⟨fr, m, c, ds⟩ Q :=
  T_ghost (s := ⟨fr, m, c, ds⟩) ⟨fr, m.set i (some (.cells ws)), c, ds⟩ (fun _ _ _ hr => hr.cells i vs ws hi hw) h
theorem G_cells {R : AS → Prop} (i : Oid) (vs ws : List AV) (hi : m i = some (.cells vs)) (hw : AVles vs ws) (h : Gho x n R ⟨fr, m.set i (some (.cells ws)), c, ds⟩) : Gho x n R ⟨fr, m, c, ds⟩ :=
  Gho.step (s := ⟨fr, m, c, ds⟩) (s' := ⟨fr, m.set i (some (.cells ws)), c, ds⟩) (fun _ _ _ hr => hr.cells i vs ws hi hw) h
/-- A row is fixed for good. -/
theorem Rel.freeze {g : Gh} {a : Act} {w : World} (hr : Rel x n g ⟨fr, m, c, ds⟩ a w) (i : Oid) (sz : Nat) (xs : List AV) (hi : m i = some (.arr sz xs)) :
    ∃ g', Rel x n g' ⟨frz i sz xs fr, m.set i none, c, ds⟩ a w ∧ g.le g' ∧ g'.loc = g.loc ∧ ∀ v u, VR g v u → VR g' (frzV i sz xs v) u := by
  obtain ⟨g', h1, h2, h3, h4⟩ := hr.mr.freeze hi
  have key : ∀ v u, VR g v u → VR g' (frzV i sz xs v) u := fun v u hv => by
    unfold frzV
    split
    · split
      · rename_i e
        obtain ⟨rfl, rfl, rfl⟩ := e
        have := h4 _ _ hv (Nat.le_refl _)
        rwa [List.take_length] at this
      · exact hv.mono h1
    · exact hv.mono h1
  exact ⟨g', ⟨h3, hr.tm, hr.df.mono h1, fun t ht => by rw [F_frz]; exact key _ _ (hr.fr t ht), fun k hk => by rw [h2]; exact hr.young k hk⟩, h1, by funext k; exact h2 k, key⟩
/-- Cells, some of which say a row that is fixed. -/
inductive Frz (i : Oid) (sz : Nat) (xs : List AV) : List AV → List AV → Prop
  | nil : Frz i sz xs [] []
  | keep {v : AV} {vs ws : List AV} (h : Frz i sz xs vs ws) : Frz i sz xs (v :: vs) (v :: ws)
  | turn {n : Nat} {vs ws : List AV} (hn : n = xs.length) (h : Frz i sz xs vs ws) : Frz i sz xs (.sl i sz n :: vs) (.list sz xs :: ws)
theorem Frz.at {i : Oid} {sz : Nat} {xs vs ws : List AV} (h : Frz i sz xs vs ws) : vs.length = ws.length ∧ ∀ j, ws.getD j .undef = vs.getD j .undef ∨ ws.getD j .undef = frzV i sz xs (vs.getD j .undef) := by
  induction h with
  | nil => exact ⟨rfl, fun _ => .inl rfl⟩
  | keep _ ih =>
    refine ⟨by simp [ih.1], fun j => ?_⟩
    cases j with
    | zero => exact .inl rfl
    | succ j => simpa using ih.2 j
  | turn hn _ ih =>
    refine ⟨by simp [ih.1], fun j => ?_⟩
    cases j with
    | zero => right; simp [frzV, hn]
    | succ j => simpa using ih.2 j
/-- .. and so is what an object says of it. -/
theorem Rel.freezeM {g : Gh} {a : Act} {w : World} (hr : Rel x n g ⟨fr, m, c, ds⟩ a w) (i j : Oid) (sz : Nat) (xs vs ws : List AV) (hi : m i = some (.arr sz xs)) (hj : m j = some (.cells vs)) (hij : ¬ j = i) (hw : Frz i sz xs vs ws) :
    ∃ g', Rel x n g' ⟨frz i sz xs fr, (m.set i none).set j (some (.cells ws)), c, ds⟩ a w := by
  obtain ⟨g', hr', h1, h2, key⟩ := hr.freeze i sz xs hi
  refine ⟨g', ?_, hr'.tm, hr'.df, hr'.fr, hr'.young⟩
  obtain ⟨b', hb, _, _, cc, t, fz, k1, k2, k3, k4⟩ := hr.mr.obj j _ hj
  have hj' : (m.set i none) j = some (.cells vs) := by simp only [Mem.set, if_neg hij]; exact hj
  have h3 := hr'.mr
  refine h3.turn hj' (by rw [h2]; exact hb) rfl rfl ⟨rfl, Nat.le_refl _⟩ (Nat.le_refl _) (fun _ _ _ => rfl) (fun r hr' => h3.rows b' r hr') (fun _ t' fz' h9 => ⟨_, _, h9⟩)
    ⟨cc, t, fz, k1, k2.trans hw.at.1, k3, fun q hq => ?_⟩
  have k5 := k4 q (by rw [hw.at.1]; exact hq)
  rcases hw.at.2 q with e | e <;> rw [e]
  · exact k5.mono h1
  · exact key _ _ k5
theorem G_freezeM {R : AS → Prop} (i j : Oid) (sz : Nat) (xs vs ws : List AV) (hi : m i = some (.arr sz xs)) (hj : m j = some (.cells vs)) (hij : ¬ j = i) (hw : Frz i sz xs vs ws) (h : Gho x n R ⟨frz i sz xs fr, (m.set i none).set j (some (.cells ws)), c, ds⟩) : Gho x n R ⟨fr, m, c, ds⟩ :=
  Gho.step (s := ⟨fr, m, c, ds⟩) (s' := ⟨frz i sz xs fr, (m.set i none).set j (some (.cells ws)), c, ds⟩) (fun _ _ _ hr => hr.freezeM i j sz xs vs ws hi hj hij hw) h
theorem G_freeze {R : AS → Prop} (i : Oid) (sz : Nat) (xs : List AV) (hi : m i = some (.arr sz xs)) (h : Gho x n R ⟨frz i sz xs fr, m.set i none, c, ds⟩) : Gho x n R ⟨fr, m, c, ds⟩ :=
  Gho.step (s := ⟨fr, m, c, ds⟩) (s' := ⟨frz i sz xs fr, m.set i none, c, ds⟩) (fun _ _ _ hr => let ⟨g', h', _⟩ := hr.freeze i sz xs hi; ⟨g', h'⟩) h
/-- A cut behind a piece; before it a row may be fixed. -/
def CutG (P : Program) (x : Ctx) (n : Nat) (Q : AX → AS → Prop) (ks : List Pc) (ts : List Nat) (R : AS → Prop) : AX → AS → Prop
  | .normal, s => Gho x n (fun s => ∃ m', (∀ i o, m' i = some o → s.mem i = some o) ∧ R ⟨keepF ts s.fr, m', s.c, s.ds⟩) s
  | e, s => after P x n Q ks e s
theorem K_cutG {a b : Code} {s : AS} (ts : List Nat) (R : AS → Prop) (h : T P x n a s (after P x n (CutG P x n Q ks ts R) [])) (h2 : ∀ s, R s → T P x n b s (after P x n Q ks)) : T P x n a s (after P x n Q (.code b :: ks)) :=
  T_mono h fun e s h => by
    cases e with
    | normal =>
      refine T_gho h fun s ⟨m', h1, h3⟩ => ?_
      obtain ⟨fr', m1, c', ds'⟩ := s
      refine T_forget (s := ⟨fr', m1, c', ds'⟩) (keepF ts fr') (fun t _ => F_keepF ts fr' t) ?_
      exact T_drop (s := ⟨keepF ts fr', m1, c', ds'⟩) m' h1 (h2 _ h3)
    | _ => exact h
theorem K_cutGN {ts : List Nat} {R : AS → Prop} (h : Gho x n (fun s => ∃ m', (∀ i o, m' i = some o → s.mem i = some o) ∧ R ⟨keepF ts s.fr, m', s.c, s.ds⟩) ⟨fr, m, c, ds⟩) : after P x n (CutG P x n Q ks ts R) [] .normal ⟨fr, m, c, ds⟩ := h
/-- A body's end before which a row may be fixed. -/
def GEnd (x : Ctx) (n : Nat) (Q : AX → AS → Prop) : AX → AS → Prop
  | .panic v, s => Q (.panic v) s
  | e, s => Gho x n (Q e) s
theorem T_gend {a : Code} {s : AS} (h : T P x n a s (after P x n (GEnd x n Q) [])) : T P x n a s (after P x n Q []) := fun g b w hr =>
  wpIn_mono (h g b w hr) fun e b' w' ⟨g', ex, s', h1, h2, h3⟩ => by
    cases ex with
    | panic v => exact ⟨g', .panic v, s', h1, h2, h3⟩
    | normal => obtain ⟨g2, s2, k1, k2⟩ := h3 g' b' w' h1; exact ⟨g2, .normal, s2, k1, (by cases e <;> exact h2), k2⟩
    | ret => obtain ⟨g2, s2, k1, k2⟩ := h3 g' b' w' h1; exact ⟨g2, .ret, s2, k1, (by cases e <;> exact h2), k2⟩
    | exit i => obtain ⟨g2, s2, k1, k2⟩ := h3 g' b' w' h1; exact ⟨g2, .exit i, s2, k1, (by cases e <;> exact h2), k2⟩
end
theorem AVle.nilList (sz : Nat) : AVle .nilSl (.list sz []) := fun _ _ h => by rw [h.nilSl_inv]; exact .listNil _
theorem AVles.refl : ∀ l : List AV, AVles l l
  | [] => .nil
  | _ :: l => .cons (.refl _) (AVles.refl l)
end Go.Ab
namespace Go.Proofs.YtaecbmbecofijaaGreatDoor
open Go Go.Ab
abbrev PL := List (Str × Bits)
/-! the order of texts -/
theorem ltS_cons (a b : UInt8) (x y : Str) : ltS (a :: x) (b :: y) = true ↔ a.toNat < b.toNat ∨ (a.toNat = b.toNat ∧ ltS x y = true) := by
  simp only [ltS, Op.bytesLess, Bool.or_eq_true, Bool.and_eq_true, decide_eq_true_eq, beq_iff_eq, UInt8.lt_iff_toNat_lt, ← UInt8.toNat_inj]
theorem ltS_trans : ∀ a b c : Str, ltS a b = true → ltS b c = true → ltS a c = true
  | [], _, [], _, h => by cases ‹Str› <;> simp [ltS, Op.bytesLess] at h
  | [], _, _ :: _, _, _ => rfl
  | _ :: _, [], _, h, _ => by simp [ltS, Op.bytesLess] at h
  | _ :: _, _ :: _, [], _, h => by simp [ltS, Op.bytesLess] at h
  | a :: x, b :: y, c :: z, h1, h2 => by
    rw [ltS_cons] at h1 h2 ⊢
    rcases h1 with h1 | ⟨h1, h3⟩ <;> rcases h2 with h2 | ⟨h2, h4⟩
    · exact .inl (by omega)
    · exact .inl (by omega)
    · exact .inl (by omega)
    · exact .inr ⟨by omega, ltS_trans x y z h3 h4⟩
theorem ltS_irr : ∀ a : Str, ltS a a = false
  | [] => rfl
  | a :: x => by
    have := ltS_irr x
    rw [Bool.eq_false_iff] at this ⊢
    intro h
    rw [ltS_cons] at h
    rcases h with h | ⟨_, h⟩
    · omega
    · exact this h
theorem ltS_tot : ∀ a b : Str, ltS a b = false → ltS b a = false → a = b
  | [], [], _, _ => rfl
  | [], _ :: _, h, _ => by simp [ltS, Op.bytesLess] at h
  | _ :: _, [], _, h => by simp [ltS, Op.bytesLess] at h
  | a :: x, b :: y, h1, h2 => by
    rw [Bool.eq_false_iff] at h1 h2
    have h3 := fun h => h1 ((ltS_cons a b x y).2 h)
    have h4 := fun h => h2 ((ltS_cons b a y x).2 h)
    have hab : a.toNat = b.toNat := by
      rcases Nat.lt_trichotomy a.toNat b.toNat with h | h | h
      · exact absurd (.inl h) h3
      · exact h
      · exact absurd (.inl h) h4
    have := ltS_tot x y (by rw [Bool.eq_false_iff]; exact fun h => h3 (.inr ⟨hab, h⟩)) (by rw [Bool.eq_false_iff]; exact fun h => h4 (.inr ⟨hab.symm, h⟩))
    rw [this, UInt8.toNat_inj.1 hab]
theorem ltS_app : ∀ (p a b : Str), ltS (p ++ a) (p ++ b) = ltS a b
  | [], _, _ => rfl
  | c :: p, a, b => by
    have ih := ltS_app p a b
    rw [Bool.eq_iff_iff, List.cons_append, List.cons_append, ltS_cons, ih]
    constructor
    · rintro (h | ⟨_, h⟩)
      · omega
      · exact h
    · exact fun h => .inr ⟨rfl, h⟩
theorem ltS_lt : ∀ {a b : Str}, ltS a b = true → a < b
  | [], [], h => by simp [ltS, Op.bytesLess] at h
  | [], _ :: _, _ => by simp
  | _ :: _, [], h => by simp [ltS, Op.bytesLess] at h
  | a :: x, b :: y, h => by
    rw [ltS_cons] at h
    rw [List.cons_lt_cons_iff, UInt8.lt_iff_toNat_lt, ← UInt8.toNat_inj]
    exact h.imp id fun ⟨h1, h2⟩ => ⟨h1, ltS_lt h2⟩
def ltB (a b : Str) : Prop := ltS a b = true
instance : DecidableRel ltB := fun a b => inferInstanceAs (Decidable (ltS a b = true))
theorem ordB : Ord ltB where
  irr a h := by rw [ltB, ltS_irr] at h; cases h
  tr := ltS_trans
  tot a b h hn := by
    cases h2 : ltS b a with
    | true => exact h2
    | false => exact absurd (ltS_tot a b (Bool.eq_false_iff.2 h) h2) hn
/-! what is where -/
def getP (L : PL) (n : Str) : Bits := if n = [] then ⟨2, 7, []⟩ else (lookG n L).getD Bits.no
def putP (n : Str) (b : Bits) (L : PL) : PL := if n = [] then L else insG ltB n (if b.k = 0 then none else some b) L
def namesP (L : PL) (n : Str) : List Str := L.filterMap fun q => restOf n q.1
def MapP (es : List ME) (L : PL) : Prop := MapG AV.str Bits.av es L
theorem encS : EncOK AV.str := sameK_str
theorem mapP_new : MapP [] [] := mapG_new
theorem mapP_val {es : List ME} {L : PL} (h : MapP es L) (n : Str) : valE (.str n) (.agg [.int .i64 0, .int .i64 0, .str []]) es = ((lookG n L).getD Bits.no).av := by
  rw [mapG_val encS h]
  cases lookG n L <;> rfl
theorem mapP_put {es : List ME} {L : PL} (h : MapP es L) (hs : SortG ltB L) (n : Str) (b : Bits) (c : Nat) : MapP (putE n b es c) (putP n b L) := by
  unfold putE putP
  split
  · exact h
  · split
    · exact mapG_del encS h n ((insG_filter ordB n none hs).trans (.refl _))
    · exact mapG_set encS h n b c ((insG_filter ordB n (some b) hs).trans (.refl _))
theorem putP_sort {L : PL} (hs : SortG ltB L) (n : Str) (b : Bits) : SortG ltB (putP n b L) := by
  unfold putP
  split
  · exact hs
  · exact insG_sort ordB _ _ hs
/-! the names below a place -/
theorem preT_split {k p : Str} (h : preT k p = true) : k = p ++ k.drop p.length := by
  simp only [preT, Bool.and_eq_true, decide_eq_true_eq] at h
  have := List.take_append_drop p.length k
  rw [h.2] at this
  exact this.symm
theorem restOf_some {n k r : Str} (h : restOf n k = some r) : k = (n ++ [47]) ++ r := by
  unfold restOf at h
  split at h
  · rename_i hc
    simp only [Option.some.injEq] at h
    have := preT_split hc.1
    rw [← h]
    simpa using this
  · cases h
theorem namesP_le {L : PL} (hs : SortG ltB L) (n : Str) : (namesP L n).Pairwise (· ≤ ·) := by
  unfold namesP
  rw [List.pairwise_filterMap]
  refine hs.imp fun {a b} h r hr r' hr' => ?_
  rw [ltB, restOf_some hr, restOf_some hr', ltS_app] at h
  exact List.le_of_lt (ltS_lt h)
theorem namesE_eq {es : List ME} {L : PL} (h : MapP es L) (hs : SortG ltB L) (n : Str) : sortS (namesE n es) = namesP L n := by
  refine sortS_eq ?_ (namesP_le hs n)
  obtain ⟨E, rfl, h2, _⟩ := h
  have h3 : namesE n (E.map (entG AV.str Bits.av)) = (E.map prj).filterMap fun q => restOf n q.1 := by
    unfold namesE
    rw [List.filterMap_map, List.filterMap_map]
    rfl
  rw [h3]
  exact h2.filterMap _
/-! sizes -/
/-- No more, no longer than any machine holds. -/
structure POk (L : PL) : Prop where
  len : L.length ≤ 1000000
  key : ∀ q ∈ L, q.1.length ≤ 1000000
  val : ∀ q ∈ L, q.2.ok
theorem mapP_len {es : List ME} {L : PL} (h : MapP es L) : es.length = L.length := by
  obtain ⟨E, rfl, h2, _⟩ := h
  rw [List.length_map, ← h2.length_eq, List.length_map]
theorem mapP_key {es : List ME} {L : PL} (h : MapP es L) (ho : POk L) : ∀ e ∈ es, (keyS e).length ≤ 1000000 := by
  obtain ⟨E, rfl, h2, _⟩ := h
  intro e he
  obtain ⟨q, h3, rfl⟩ := List.mem_map.1 he
  exact ho.key (prj q) (h2.mem_iff.1 (List.mem_map_of_mem h3))
theorem namesP_mem {L : PL} (ho : POk L) {n r : Str} (h : r ∈ namesP L n) : r.length ≤ 1000000 := by
  obtain ⟨q, h1, h2⟩ := List.mem_filterMap.1 h
  have h3 := ho.key q h1
  rw [restOf_some h2, List.length_append] at h3
  omega
theorem encT_le {l : List Str} {k : Nat} (hk : k ≤ 4000000000) (h : ∀ s ∈ l, s.length ≤ k) : (encT l).length ≤ l.length * (k + 100) := by
  induction l with
  | nil => simp [encT]
  | cons a l ih =>
    have h1 := ih fun s hs => h s (List.mem_cons_of_mem _ hs)
    have h2 := h a List.mem_cons_self
    have h3 := chunk_len a
    have h4 := Lib.itoa_length_le a.length (by omega) (by omega)
    simp only [encT, List.length_append, List.length_cons, Nat.add_mul, Nat.one_mul]
    omega
theorem namesP_enc {L : PL} (ho : POk L) (n : Str) : (encT (namesP L n)).length ≤ 100000000000000 ∧ (namesP L n).length ≤ 1000000 := by
  have h1 := encT_le (k := 1000000) (by decide) fun s hs => namesP_mem ho (n := n) hs
  have h2 : (namesP L n).length ≤ L.length := List.length_filterMap_le _ _
  have h3 := ho.len
  refine ⟨Nat.le_trans h1 ?_, by omega⟩
  have : (namesP L n).length * (1000000 + 100) ≤ 1000000 * (1000000 + 100) := Nat.mul_le_mul_right _ (by omega)
  omega
end Go.Proofs.YtaecbmbecofijaaGreatDoor
namespace Go.Proofs.YtaecbmbecofijaaGreatDoor
open Go Go.Ab
set_option maxRecDepth 20000
set_option maxHeartbeats 4000000
instance : Inhabited Bits := ⟨Bits.no⟩
def pairAV (q : Str × Bits) : AV := .agg [.str q.1, .int .i64 q.2.k, .int .i64 q.2.m, .str q.2.l]
theorem get_ok (L : PL) (hL : L.length ≤ 140737488355328) (n : Str) (p : Oid) : CallOK Tryz.prog 100 [.list 4 (L.map pairAV), .str n] (Oid.under p) ⟨[], (getP L n).av, []⟩ := by
  refine fnOK (n := 28) (rs := [.cell 4 37]) Tryz.func100 rfl rfl (by decide) rfl rfl rfl ?_; rintro x rfl hrd hng
  (repeat (first | (refine K_ifT rfl rfl ?_) | (refine K_ifF rfl rfl ?_) | (refine K_ev nmd [] hng (by kernel_rfl) fun hf C S K hC1 hC hS hK => ?_; simp (disch := first | omega | assumption) only [go_sem]; refine hK ?_; clear hK hS hC hC1 K S C hf) | ((first | refine zn ?_ | refine ze ?_ | refine zk ?_); with_reducible (constructor; repeat constructor); try refine zl ?_)))
  refine K_ifd rfl rfl (fun hb => ?_) (fun hb => ?_)
  · (repeat (first | (refine K_ifT rfl rfl ?_) | (refine K_ifF rfl rfl ?_) | (refine K_ev nmd [] hng (by kernel_rfl) fun hf C S K hC1 hC hS hK => ?_; simp (disch := first | omega | assumption) only [go_sem]; refine hK ?_; clear hK hS hC hC1 K S C hf) | ((first | refine zn ?_ | refine ze ?_ | refine zk ?_); with_reducible (constructor; repeat constructor); try refine zl ?_)))
    exact K_ret (done_plain (by rw [getP, if_pos hb]; simp (disch := first | omega | assumption) only [go_sem, Bits.av]))
  · (repeat (first | (refine K_ifT rfl rfl ?_) | (refine K_ifF rfl rfl ?_) | (refine K_ev nmd [] hng (by kernel_rfl) fun hf C S K hC1 hC hS hK => ?_; simp (disch := first | omega | assumption) only [go_sem]; refine hK ?_; clear hK hS hC hC1 K S C hf) | ((first | refine zn ?_ | refine ze ?_ | refine zk ?_); with_reducible (constructor; repeat constructor); try refine zl ?_)))
    refine K_loop [0, 1, 4, 5] (fun k s' => ∃ i c : Nat, k = L.length - i ∧ i ≤ L.length ∧ 0 < c ∧ lookG n L = lookG n (L.drop i) ∧ s' = ⟨[(0, .list 4 (L.map pairAV)), (1, .str n), (4, .ptr (.sub 0 0 x.p) 0), (5, .int .i64 i)], Mem.of [(.sub 0 0 x.p, .cells [.int .i64 0, .int .i64 0, .str []])], c, []⟩) _ ⟨0, _, rfl, Nat.zero_le _, by omega, rfl, rfl⟩ ?_
    rintro k s' ⟨i, c, rfl, hi, hc, hlk, rfl⟩
    have hc0 : ¬ c = 0 := by omega
    (repeat (first | (refine K_ifT rfl rfl ?_) | (refine K_ifF rfl rfl ?_) | (refine K_ev nmd [] hng (by kernel_rfl) fun hf C S K hC1 hC hS hK => ?_; simp (disch := first | omega | assumption) only [go_sem]; refine hK ?_; clear hK hS hC hC1 K S C hf) | ((first | refine zn ?_ | refine ze ?_ | refine zk ?_); with_reducible (constructor; repeat constructor); try refine zl ?_)))
    refine K_ifd rfl rfl (fun hb => ?_) (fun hb => ?_)
    · have hlt : i < L.length := by omega
      rw [drop_cons hlt, lookG] at hlk
      generalize hq : L.getD i default = q at hlk
      obtain ⟨qn, qk, qm, ql⟩ := q
      simp only at hlk
      (repeat (first | (refine K_ifT rfl rfl ?_) | (refine K_ifF rfl rfl ?_) | (refine K_ev nmd [] hng (by kernel_rfl) fun hf C S K hC1 hC hS hK => ?_; simp (disch := first | omega | assumption) only [go_sem, hq, pairAV, AV.cells]; refine hK ?_; clear hK hS hC hC1 K S C hf) | ((first | refine zn ?_ | refine ze ?_ | refine zk ?_); with_reducible (constructor; repeat constructor); try refine zl ?_)))
      refine K_ifd rfl rfl (fun hb => ?_) (fun hb => ?_)
      · rw [if_pos hb.symm] at hlk
        (repeat (first | (refine K_ifT rfl rfl ?_) | (refine K_ifF rfl rfl ?_) | (refine K_ev nmd [] hng (by kernel_rfl) fun hf C S K hC1 hC hS hK => ?_; simp (disch := first | omega | assumption) only [go_sem, hq, pairAV, AV.cells]; refine hK ?_; clear hK hS hC hC1 K S C hf) | ((first | refine zn ?_ | refine ze ?_ | refine zk ?_); with_reducible (constructor; repeat constructor); try refine zl ?_)))
        exact K_ret (done_plain (by rw [getP, if_neg (by assumption), hlk]; simp (disch := first | omega | assumption) only [go_sem, Bits.av, Bits.no, Option.getD_some, Option.getD_none, lookG]))
      · rw [if_neg (fun e => hb e.symm)] at hlk
        (repeat (first | (refine K_ifT rfl rfl ?_) | (refine K_ifF rfl rfl ?_) | (refine K_ev nmd [] hng (by kernel_rfl) fun hf C S K hC1 hC hS hK => ?_; simp (disch := first | omega | assumption) only [go_sem]; refine hK ?_; clear hK hS hC hC1 K S C hf) | ((first | refine zn ?_ | refine ze ?_ | refine zk ?_); with_reducible (constructor; repeat constructor); try refine zl ?_)))
        exact ⟨_, _, by omega, fun _ _ h => h, i + 1, _, rfl, by omega, by omega, hlk, rfl⟩
    · have : i = L.length := by omega
      subst this
      rw [List.drop_length] at hlk
      (repeat (first | (refine K_ifT rfl rfl ?_) | (refine K_ifF rfl rfl ?_) | (refine K_ev nmd [] hng (by kernel_rfl) fun hf C S K hC1 hC hS hK => ?_; simp (disch := first | omega | assumption) only [go_sem]; refine hK ?_; clear hK hS hC hC1 K S C hf) | ((first | refine zn ?_ | refine ze ?_ | refine zk ?_); with_reducible (constructor; repeat constructor); try refine zl ?_)))
      exact K_ret (done_plain (by rw [getP, if_neg (by assumption), hlk]; simp (disch := first | omega | assumption) only [go_sem, Bits.av, Bits.no, Option.getD_some, Option.getD_none, lookG]))
/-! the names below a place -/
theorem pre_ref {k n : Str} : preT k (n ++ [47]) = true ↔ n.length < k.length ∧ k.take n.length = n ∧ k.getD n.length 0 = 47 := by
  simp only [preT, Bool.and_eq_true, decide_eq_true_eq, List.length_append, List.length_cons, List.length_nil]
  constructor
  · rintro ⟨h1, h2⟩
    have hlt : n.length < k.length := by omega
    rw [Nat.zero_add, List.take_succ_eq_append_getElem hlt] at h2
    have h3 := List.append_inj h2 (by simp; omega)
    refine ⟨hlt, h3.1, ?_⟩
    rw [getD_in hlt]
    simpa using h3.2
  · rintro ⟨h1, h2, h3⟩
    refine ⟨by omega, ?_⟩
    rw [getD_in h1] at h3
    rw [Nat.zero_add, List.take_succ_eq_append_getElem h1, h2, h3]
def noB (r : Str) (k : Nat) : Bool := (r.take k).all fun b => decide (¬ b = 47)
theorem noB_step {r : Str} {k : Nat} (h : k < r.length) : noB r (k + 1) = (noB r k && decide (¬ r.getD k 0 = 47)) := by
  unfold noB
  rw [List.take_succ_eq_append_getElem h, List.all_append, getD_in h]
  simp
theorem noB_full (r : Str) : noB r r.length = true ↔ ¬ 0 ≤ Lib.indexByte r 47 := by
  unfold noB
  rw [List.take_length, List.all_eq_true]
  rcases idx_spec 47 r with ⟨h1, h2⟩ | ⟨i, h1, h2, h3, _⟩
  · refine ⟨fun _ => by omega, fun _ b hb => ?_⟩
    obtain ⟨j, hj, rfl⟩ := List.mem_iff_getElem.1 hb
    have := h2 j hj
    rw [getD_in hj] at this
    simpa using this
  · refine ⟨fun h => ?_, fun h => by omega⟩
    have := h (r.getD i 0) (by rw [getD_in h2]; exact List.getElem_mem h2)
    rw [h3] at this
    simp at this
theorem restOf_ref (n k : Str) : restOf n k = if n.length < k.length ∧ k.take n.length = n ∧ k.getD n.length 0 = 47 then (if noB (k.drop (n.length + 1)) (k.drop (n.length + 1)).length = true then some (k.drop (n.length + 1)) else none) else none := by
  unfold restOf
  by_cases h1 : preT k (n ++ [47]) = true
  · rw [if_pos (pre_ref.1 h1)]
    by_cases h2 : noB (k.drop (n.length + 1)) (k.drop (n.length + 1)).length = true
    · rw [if_pos h2, if_pos ⟨h1, (noB_full _).1 h2⟩]
    · rw [if_neg h2, if_neg fun h => h2 ((noB_full _).2 h.2)]
  · rw [if_neg fun h => h1 h.1, if_neg fun h => h1 (pre_ref.2 h)]
end Go.Proofs.YtaecbmbecofijaaGreatDoor
namespace Go.Proofs.YtaecbmbecofijaaGreatDoor
open Go Go.Ab
set_option maxRecDepth 20000
set_option maxHeartbeats 4000000
theorem namesR_ok (L : PL) (hL : POk L) (n : Str) (hn : n.length ≤ 140737488355000) (p : Oid) : CallOK Tryz.prog 106 [.list 4 (L.map pairAV), .str n] (Oid.under p) ⟨[], .list 1 ((namesP L n).map AV.str), []⟩ := by
  have hL1 := hL.len
  refine fnOK (n := 66) (rs := [.tmp 4]) Tryz.func106 rfl rfl (by decide) rfl rfl rfl ?_; rintro x rfl hrd hng
  (repeat (first | (refine K_ifT rfl rfl ?_) | (refine K_ifF rfl rfl ?_) | (refine K_ev nmd [] hng (by kernel_rfl) fun hf C S K hC1 hC hS hK => ?_; simp (disch := first | omega | assumption) only [go_sem]; refine hK ?_; clear hK hS hC hC1 K S C hf) | ((first | refine zn ?_ | refine ze ?_ | refine zk ?_); with_reducible (constructor; repeat constructor); try refine zl ?_)))
  refine K_void 5 1 rfl ?_
  simp (disch := first | omega | assumption) only [go_sem]
  refine K_loop [0, 1, 5, 6] (fun k s' => ∃ (i d j c : Nat) (done : List Str), k = L.length - i ∧ i ≤ L.length ∧ d < c ∧ done.length ≤ i ∧ namesP L n = done ++ namesP (L.drop i) n ∧
      s' = ⟨[(0, .list 4 (L.map pairAV)), (1, .str n), (5, .sl (.sub d j x.p) 1 done.length), (6, .int .i64 i)], Mem.of [(.sub d j x.p, .arr 1 (done.map AV.str))], c, []⟩) _ ⟨0, 3, 0, 4, [], rfl, Nat.zero_le _, by omega, Nat.le_refl _, rfl, rfl⟩ ?_
  rintro k s' ⟨i, d, j, c, done, rfl, hi, hdc, hdl, hnm, rfl⟩
  (repeat (first | (refine K_ifT rfl rfl ?_) | (refine K_ifF rfl rfl ?_) | (refine K_ev nmd [] hng (by kernel_rfl) fun hf C S K hC1 hC hS hK => ?_; simp (disch := first | omega | assumption) only [go_sem]; refine hK ?_; clear hK hS hC hC1 K S C hf) | ((first | refine zn ?_ | refine ze ?_ | refine zk ?_); with_reducible (constructor; repeat constructor); try refine zl ?_)))
  refine K_ifd rfl rfl (fun hb => ?_) (fun hb => ?_)
  · have hlt : i < L.length := by omega
    have hkl := hL.key (L.getD i default) (by rw [getD_in hlt]; exact List.getElem_mem hlt)
    have hstep : namesP (L.drop i) n = (restOf n (L.getD i default).1).toList ++ namesP (L.drop (i + 1)) n := by
      rw [drop_cons hlt, namesP, List.filterMap_cons]
      cases restOf n (L.getD i default).1 <;> rfl
    rw [hstep, restOf_ref] at hnm
    generalize hq : L.getD i default = q at hnm hkl
    obtain ⟨s, qk, qm, ql⟩ := q
    simp only at hnm hkl
    (repeat (first | (refine K_ifT rfl rfl ?_) | (refine K_ifF rfl rfl ?_) | (refine K_ev nmd [] hng (by kernel_rfl) fun hf C S K hC1 hC hS hK => ?_; simp (disch := first | omega | assumption) only [go_sem]; refine hK ?_; clear hK hS hC hC1 K S C hf) | ((first | refine zv ?_ | refine zw ?_ | refine zu ?_); with_reducible (constructor; repeat constructor); try refine zl ?_)))
    refine K_block ?_
    (repeat (first | (refine K_ifT rfl rfl ?_) | (refine K_ifF rfl rfl ?_) | (refine K_ev nmd [] hng (by kernel_rfl) fun hf C S K hC1 hC hS hK => ?_; simp (disch := first | omega | assumption) only [go_sem, hq, pairAV, AV.cells]; refine hK ?_; clear hK hS hC hC1 K S C hf) | ((first | refine zn ?_ | refine ze ?_ | refine zk ?_); with_reducible (constructor; repeat constructor); try refine zl ?_)))
    refine K_cut [0, 1, 5, 6, 7, 41] (fun s' => ∃ (b : Bool), s' = ⟨[(0, .list 4 (L.map pairAV)), (1, .str n), (5, .sl (.sub d j x.p) 1 done.length), (6, .int .i64 i), (7, .str s), (41, .bool b)], Mem.of [(.sub d j x.p, .arr 1 (done.map AV.str))], c + 1 + 1 + 1, []⟩ ∧ (b = false ↔ (n.length < s.length ∧ s.take n.length = n ∧ s.getD n.length 0 = 47))) ?_ ?_
    · refine K_ev nmd [(5, 27), (13, 35)] hng (by kernel_rfl) fun hf C S K hC1 hC hS hK => ?_; simp (disch := first | omega | assumption) only [go_sem]
      (repeat' (first | (refine evG_split (fun hv => ?_) (fun hv => ?_) <;> (try simp only [zb1, zb2, zb3, zb4, zb5] at hv) <;> simp (disch := first | omega | assumption) only [go_sem, hv, Int.reduceEq, Int.reduceNe, ne_eq, not_true_eq_false, not_false_eq_true, decide_true, decide_false]) | (refine hK ?_; clear hK hS hC hC1 K S C hf)))
      · rename_i h1
        refine K_cutN ⟨_, rfl, ?_⟩
        simp only [decide_eq_false_iff_not, Classical.not_not] at hv ⊢
        exact ⟨fun h => ⟨by omega, hv, UInt8.toNat_inj.1 (by have : (47 : UInt8).toNat = 47 := rfl; omega)⟩, fun h => by rw [h.2.2]; rfl⟩
      · exact K_cutN ⟨_, rfl, ⟨fun h => (by cases h), fun h => absurd h.2.1 hv⟩⟩
      · exact K_cutN ⟨_, rfl, ⟨fun h => (by cases h), fun h => (by omega)⟩⟩
    rintro s' ⟨b, rfl, hiff⟩
    refine K_if rfl rfl (fun hb => ?_) (fun hb => ?_)
    · have hC : ¬ (n.length < s.length ∧ s.take n.length = n ∧ s.getD n.length 0 = 47) := fun h => by rw [hiff.2 h] at hb; cases hb
      rw [if_neg hC] at hnm
      (repeat (first | (refine K_ifT rfl rfl ?_) | (refine K_ifF rfl rfl ?_) | (refine K_ev nmd [] hng (by kernel_rfl) fun hf C S K hC1 hC hS hK => ?_; simp (disch := first | omega | assumption) only [go_sem]; refine hK ?_; clear hK hS hC hC1 K S C hf) | ((first | refine zn ?_ | refine ze ?_ | refine zk ?_); with_reducible (constructor; repeat constructor); try refine zl ?_)))
      exact ⟨_, _, by omega, fun _ _ h => h, i + 1, d, j, _, done, rfl, by omega, by omega, by omega, by simpa using hnm, rfl⟩
    · have hC := hiff.1 hb
      rw [if_pos hC] at hnm
      have hn1 : ((n.length : Int) + 1).toNat = n.length + 1 := by omega
      have hrl : (s.drop (n.length + 1)).length ≤ 1000000 := by rw [List.length_drop]; omega
      generalize hr : s.drop (n.length + 1) = r at hnm hrl
      have hsl := hC.1
      (repeat (first | (refine K_ifT rfl rfl ?_) | (refine K_ifF rfl rfl ?_) | (refine K_ev nmd [] hng (by kernel_rfl) fun hf C S K hC1 hC hS hK => ?_; simp (disch := first | omega | assumption) only [go_sem, hn1, hr]; refine hK ?_; clear hK hS hC hC1 K S C hf) | ((first | refine zn ?_ | refine ze ?_ | refine zk ?_); with_reducible (constructor; repeat constructor); try refine zl ?_)))
      refine K_loop [0, 1, 5, 6, 8, 9, 10] (fun k s' => ∃ q c' : Nat, k = r.length - q ∧ q ≤ r.length ∧ d < c' ∧ s' = ⟨[(0, .list 4 (L.map pairAV)), (1, .str n), (5, .sl (.sub d j x.p) 1 done.length), (6, .int .i64 i), (8, .str r), (9, .bool (noB r q)), (10, .int .i64 q)], Mem.of [(.sub d j x.p, .arr 1 (done.map AV.str))], c', []⟩) _ ⟨0, _, rfl, Nat.zero_le _, by omega, rfl⟩ ?_
      rintro k s' ⟨q, c', rfl, hq2, hdc', rfl⟩
      (repeat (first | (refine K_ifT rfl rfl ?_) | (refine K_ifF rfl rfl ?_) | (refine K_ev nmd [] hng (by kernel_rfl) fun hf C S K hC1 hC hS hK => ?_; simp (disch := first | omega | assumption) only [go_sem]; refine hK ?_; clear hK hS hC hC1 K S C hf) | ((first | refine zn ?_ | refine ze ?_ | refine zk ?_); with_reducible (constructor; repeat constructor); try refine zl ?_)))
      refine K_ifd rfl rfl (fun hb => ?_) (fun hb => ?_)
      · have hst := noB_step (r := r) (k := q) (by omega)
        cases hnb : noB r q with
        | true =>
          rw [hnb, Bool.true_and] at hst
          have h47 : ((r.getD q 0).toNat : Int) = 47 ↔ r.getD q 0 = 47 := u8_lit (n := 47) (by decide)
          (repeat (first | (refine K_ifT rfl rfl ?_) | (refine K_ifF rfl rfl ?_) | (refine K_ev nmd [] hng (by kernel_rfl) fun hf C S K hC1 hC hS hK => ?_; simp (disch := first | omega | assumption) only [go_sem]; refine hK ?_; clear hK hS hC hC1 K S C hf) | ((first | refine zn ?_ | refine ze ?_ | refine zk ?_); with_reducible (constructor; repeat constructor); try refine zl ?_)))
          refine K_ev nmd [(1, 54)] hng (by kernel_rfl) fun hf C S K hC1 hC hS hK => ?_; simp (disch := first | omega | assumption) only [go_sem]
          refine hK ?_; clear hK hS hC hC1 K S C hf
          (repeat (first | (refine K_ifT rfl rfl ?_) | (refine K_ifF rfl rfl ?_) | (refine K_ev nmd [] hng (by kernel_rfl) fun hf C S K hC1 hC hS hK => ?_; simp (disch := first | omega | assumption) only [go_sem]; refine hK ?_; clear hK hS hC hC1 K S C hf) | ((first | refine zn ?_ | refine ze ?_ | refine zk ?_); with_reducible (constructor; repeat constructor); try refine zl ?_)))
          exact ⟨_, _, by omega, fun _ _ h => h, q + 1, c' + 1 + 1 + 1, rfl, by omega, by omega, by rw [hst, ← decide_eq_decide.2 (not_congr h47)]; rfl⟩
        | false =>
          rw [hnb, Bool.false_and] at hst
          (repeat (first | (refine K_ifT rfl rfl ?_) | (refine K_ifF rfl rfl ?_) | (refine K_ev nmd [] hng (by kernel_rfl) fun hf C S K hC1 hC hS hK => ?_; simp (disch := first | omega | assumption) only [go_sem]; refine hK ?_; clear hK hS hC hC1 K S C hf) | ((first | refine zn ?_ | refine ze ?_ | refine zk ?_); with_reducible (constructor; repeat constructor); try refine zl ?_)))
          refine K_ev nmd [(1, 54)] hng (by kernel_rfl) fun hf C S K hC1 hC hS hK => ?_; simp (disch := first | omega | assumption) only [go_sem]
          refine hK ?_; clear hK hS hC hC1 K S C hf
          (repeat (first | (refine K_ifT rfl rfl ?_) | (refine K_ifF rfl rfl ?_) | (refine K_ev nmd [] hng (by kernel_rfl) fun hf C S K hC1 hC hS hK => ?_; simp (disch := first | omega | assumption) only [go_sem]; refine hK ?_; clear hK hS hC hC1 K S C hf) | ((first | refine zn ?_ | refine ze ?_ | refine zk ?_); with_reducible (constructor; repeat constructor); try refine zl ?_)))
          exact ⟨_, _, by omega, fun _ _ h => h, q + 1, c' + 1 + 1 + 1, rfl, by omega, by omega, by rw [hst]; rfl⟩
      · obtain rfl : q = r.length := by omega
        cases hnb : noB r r.length with
        | true =>
          rw [hnb, if_pos rfl] at hnm
          (repeat (first | (refine K_ifT rfl rfl ?_) | (refine K_ifF rfl rfl ?_) | (refine K_ev nmd [] hng (by kernel_rfl) fun hf C S K hC1 hC hS hK => ?_; simp (disch := first | omega | assumption) only [go_sem]; refine hK ?_; clear hK hS hC hC1 K S C hf) | ((first | refine zn ?_ | refine ze ?_ | refine zk ?_); with_reducible (constructor; repeat constructor); try refine zl ?_)))
          exact ⟨_, _, by omega, fun _ _ h => h, i + 1, c' + 1 + 1, 3, c' + 1 + 1 + 1 + 1, done ++ [r], rfl, by omega, by omega, by simp only [List.length_append, List.length_cons, List.length_nil]; omega, by simpa using hnm, by rw [List.length_append, List.map_append]; rfl⟩
        | false =>
          rw [hnb, if_neg (by decide)] at hnm
          (repeat (first | (refine K_ifT rfl rfl ?_) | (refine K_ifF rfl rfl ?_) | (refine K_ev nmd [] hng (by kernel_rfl) fun hf C S K hC1 hC hS hK => ?_; simp (disch := first | omega | assumption) only [go_sem]; refine hK ?_; clear hK hS hC hC1 K S C hf) | ((first | refine zn ?_ | refine ze ?_ | refine zk ?_); with_reducible (constructor; repeat constructor); try refine zl ?_)))
          exact ⟨_, _, by omega, fun _ _ h => h, i + 1, d, j, _, done, rfl, by omega, by omega, by omega, by simpa using hnm, rfl⟩
  · obtain rfl : i = L.length := by omega
    rw [List.drop_length] at hnm
    have hnm' : namesP L n = done := by simpa [namesP] using hnm
    (repeat (first | (refine K_ifT rfl rfl ?_) | (refine K_ifF rfl rfl ?_) | (refine K_ev nmd [] hng (by kernel_rfl) fun hf C S K hC1 hC hS hK => ?_; simp (disch := first | omega | assumption) only [go_sem]; refine hK ?_; clear hK hS hC hC1 K S C hf) | ((first | refine zn ?_ | refine ze ?_ | refine zk ?_); with_reducible (constructor; repeat constructor); try refine zl ?_)))
    exact K_retl (xs := done.map AV.str) rfl (by simp (disch := first | omega | assumption) only [go_sem]) (by simp) (by rw [hnm'])
end Go.Proofs.YtaecbmbecofijaaGreatDoor
namespace Go.Proofs.YtaecbmbecofijaaGreatDoor
open Go Go.Ab
set_option maxRecDepth 20000
set_option maxHeartbeats 4000000
abbrev WL := List (Str × Unit)
theorem wrote_ok (r : Oid) (LL OO RR bb : AV) (W : WL) (hW : W.length ≤ 140737488355328) (n : Str) (p : Oid) (hr : ¬ Oid.under p r) :
    CallOK Tryz.prog 95 [.ptr r 0, .str n] (Oid.under p) ⟨[(r, .cells [LL, OO, RR, .list 1 (W.map fun q => .str q.1), bb])], .bool (lookG n W).isSome, []⟩ := by
  refine fnOK (n := 24) (rs := [.tmp 4]) Tryz.func95 rfl rfl (by decide) rfl rfl rfl ?_; rintro x rfl hrd hng
  (repeat (first | (refine K_ifT rfl rfl ?_) | (refine K_ifF rfl rfl ?_) | (refine K_ev nmd [] hng (by kernel_rfl) fun hf C S K hC1 hC hS hK => ?_; simp (disch := first | omega | assumption) only [go_sem, Oid.not_under_sub hr, Oid.sub_not_under hr]; refine hK ?_; clear hK hS hC hC1 K S C hf) | ((first | refine zn ?_ | refine ze ?_ | refine zk ?_); with_reducible (constructor; repeat constructor); try refine zl ?_)))
  refine K_loop [0, 1, 5] (fun k s' => ∃ i c : Nat, k = W.length - i ∧ i ≤ W.length ∧ lookG n W = lookG n (W.drop i) ∧ s' = ⟨[(0, .ptr r 0), (1, .str n), (5, .int .i64 i)], Mem.of [(r, .cells [LL, OO, RR, .list 1 (W.map fun q => .str q.1), bb])], c, []⟩) _ ⟨0, _, rfl, Nat.zero_le _, rfl, rfl⟩ ?_
  rintro k s' ⟨i, c, rfl, hi, hlk, rfl⟩
  (repeat (first | (refine K_ifT rfl rfl ?_) | (refine K_ifF rfl rfl ?_) | (refine K_ev nmd [] hng (by kernel_rfl) fun hf C S K hC1 hC hS hK => ?_; simp (disch := first | omega | assumption) only [go_sem, Oid.not_under_sub hr, Oid.sub_not_under hr]; refine hK ?_; clear hK hS hC hC1 K S C hf) | ((first | refine zn ?_ | refine ze ?_ | refine zk ?_); with_reducible (constructor; repeat constructor); try refine zl ?_)))
  refine K_ifd rfl rfl (fun hb => ?_) (fun hb => ?_)
  · have hlt : i < W.length := by omega
    rw [drop_cons hlt, lookG] at hlk
    generalize hq : W.getD i default = q at hlk
    obtain ⟨qn, qu⟩ := q
    simp only at hlk
    (repeat (first | (refine K_ifT rfl rfl ?_) | (refine K_ifF rfl rfl ?_) | (refine K_ev nmd [] hng (by kernel_rfl) fun hf C S K hC1 hC hS hK => ?_; simp (disch := first | omega | assumption) only [go_sem, Oid.not_under_sub hr, Oid.sub_not_under hr, hq]; refine hK ?_; clear hK hS hC hC1 K S C hf) | ((first | refine zn ?_ | refine ze ?_ | refine zk ?_); with_reducible (constructor; repeat constructor); try refine zl ?_)))
    refine K_ifd rfl rfl (fun hb => ?_) (fun hb => ?_)
    · rw [if_pos hb.symm] at hlk
      (repeat (first | (refine K_ifT rfl rfl ?_) | (refine K_ifF rfl rfl ?_) | (refine K_ev nmd [] hng (by kernel_rfl) fun hf C S K hC1 hC hS hK => ?_; simp (disch := first | omega | assumption) only [go_sem, Oid.not_under_sub hr, Oid.sub_not_under hr]; refine hK ?_; clear hK hS hC hC1 K S C hf) | ((first | refine zn ?_ | refine ze ?_ | refine zk ?_); with_reducible (constructor; repeat constructor); try refine zl ?_)))
      refine K_ret (done_upd (by simp (disch := first | omega | assumption) only [go_sem, hlk]) ?_ ?_)
      all_goals simp only [List.mem_cons, List.not_mem_nil, or_false, forall_eq_or_imp, forall_eq, Option.some.injEq, forall_eq', Mem.of_cons_at, eq_self, if_true, ↓reduceIte, reduceCtorEq, implies_true, not_true_eq_false, false_imp_iff, true_and, and_true, false_and, and_false, imp_self]
    · rw [if_neg (fun e => hb e.symm)] at hlk
      (repeat (first | (refine K_ifT rfl rfl ?_) | (refine K_ifF rfl rfl ?_) | (refine K_ev nmd [] hng (by kernel_rfl) fun hf C S K hC1 hC hS hK => ?_; simp (disch := first | omega | assumption) only [go_sem, Oid.not_under_sub hr, Oid.sub_not_under hr]; refine hK ?_; clear hK hS hC hC1 K S C hf) | ((first | refine zn ?_ | refine ze ?_ | refine zk ?_); with_reducible (constructor; repeat constructor); try refine zl ?_)))
      exact ⟨_, _, by omega, fun _ _ h => h, i + 1, _, rfl, by omega, hlk, rfl⟩
  · have : i = W.length := by omega
    subst this
    rw [List.drop_length] at hlk
    (repeat (first | (refine K_ifT rfl rfl ?_) | (refine K_ifF rfl rfl ?_) | (refine K_ev nmd [] hng (by kernel_rfl) fun hf C S K hC1 hC hS hK => ?_; simp (disch := first | omega | assumption) only [go_sem, Oid.not_under_sub hr, Oid.sub_not_under hr]; refine hK ?_; clear hK hS hC hC1 K S C hf) | ((first | refine zn ?_ | refine ze ?_ | refine zk ?_); with_reducible (constructor; repeat constructor); try refine zl ?_)))
    refine K_ret (done_upd (by simp (disch := first | omega | assumption) only [go_sem, hlk, lookG]) ?_ ?_)
    all_goals simp only [List.mem_cons, List.not_mem_nil, or_false, forall_eq_or_imp, forall_eq, Option.some.injEq, forall_eq', Mem.of_cons_at, eq_self, if_true, ↓reduceIte, reduceCtorEq, implies_true, not_true_eq_false, false_imp_iff, true_and, and_true, false_and, and_false, imp_self]
/-! an insertion, by its place -/
theorem insG_split {κ ν : Type} [DecidableEq κ] {lt : κ → κ → Prop} [DecidableRel lt] (n : κ) (o : Option ν) : ∀ (L : List (κ × ν)) (i : Nat), i ≤ L.length → (∀ j q, j < i → L[j]? = some q → lt q.1 n) → (∀ q, L[i]? = some q → ¬ lt q.1 n) →
    insG lt n o L = L.take i ++ tipG n o ++ (match L[i]? with | some q => if q.1 = n then L.drop (i + 1) else L.drop i | none => [])
  | [], i, h, _, _ => by
    obtain rfl : i = 0 := by simpa using h
    simp [insG]
  | q :: L, 0, _, _, h2 => by
    have h3 := h2 q (by simp)
    simp only [insG, if_neg h3, List.take_zero, List.nil_append, List.getElem?_cons_zero, List.drop_succ_cons, List.drop_zero]
  | q :: L, i + 1, h, h1, h2 => by
    have h3 := h1 0 q (by omega) (by simp)
    have ih := insG_split (lt := lt) n o L i (by simpa using h) (fun j q' hj hq => h1 (j + 1) q' (by omega) (by simpa using hq)) (fun q' hq => h2 q' (by simpa using hq))
    simp only [insG, if_pos h3, ih, List.take_succ_cons, List.cons_append, List.getElem?_cons_succ, List.drop_succ_cons]
/-- What was put twice is put once. -/
theorem insG_same {κ ν : Type} [DecidableEq κ] {lt : κ → κ → Prop} [DecidableRel lt] (ho : Ord lt) {n : κ} {b : ν} {L : List (κ × ν)} (hs : SortG lt L) (h : lookG n L = some b) : insG lt n (some b) L = L := by
  have h1 := insG_sort ho n (some b) hs
  refine sortG_one ho ((insG_filter ho n (some b) hs).trans ?_) h1 hs
  have hm := (lookG_mem (hs.nodup ho)).1 h
  have hd := hs.nodup ho
  clear h1 h hs
  induction L with
  | nil => cases hm
  | cons q L ih =>
    simp only [List.map_cons, List.nodup_cons] at hd
    rcases List.mem_cons.1 hm with rfl | hm'
    · rw [List.filter_cons_of_neg (by simp), filter_no hd.1]
      exact .refl _
    · have hne : ¬ q.1 = n := fun e => hd.1 (e ▸ List.mem_map_of_mem (f := (·.1)) hm')
      rw [List.filter_cons_of_pos (by simpa using hne)]
      exact (List.Perm.swap _ _ _).trans ((ih hm' hd.2).cons q)
end Go.Proofs.YtaecbmbecofijaaGreatDoor
namespace Go.Proofs.YtaecbmbecofijaaGreatDoor
open Go Go.Ab
set_option maxRecDepth 20000
set_option maxHeartbeats 4000000
def putW (tr : Bool) (n : Str) (W : WL) : WL := if n = [] then W else if tr then insG ltB n (some ()) W else W
theorem done_updR {P : Program} {rs : List ResultVar} {need : List (Oid × AObj)} {fr : List (Nat × AV)} {m : Mem} {c : Nat} {val : AV} {upd : List (Oid × Option AObj)} (h1 : retM P m fr rs = some val)
    (h2 : ∀ q, q ∈ upd → ∀ o, q.2 = some o → m q.1 = some o) (h3 : ∀ q, q ∈ need → (∀ r, r ∈ upd → ¬ r.1 = q.1) → m q.1 = some q.2) : DoneN P rs need (fun v u => v = val ∧ u = upd) (fun _ _ => False) .ret ⟨fr, m, c, []⟩ :=
  done_ret val upd h1 ⟨rfl, rfl⟩ (upd_sub h2 h3)
theorem putR_ok (r : Oid) (OO RR : AV) (L : PL) (hL : L.length ≤ 1000000) (W : WL) (hW : W.length ≤ 1000000) (hWs : SortG ltB W) (tr : Bool) (n : Str) (b : Bits) (p : Oid) (hr : ¬ Oid.under p r) :
    CallOK Tryz.prog 42 [.ptr r 0, .str n, b.av] (Oid.under p) ⟨[(r, .cells [.list 4 (L.map pairAV), OO, RR, .list 1 (W.map fun q => .str q.1), .bool tr])], .tuple [], [(r, some (.cells [.list 4 ((putP n b L).map pairAV), OO, RR, .list 1 ((putW tr n W).map fun q => .str q.1), .bool tr]))]⟩ := by
  have hr' : ∀ c i, ¬ Oid.under (.sub c i p) r := fun c i h => hr (Oid.under_sub h)
  simp only [Bits.av]
  refine fnOK (n := 141) (rs := []) Tryz.func42 rfl rfl (by decide) rfl rfl rfl ?_; rintro x rfl hrd hng
  refine T_gend ?_
  (repeat (first | (refine K_ifT rfl rfl ?_) | (refine K_ifF rfl rfl ?_) | (refine K_ev nmd [] hng (by kernel_rfl) fun hf C S K hC1 hC hS hK => ?_; simp (disch := first | omega | assumption) only [go_sem, Oid.not_under_sub hr, Oid.sub_not_under hr]; refine hK ?_; clear hK hS hC hC1 K S C hf) | ((first | refine zn ?_ | refine ze ?_ | refine zk ?_); with_reducible (constructor; repeat constructor); try refine zl ?_)))
  refine K_ifd rfl rfl (fun hb => ?_) (fun hb => ?_)
  · have h1 : putP n b L = L := if_pos hb
    have h2 : putW tr n W = W := if_pos hb
    rw [h1, h2]
    (repeat (first | (refine K_ifT rfl rfl ?_) | (refine K_ifF rfl rfl ?_) | (refine K_ev nmd [] hng (by kernel_rfl) fun hf C S K hC1 hC hS hK => ?_; simp (disch := first | omega | assumption) only [go_sem, Oid.not_under_sub hr, Oid.sub_not_under hr]; refine hK ?_; clear hK hS hC hC1 K S C hf) | ((first | refine zn ?_ | refine ze ?_ | refine zk ?_); with_reducible (constructor; repeat constructor); try refine zl ?_)))
    refine K_ret (.now (done_updR rfl ?_ ?_))
    all_goals simp only [List.mem_cons, List.not_mem_nil, or_false, forall_eq_or_imp, forall_eq, Option.some.injEq, forall_eq', Mem.of_cons_at, eq_self, if_true, ↓reduceIte, reduceCtorEq, implies_true, not_true_eq_false, false_imp_iff, true_and, and_true, false_and, and_false, imp_self]
  · have hn : ¬ n = [] := hb
    (try ((first | refine zn ?_ | refine ze ?_ | refine zk ?_); with_reducible (constructor; repeat constructor)); try refine zl ?_)
    refine K_ev nmd [] hng (by kernel_rfl) fun hf C S K hC1 hC hS hK => ?_; simp (disch := first | omega | assumption) only [go_sem, Oid.not_under_sub hr, Oid.sub_not_under hr]
    refine hK ?_; clear hK hS hC hC1 K S C hf
    refine K_next ?_
    refine K_cut [0, 1, 5] (fun s' => ∃ (B : Bits) (c : Nat), 0 < c ∧ s' = ⟨[(0, .ptr r 0), (1, .str n), (5, .ptr (.sub 0 0 x.p) 0)], Mem.of [(r, .cells [.list 4 (L.map pairAV), OO, RR, .list 1 (W.map fun q => .str q.1), .bool tr]), (.sub 0 0 x.p, .cells [.int .i64 B.k, .int .i64 B.m, .str B.l])], c, []⟩ ∧ (B.k = 0 ↔ b.k = 0) ∧ (¬ b.k = 0 → B = b)) ?_ ?_
    · refine K_ifd rfl rfl (fun hb => ?_) (fun hb => ?_)
      · (repeat (first | (refine K_ifT rfl rfl ?_) | (refine K_ifF rfl rfl ?_) | (refine K_ev nmd [] hng (by kernel_rfl) fun hf C S K hC1 hC hS hK => ?_; simp (disch := first | omega | assumption) only [go_sem, Oid.not_under_sub hr, Oid.sub_not_under hr]; refine hK ?_; clear hK hS hC hC1 K S C hf) | ((first | refine zn ?_ | refine ze ?_ | refine zk ?_); with_reducible (constructor; repeat constructor); try refine zl ?_)))
        exact K_cutN ⟨Bits.no, 4, by decide, rfl, ⟨fun _ => hb, fun _ => rfl⟩, fun h => absurd hb h⟩
      · (repeat (first | (refine K_ifT rfl rfl ?_) | (refine K_ifF rfl rfl ?_) | (refine K_ev nmd [] hng (by kernel_rfl) fun hf C S K hC1 hC hS hK => ?_; simp (disch := first | omega | assumption) only [go_sem, Oid.not_under_sub hr, Oid.sub_not_under hr]; refine hK ?_; clear hK hS hC hC1 K S C hf) | ((first | refine zn ?_ | refine ze ?_ | refine zk ?_); with_reducible (constructor; repeat constructor); try refine zl ?_)))
        exact K_cutN ⟨b, 3, by decide, rfl, Iff.rfl, fun _ => rfl⟩
    rintro s' ⟨B, c, hc, rfl, hB0, hB1⟩
    refine K_seq ?_
    refine K_cutG [0, 1, 5] (fun s' => ∃ c2 : Nat, 0 < c2 ∧ s' = ⟨[(0, .ptr r 0), (1, .str n), (5, .ptr (.sub 0 0 x.p) 0)], Mem.of [(r, .cells [.list 4 (L.map pairAV), OO, RR, .list 1 ((putW tr n W).map fun q => .str q.1), .bool tr]), (.sub 0 0 x.p, .cells [.int .i64 B.k, .int .i64 B.m, .str B.l])], c2, []⟩) ?_ ?_
    · refine K_seq ?_
      refine K_cut [0, 1, 5, 25] (fun s' => ∃ q : Bool, s' = ⟨[(0, .ptr r 0), (1, .str n), (5, .ptr (.sub 0 0 x.p) 0), (25, .bool q)], Mem.of [(r, .cells [.list 4 (L.map pairAV), OO, RR, .list 1 (W.map fun q => .str q.1), .bool tr]), (.sub 0 0 x.p, .cells [.int .i64 B.k, .int .i64 B.m, .str B.l])], c + 1, []⟩ ∧ q = (tr && !(lookG n W).isSome)) ?_ ?_
      · cases tr with
        | false =>
          refine K_ev nmd [(4, 20)] hng (by kernel_rfl) fun hf C S K hC1 hC hS hK => ?_; simp (disch := first | omega | assumption) only [go_sem, Oid.not_under_sub hr, Oid.sub_not_under hr]
          refine hK ?_; clear hK hS hC hC1 K S C hf
          exact K_cutN ⟨false, rfl, rfl⟩
        | true =>
          refine K_ev nmd [(4, 20)] hng (by kernel_rfl) fun hf C S K hC1 hC hS hK => ?_; simp (disch := first | omega | assumption) only [go_sem, Oid.not_under_sub hr, Oid.sub_not_under hr]
          refine hC1 _ (wrote_ok r (.list 4 (L.map pairAV)) OO RR (.bool true) W (by omega) n _ (hr' _ _)) (by simp (disch := first | omega | assumption) only [go_sem, Oid.not_under_sub hr, Oid.sub_not_under hr]) ?_
          simp (disch := first | omega | assumption) only [go_sem, Oid.not_under_sub hr, Oid.sub_not_under hr]
          refine hK ?_; clear hK hS hC hC1 K S C hf
          exact K_cutN ⟨_, rfl, by rw [Bool.true_and]⟩
      rintro s' ⟨q, rfl, hq⟩
      refine K_if rfl rfl (fun hb => ?_) (fun hb => ?_)
      · rw [hb] at hq
        have hq1 : tr = true ∧ (lookG n W).isSome = false := by simpa using hq.symm
        obtain ⟨rfl, hls⟩ := hq1
        have hput : putW true n W = insG ltB n (some ()) W := by unfold putW; rw [if_neg hn, if_pos rfl]
        (repeat (first | (refine K_ifT rfl rfl ?_) | (refine K_ifF rfl rfl ?_) | (refine K_ev nmd [] hng (by kernel_rfl) fun hf C S K hC1 hC hS hK => ?_; simp (disch := first | omega | assumption) only [go_sem]; refine hK ?_; clear hK hS hC hC1 K S C hf) | ((first | refine zn ?_ | refine ze ?_ | refine zk ?_); with_reducible (constructor; repeat constructor); try refine zl ?_)))
        refine K_loop [0, 1, 5, 6] (fun k s' => ∃ i c' : Nat, k = W.length - i ∧ i ≤ W.length ∧ 0 < c' ∧ (∀ j q, j < i → W[j]? = some q → ltB q.1 n) ∧ s' = ⟨[(0, .ptr r 0), (1, .str n), (5, .ptr (.sub 0 0 x.p) 0), (6, .int .i64 i)], Mem.of [(r, .cells [.list 4 (L.map pairAV), OO, RR, .list 1 (W.map fun q => .str q.1), .bool true]), (.sub 0 0 x.p, .cells [.int .i64 B.k, .int .i64 B.m, .str B.l])], c', []⟩) _ ⟨0, _, rfl, Nat.zero_le _, by omega, fun j q h => by omega, rfl⟩ ?_
        rintro k s' ⟨i, c', rfl, hi, hc', hlt, rfl⟩
        have hc0 : ¬ c' = 0 := by omega
        (try ((first | refine zn ?_ | refine ze ?_ | refine zk ?_); with_reducible (constructor; repeat constructor)); try refine zl ?_)
        refine K_cut [0, 1, 5, 6, 43] (fun s' => ∃ q : Bool, s' = ⟨[(0, .ptr r 0), (1, .str n), (5, .ptr (.sub 0 0 x.p) 0), (6, .int .i64 i), (43, .bool q)], Mem.of [(r, .cells [.list 4 (L.map pairAV), OO, RR, .list 1 (W.map fun q => .str q.1), .bool true]), (.sub 0 0 x.p, .cells [.int .i64 B.k, .int .i64 B.m, .str B.l])], c' + 1, []⟩ ∧ (q = true ↔ ∃ e, W[i]? = some e ∧ ltB e.1 n)) ?_ ?_
        · refine K_ev nmd [(7, 33)] hng (by kernel_rfl) fun hf C S K hC1 hC hS hK => ?_; simp (disch := first | omega | assumption) only [go_sem, Oid.not_under_sub hr, Oid.sub_not_under hr]
          (repeat' (first | (refine evG_split (fun hv => ?_) (fun hv => ?_) <;> (try simp only [zb1, zb2, zb3, zb4, zb5] at hv) <;> simp (disch := first | omega | assumption) only [go_sem, hv, Oid.not_under_sub hr, Oid.sub_not_under hr]) | (refine hK ?_; clear hK hS hC hC1 K S C hf)))
          · have hl : i < W.length := by omega
            exact K_cutN ⟨_, rfl, ⟨fun h => ⟨W.getD i default, by rw [getD_in hl, List.getElem?_eq_getElem hl], h⟩, fun ⟨e, he, h⟩ => by
              rw [List.getElem?_eq_getElem hl] at he
              simp only [Option.some.injEq] at he
              rw [getD_in hl, he]; exact h⟩⟩
          · exact K_cutN ⟨_, rfl, ⟨fun h => (by cases h), fun ⟨e, he, h⟩ => by rw [List.getElem?_eq_none (by omega)] at he; cases he⟩⟩
        rintro s' ⟨q, rfl, hq⟩
        refine K_if rfl rfl (fun hb => ?_) (fun hb => ?_)
        · obtain ⟨e, he, hle⟩ := hq.1 hb
          have hl : i < W.length := (List.getElem?_eq_some_iff.1 he).1
          (repeat (first | (refine K_ifT rfl rfl ?_) | (refine K_ifF rfl rfl ?_) | (refine K_ev nmd [] hng (by kernel_rfl) fun hf C S K hC1 hC hS hK => ?_; simp (disch := first | omega | assumption) only [go_sem]; refine hK ?_; clear hK hS hC hC1 K S C hf) | ((first | refine zn ?_ | refine ze ?_ | refine zk ?_); with_reducible (constructor; repeat constructor); try refine zl ?_)))
          refine ⟨_, _, by omega, fun _ _ h => h, i + 1, _, rfl, by omega, by omega, fun j q' hj hq' => ?_, rfl⟩
          rcases Nat.lt_or_ge j i with h | h
          · exact hlt j q' h hq'
          · obtain rfl : j = i := by omega
            rw [he] at hq'; simp only [Option.some.injEq] at hq'; rw [← hq']; exact hle
        · have hnl : ∀ q, W[i]? = some q → ¬ ltB q.1 n := fun q' h1 h2 => by rw [hq.2 ⟨q', h1, h2⟩] at hb; cases hb
          have hsp := insG_split (lt := ltB) n (some ()) W i hi hlt hnl
          have hno : ∀ q, W[i]? = some q → ¬ q.1 = n := fun q' h1 h2 => by
            have := (lookG_mem (hWs.nodup ordB) (n := n) (b := q'.2)).2 (by rw [← h2]; exact List.mem_of_getElem? h1)
            rw [this] at hls; cases hls
          have hsp2 : insG ltB n (some ()) W = W.take i ++ [(n, ())] ++ W.drop i := by
            rw [hsp]
            cases hwi : W[i]? with
            | none =>
              have hd : W.drop i = [] := List.drop_eq_nil_of_le (List.getElem?_eq_none_iff.1 hwi)
              simp only [hd, tipG, List.append_nil]
            | some q' => simp only [if_neg (hno q' hwi)]; rfl
          (repeat (first | (refine K_ifT rfl rfl ?_) | (refine K_ifF rfl rfl ?_) | (refine K_ev nmd [] hng (by kernel_rfl) fun hf C S K hC1 hC hS hK => ?_; simp (disch := first | omega | assumption) only [go_sem, Oid.not_under_sub hr, Oid.sub_not_under hr]; refine hK ?_; clear hK hS hC hC1 K S C hf) | ((first | refine zn ?_ | refine ze ?_ | refine zk ?_); with_reducible (constructor; repeat constructor); try refine zl ?_)))
          refine K_cutGN ?_
          refine G_freezeM (.sub (c' + 1 + 1 + 1 + 1) 8 x.p) r 1 ((insG ltB n (some ()) W).map fun q => .str q.1) [.list 4 (L.map pairAV), OO, RR, .sl (.sub (c' + 1 + 1 + 1 + 1) 8 x.p) 1 (min i W.length + 1 + (W.length - i)), .bool true] [.list 4 (L.map pairAV), OO, RR, .list 1 ((insG ltB n (some ()) W).map fun q => .str q.1), .bool true] ?_ ?_ ?_ ?_ ?_
          · simp (disch := first | omega | assumption) only [go_sem, Oid.not_under_sub hr, Oid.sub_not_under hr]
            rw [hsp2]; simp
          · simp (disch := first | omega | assumption) only [go_sem, Oid.not_under_sub hr, Oid.sub_not_under hr]
          · exact fun e => hr (e ▸ Oid.under_sub (Oid.under_refl _))
          · exact .keep (.keep (.keep (.turn (by rw [hsp2]; simp only [List.length_map, List.length_append, List.length_take, List.length_drop, List.length_cons, List.length_nil]) (.keep .nil))))
          · simp (disch := first | omega | assumption) only [go_sem, Oid.not_under_sub hr, Oid.sub_not_under hr]
            rw [hput]
            exact .now ⟨_, fun _ _ h => h, c' + 1 + 1 + 1 + 1 + 1, by omega, rfl⟩
      · rw [hb] at hq
        have hpw : putW tr n W = W := by
          unfold putW
          rw [if_neg hn]
          cases tr with
          | false => rfl
          | true =>
            have hs : (lookG n W).isSome = true := by simpa using hq.symm
            obtain ⟨u, hu⟩ := Option.isSome_iff_exists.1 hs
            rw [if_pos rfl]
            exact insG_same ordB hWs hu
        rw [hpw]
        (repeat (first | (refine K_ifT rfl rfl ?_) | (refine K_ifF rfl rfl ?_) | (refine K_ev nmd [] hng (by kernel_rfl) fun hf C S K hC1 hC hS hK => ?_; simp (disch := first | omega | assumption) only [go_sem]; refine hK ?_; clear hK hS hC hC1 K S C hf) | ((first | refine zn ?_ | refine ze ?_ | refine zk ?_); with_reducible (constructor; repeat constructor); try refine zl ?_)))
        exact K_cutGN (.now ⟨_, fun _ _ h => h, c + 1, by omega, rfl⟩)
    rintro s' ⟨c2, hc2, rfl⟩
    generalize putW tr n W = V
    have hput : putP n b L = insG ltB n (if b.k = 0 then none else some b) L := if_neg hn
    rw [hput]
    generalize ho : (if b.k = 0 then none else some b) = o
    (repeat (first | (refine K_ifT rfl rfl ?_) | (refine K_ifF rfl rfl ?_) | (refine K_ev nmd [] hng (by kernel_rfl) fun hf C S K hC1 hC hS hK => ?_; simp (disch := first | omega | assumption) only [go_sem]; refine hK ?_; clear hK hS hC hC1 K S C hf) | ((first | refine zn ?_ | refine ze ?_ | refine zk ?_); with_reducible (constructor; repeat constructor); try refine zl ?_)))
    refine K_void 8 4 rfl ?_
    simp (disch := first | omega | assumption) only [go_sem]
    refine K_loop [0, 1, 5, 8, 9] (fun k s' => ∃ (i d j c : Nat), k = L.length - i ∧ i ≤ L.length ∧ 0 < d ∧ d < c ∧ (∀ j q, j < i → L[j]? = some q → ltB q.1 n) ∧ s' = ⟨[(0, .ptr r 0), (1, .str n), (5, .ptr (.sub 0 0 x.p) 0), (8, .sl (.sub d j x.p) 4 i), (9, .int .i64 i)], Mem.of [(r, .cells [.list 4 (L.map pairAV), OO, RR, .list 1 (V.map fun q => .str q.1), .bool tr]), (.sub 0 0 x.p, .cells [.int .i64 B.k, .int .i64 B.m, .str B.l]), (.sub d j x.p, .arr 4 ((L.take i).map pairAV))], c, []⟩) _ ⟨0, c2 + 1 + 1, 0, _, rfl, Nat.zero_le _, by omega, Nat.lt_succ_self _, fun j q h => by omega, ?_⟩ ?_
    · rfl
    rintro k s' ⟨i, d, j, c, rfl, hi, hd, hdc, hlt, rfl⟩
    have hd0 : ¬ d = 0 := by omega
    have hc0 : ¬ c = 0 := by omega
    (try ((first | refine zn ?_ | refine ze ?_ | refine zk ?_); with_reducible (constructor; repeat constructor)); try refine zl ?_)
    refine K_cut [0, 1, 5, 8, 9, 87] (fun s' => ∃ q : Bool, s' = ⟨[(0, .ptr r 0), (1, .str n), (5, .ptr (.sub 0 0 x.p) 0), (8, .sl (.sub d j x.p) 4 i), (9, .int .i64 i), (87, .bool q)], Mem.of [(r, .cells [.list 4 (L.map pairAV), OO, RR, .list 1 (V.map fun q => .str q.1), .bool tr]), (.sub 0 0 x.p, .cells [.int .i64 B.k, .int .i64 B.m, .str B.l]), (.sub d j x.p, .arr 4 ((L.take i).map pairAV))], c + 1, []⟩ ∧ (q = true ↔ ∃ e, L[i]? = some e ∧ ltB e.1 n)) ?_ ?_
    · generalize hg : L.getD i default = q
      obtain ⟨qn, qk, qm, ql⟩ := q
      refine K_ev nmd [(7, 76)] hng (by kernel_rfl) fun hf C S K hC1 hC hS hK => ?_; simp (disch := first | omega | assumption) only [go_sem, Oid.not_under_sub hr, Oid.sub_not_under hr, hg, pairAV, AV.cells]
      (repeat' (first | (refine evG_split (fun hv => ?_) (fun hv => ?_) <;> (try simp only [zb1, zb2, zb3, zb4, zb5] at hv) <;> simp (disch := first | omega | assumption) only [go_sem, hv, Oid.not_under_sub hr, Oid.sub_not_under hr, hg, pairAV, AV.cells]) | (refine hK ?_; clear hK hS hC hC1 K S C hf)))
      · have hl : i < L.length := by omega
        rw [getD_in hl] at hg
        exact K_cutN ⟨_, rfl, ⟨fun h => ⟨(qn, ⟨qk, qm, ql⟩), by rw [List.getElem?_eq_getElem hl, hg], h⟩, fun ⟨e, he, h⟩ => by
          rw [List.getElem?_eq_getElem hl, hg] at he
          simp only [Option.some.injEq] at he
          rw [← he] at h; exact h⟩⟩
      · exact K_cutN ⟨_, rfl, ⟨fun h => (by cases h), fun ⟨e, he, h⟩ => by rw [List.getElem?_eq_none (by omega)] at he; cases he⟩⟩
    rintro s' ⟨q, rfl, hq⟩
    refine K_if rfl rfl (fun hb => ?_) (fun hb => ?_)
    · obtain ⟨e, he, hle⟩ := hq.1 hb
      have hl : i < L.length := (List.getElem?_eq_some_iff.1 he).1
      have hts := take_map_snoc pairAV hl
      generalize hg : L.getD i default = g at hts
      obtain ⟨qn, qk, qm, ql⟩ := g
      simp only [pairAV] at hts
      (repeat (first | (refine K_ifT rfl rfl ?_) | (refine K_ifF rfl rfl ?_) | (refine K_ev nmd [] hng (by kernel_rfl) fun hf C S K hC1 hC hS hK => ?_; simp (disch := first | omega | assumption) only [go_sem, Oid.not_under_sub hr, Oid.sub_not_under hr, hg, pairAV, AV.cells]; refine hK ?_; clear hK hS hC hC1 K S C hf) | ((first | refine zn ?_ | refine ze ?_ | refine zk ?_); with_reducible (constructor; repeat constructor); try refine zl ?_)))
      refine ⟨_, _, by omega, fun _ _ h => h, i + 1, c + 1, 9, c + 1 + 1 + 1, rfl, by omega, by omega, by omega, fun j q' hj hq' => ?_, ?_⟩
      · rcases Nat.lt_or_ge j i with h | h
        · exact hlt j q' h hq'
        · obtain rfl : j = i := by omega
          rw [he] at hq'; simp only [Option.some.injEq] at hq'; rw [← hq']; exact hle
      · rw [hts]; rfl
    · have hnl : ∀ q, L[i]? = some q → ¬ ltB q.1 n := fun q' h1 h2 => by rw [hq.2 ⟨q', h1, h2⟩] at hb; cases hb
      have hsp := insG_split (lt := ltB) n o L i hi hlt hnl
      (try ((first | refine zn ?_ | refine ze ?_ | refine zk ?_); with_reducible (constructor; repeat constructor)); try refine zl ?_)
      refine K_ev nmd [] hng (by kernel_rfl) fun hf C S K hC1 hC hS hK => ?_; simp (disch := first | omega | assumption) only [go_sem, Oid.not_under_sub hr, Oid.sub_not_under hr]
      refine hK ?_; clear hK hS hC hC1 K S C hf
      refine K_next ?_
      refine K_cut [0, 1, 5, 8, 9] (fun s' => ∃ (d j c : Nat), 0 < d ∧ d < c ∧ s' = ⟨[(0, .ptr r 0), (1, .str n), (5, .ptr (.sub 0 0 x.p) 0), (8, .sl (.sub d j x.p) 4 (i + (tipG n o).length)), (9, .int .i64 i)], Mem.of [(r, .cells [.list 4 (L.map pairAV), OO, RR, .list 1 (V.map fun q => .str q.1), .bool tr]), (.sub 0 0 x.p, .cells [.int .i64 B.k, .int .i64 B.m, .str B.l]), (.sub d j x.p, .arr 4 ((L.take i ++ tipG n o).map pairAV))], c, []⟩) ?_ ?_
      · refine K_ifd rfl rfl (fun hb => ?_) (fun hb => ?_)
        · have hk : ¬ b.k = 0 := fun h => hb (hB0.2 h)
          obtain rfl := hB1 hk
          rw [if_neg hk] at ho
          subst ho
          (repeat (first | (refine K_ifT rfl rfl ?_) | (refine K_ifF rfl rfl ?_) | (refine K_ev nmd [] hng (by kernel_rfl) fun hf C S K hC1 hC hS hK => ?_; simp (disch := first | omega | assumption) only [go_sem, Oid.not_under_sub hr, Oid.sub_not_under hr]; refine hK ?_; clear hK hS hC hC1 K S C hf) | ((first | refine zn ?_ | refine ze ?_ | refine zk ?_); with_reducible (constructor; repeat constructor); try refine zl ?_)))
          exact K_cutN ⟨c + 1 + 1, 5, c + 1 + 1 + 1, by omega, by omega, by rw [List.map_append]; rfl⟩
        · have hk : b.k = 0 := hB0.1 (by simpa using hb)
          rw [if_pos hk] at ho
          subst ho
          (repeat (first | (refine K_ifT rfl rfl ?_) | (refine K_ifF rfl rfl ?_) | (refine K_ev nmd [] hng (by kernel_rfl) fun hf C S K hC1 hC hS hK => ?_; simp (disch := first | omega | assumption) only [go_sem, Oid.not_under_sub hr, Oid.sub_not_under hr]; refine hK ?_; clear hK hS hC hC1 K S C hf) | ((first | refine zn ?_ | refine ze ?_ | refine zk ?_); with_reducible (constructor; repeat constructor); try refine zl ?_)))
          exact K_cutN ⟨d, j, c + 1 + 1, hd, by omega, by simp only [tipG, List.append_nil]; rfl⟩
      rintro s' ⟨d, j, c, hd, hdc, rfl⟩
      have hd0 : ¬ d = 0 := by omega
      have hc0 : ¬ c = 0 := by omega
      refine K_seq ?_
      refine K_cut [0, 1, 5, 8, 9] (fun s' => ∃ (i' c2 : Nat), i' ≤ L.length ∧ d < c2 ∧ s' = ⟨[(0, .ptr r 0), (1, .str n), (5, .ptr (.sub 0 0 x.p) 0), (8, .sl (.sub d j x.p) 4 (i + (tipG n o).length)), (9, .int .i64 i')], Mem.of [(r, .cells [.list 4 (L.map pairAV), OO, RR, .list 1 (V.map fun q => .str q.1), .bool tr]), (.sub 0 0 x.p, .cells [.int .i64 B.k, .int .i64 B.m, .str B.l]), (.sub d j x.p, .arr 4 ((L.take i ++ tipG n o).map pairAV))], c2, []⟩ ∧ insG ltB n o L = L.take i ++ tipG n o ++ L.drop i') ?_ ?_
      · generalize hg : L.getD i default = g
        obtain ⟨qn, qk, qm, ql⟩ := g
        generalize htl : (tipG n o).length = tl
        generalize hrow : (L.take i ++ tipG n o).map pairAV = row
        refine K_seq ?_
        refine K_ev nmd [(7, 116)] hng (by kernel_rfl) fun hf C S K hC1 hC hS hK => ?_; simp (disch := first | omega | assumption) only [go_sem, Oid.not_under_sub hr, Oid.sub_not_under hr, hg, pairAV, AV.cells]
        (repeat' (first | (refine evG_split (fun hv => ?_) (fun hv => ?_) <;> (try simp only [zb1, zb2, zb3, zb4, zb5] at hv) <;> simp (disch := first | omega | assumption) only [go_sem, hv, Oid.not_under_sub hr, Oid.sub_not_under hr, hg, pairAV, AV.cells]) | (refine hK ?_; clear hK hS hC hC1 K S C hf)))
        · have hl : i < L.length := by omega
          rw [getD_in hl] at hg
          rw [List.getElem?_eq_getElem hl, hg] at hsp
          refine K_next ?_
          refine K_ifd rfl rfl (fun hb => ?_) (fun hb => ?_)
          · (repeat (first | (refine K_ifT rfl rfl ?_) | (refine K_ifF rfl rfl ?_) | (refine K_ev nmd [] hng (by kernel_rfl) fun hf C S K hC1 hC hS hK => ?_; simp (disch := first | omega | assumption) only [go_sem]; refine hK ?_; clear hK hS hC hC1 K S C hf) | ((first | refine zn ?_ | refine ze ?_ | refine zk ?_); with_reducible (constructor; repeat constructor); try refine zl ?_)))
            exact K_cutN ⟨i + 1, c + 1 + 1, by omega, by omega, rfl, by rw [hsp]; simp only [if_pos hb]⟩
          · (repeat (first | (refine K_ifT rfl rfl ?_) | (refine K_ifF rfl rfl ?_) | (refine K_ev nmd [] hng (by kernel_rfl) fun hf C S K hC1 hC hS hK => ?_; simp (disch := first | omega | assumption) only [go_sem]; refine hK ?_; clear hK hS hC hC1 K S C hf) | ((first | refine zn ?_ | refine ze ?_ | refine zk ?_); with_reducible (constructor; repeat constructor); try refine zl ?_)))
            exact K_cutN ⟨i, c + 1, by omega, by omega, rfl, by rw [hsp]; simp only [if_neg hb]⟩
        · rw [List.getElem?_eq_none (by omega)] at hsp
          (repeat (first | (refine K_ifT rfl rfl ?_) | (refine K_ifF rfl rfl ?_) | (refine K_ev nmd [] hng (by kernel_rfl) fun hf C S K hC1 hC hS hK => ?_; simp (disch := first | omega | assumption) only [go_sem]; refine hK ?_; clear hK hS hC hC1 K S C hf) | ((first | refine zn ?_ | refine ze ?_ | refine zk ?_); with_reducible (constructor; repeat constructor); try refine zl ?_)))
          exact K_cutN ⟨i, c + 1, by omega, by omega, rfl, by rw [hsp]; simp [List.drop_eq_nil_of_le (show L.length ≤ i by omega)]⟩
      rintro s' ⟨i', c2, hi', hdc2, rfl, hins⟩
      have hc20 : ¬ c2 = 0 := by omega
      have htl : (tipG n o).length ≤ 1 := by cases o <;> simp [tipG]
      (try ((first | refine zn ?_ | refine ze ?_ | refine zk ?_); with_reducible (constructor; repeat constructor)); try refine zl ?_)
      refine K_ev nmd [] hng (by kernel_rfl) fun hf C S K hC1 hC hS hK => ?_; simp (disch := first | omega | assumption) only [go_sem, Oid.not_under_sub hr, Oid.sub_not_under hr]
      refine hK ?_; clear hK hS hC hC1 K S C hf
      refine K_nil (G_freezeM (.sub c2 8 x.p) r 4 ((insG ltB n o L).map pairAV) [.sl (.sub c2 8 x.p) 4 (i + (tipG n o).length + (L.length - i')), OO, RR, .list 1 (V.map fun q => .str q.1), .bool tr] [.list 4 ((insG ltB n o L).map pairAV), OO, RR, .list 1 (V.map fun q => .str q.1), .bool tr] ?_ ?_ ?_ (.turn ?_ (.keep (.keep (.keep (.keep .nil))))) (.now (done_updN rfl ?_ ?_)))
      · simp (disch := first | omega | assumption) only [go_sem, Oid.not_under_sub hr, Oid.sub_not_under hr]
        rw [hins]; simp
      · simp (disch := first | omega | assumption) only [go_sem, Oid.not_under_sub hr, Oid.sub_not_under hr]
      · exact fun e => hr (e ▸ Oid.under_sub (Oid.under_refl _))
      · rw [hins]; simp only [List.length_map, List.length_append, List.length_take, List.length_drop]; omega
      · simp (disch := first | omega | assumption) only [go_sem, Oid.not_under_sub hr, Oid.sub_not_under hr]
        all_goals simp only [List.mem_cons, List.not_mem_nil, or_false, forall_eq_or_imp, forall_eq, Option.some.injEq, forall_eq', Mem.of_cons_at, eq_self, if_true, ↓reduceIte, reduceCtorEq, implies_true, not_true_eq_false, false_imp_iff, true_and, and_true, false_and, and_false, imp_self]
      · simp (disch := first | omega | assumption) only [go_sem, Oid.not_under_sub hr, Oid.sub_not_under hr]
        all_goals simp only [List.mem_cons, List.not_mem_nil, or_false, forall_eq_or_imp, forall_eq, Option.some.injEq, forall_eq', Mem.of_cons_at, eq_self, if_true, ↓reduceIte, reduceCtorEq, implies_true, not_true_eq_false, false_imp_iff, true_and, and_true, false_and, and_false, imp_self]
end Go.Proofs.YtaecbmbecofijaaGreatDoor
namespace Go.Proofs.YtaecbmbecofijaaGreatDoor
open Go Go.Ab
set_option maxRecDepth 20000
set_option maxHeartbeats 4000000
theorem newR_ok (p : Oid) : CallOK Tryz.prog 16 [] (Oid.under p) ⟨[], .ptr (.sub 1 1 p) 0, [(.sub 1 1 p, some (.cells [.list 4 [], .list 4 [], .list 3 [], .list 1 [], .bool false]))]⟩ := by
  refine fnOK (n := 3) (rs := [.tmp 0]) Tryz.func16 rfl rfl (by decide) rfl rfl rfl ?_; rintro x rfl hrd hng
  refine T_gend ?_
  (repeat (first | (refine K_ifT rfl rfl ?_) | (refine K_ifF rfl rfl ?_) | (refine K_ev nmd [] hng (by kernel_rfl) fun hf C S K hC1 hC hS hK => ?_; simp (disch := first | omega | assumption) only [go_sem]; refine hK ?_; clear hK hS hC hC1 K S C hf) | ((first | refine zn ?_ | refine ze ?_ | refine zk ?_); with_reducible (constructor; repeat constructor); try refine zl ?_)))
  refine K_ret (G_cells (.sub 1 1 x.p) [.nilSl, .nilSl, .nilSl, .nilSl, .bool false] [.list 4 [], .list 4 [], .list 3 [], .list 1 [], .bool false] ?_ (.cons (.nilList 4) (.cons (.nilList 4) (.cons (.nilList 3) (.cons (.nilList 1) (.cons (.refl _) .nil))))) (.now (done_updR rfl ?_ ?_)))
  · simp (disch := first | omega | assumption) only [go_sem]
  · simp (disch := first | omega | assumption) only [go_sem]
    all_goals simp only [List.mem_cons, List.not_mem_nil, or_false, forall_eq_or_imp, forall_eq, Option.some.injEq, forall_eq', Mem.of_cons_at, eq_self, if_true, ↓reduceIte, reduceCtorEq, implies_true, not_true_eq_false, false_imp_iff, true_and, and_true, false_and, and_false, imp_self]
  · simp (disch := first | omega | assumption) only [go_sem]
    all_goals simp only [List.mem_cons, List.not_mem_nil, or_false, forall_eq_or_imp, forall_eq, Option.some.injEq, forall_eq', Mem.of_cons_at, eq_self, if_true, ↓reduceIte, reduceCtorEq, implies_true, not_true_eq_false, false_imp_iff, true_and, and_true, false_and, and_false, imp_self]
theorem touch0_ok (r : Oid) (L : PL) (OO RR WW : AV) (n : Str) (f : Bool) (p : Oid) (hr : ¬ Oid.under p r) :
    CallOK Tryz.prog 105 [.ptr r 0, .str n, .bool f] (Oid.under p) ⟨[(r, .cells [.list 4 (L.map pairAV), OO, RR, WW, .bool false])], .tuple [], []⟩ := by
  refine fnOK (n := 144) (rs := []) Tryz.func105 rfl rfl (by decide) rfl rfl rfl ?_; rintro x rfl hrd hng
  (try ((first | refine zn ?_ | refine ze ?_ | refine zk ?_); with_reducible (constructor; repeat constructor)); try refine zl ?_)
  refine K_ev nmd [(5, 14), (8, 17)] hng (by kernel_rfl) fun hf C S K hC1 hC hS hK => ?_; simp (disch := first | omega | assumption) only [go_sem, Oid.not_under_sub hr, Oid.sub_not_under hr]
  refine hK ?_; clear hK hS hC hC1 K S C hf
  (repeat (first | (refine K_ifT rfl rfl ?_) | (refine K_ifF rfl rfl ?_) | (refine K_ev nmd [] hng (by kernel_rfl) fun hf C S K hC1 hC hS hK => ?_; simp (disch := first | omega | assumption) only [go_sem]; refine hK ?_; clear hK hS hC hC1 K S C hf) | ((first | refine zn ?_ | refine ze ?_ | refine zk ?_); with_reducible (constructor; repeat constructor); try refine zl ?_)))
  refine K_ret (done_upd rfl ?_ ?_)
  all_goals simp only [List.mem_cons, List.not_mem_nil, or_false, forall_eq_or_imp, forall_eq, Option.some.injEq, forall_eq', Mem.of_cons_at, eq_self, if_true, ↓reduceIte, reduceCtorEq, implies_true, not_true_eq_false, false_imp_iff, true_and, and_true, false_and, and_false, imp_self]
theorem pathsR_ok (r : Oid) (L : PL) (hL : L.length ≤ 1000000) (OO RR WW : AV) (tr : Bool) (p : Oid) (hr : ¬ Oid.under p r) :
    CallOK Tryz.prog 63 [.ptr r 0] (Oid.under p) ⟨[(r, .cells [.list 4 (L.map pairAV), OO, RR, WW, .bool tr])], .list 1 (L.map fun q => .str q.1), []⟩ := by
  refine fnOK (n := 26) (rs := [.tmp 2]) Tryz.func63 rfl rfl (by decide) rfl rfl rfl ?_; rintro x rfl hrd hng
  refine T_gend ?_
  (repeat (first | (refine K_ifT rfl rfl ?_) | (refine K_ifF rfl rfl ?_) | (refine K_ev nmd [] hng (by kernel_rfl) fun hf C S K hC1 hC hS hK => ?_; simp (disch := first | omega | assumption) only [go_sem, Oid.not_under_sub hr, Oid.sub_not_under hr]; refine hK ?_; clear hK hS hC hC1 K S C hf) | ((first | refine zn ?_ | refine ze ?_ | refine zk ?_); with_reducible (constructor; repeat constructor); try refine zl ?_)))
  refine K_void 3 1 rfl ?_
  simp (disch := first | omega | assumption) only [go_sem]
  refine K_loop [0, 3, 4] (fun k s' => ∃ (i d j c : Nat), k = L.length - i ∧ i ≤ L.length ∧ d < c ∧ s' = ⟨[(0, .ptr r 0), (3, .sl (.sub d j x.p) 1 i), (4, .int .i64 i)], Mem.of [(r, .cells [.list 4 (L.map pairAV), OO, RR, WW, .bool tr]), (.sub d j x.p, .arr 1 ((L.take i).map fun q => .str q.1))], c, []⟩) _ ⟨0, 3, 0, 4, rfl, Nat.zero_le _, by omega, rfl⟩ ?_
  rintro k s' ⟨i, d, j, c, rfl, hi, hdc, rfl⟩
  (repeat (first | (refine K_ifT rfl rfl ?_) | (refine K_ifF rfl rfl ?_) | (refine K_ev nmd [] hng (by kernel_rfl) fun hf C S K hC1 hC hS hK => ?_; simp (disch := first | omega | assumption) only [go_sem, Oid.not_under_sub hr, Oid.sub_not_under hr]; refine hK ?_; clear hK hS hC hC1 K S C hf) | ((first | refine zn ?_ | refine ze ?_ | refine zk ?_); with_reducible (constructor; repeat constructor); try refine zl ?_)))
  refine K_ifd rfl rfl (fun hb => ?_) (fun hb => ?_)
  · have hl : i < L.length := by omega
    have hts := take_map_snoc (fun q : Str × Bits => AV.str q.1) hl
    generalize hg : L.getD i default = g at hts
    obtain ⟨qn, qk, qm, ql⟩ := g
    simp only at hts
    (repeat (first | (refine K_ifT rfl rfl ?_) | (refine K_ifF rfl rfl ?_) | (refine K_ev nmd [] hng (by kernel_rfl) fun hf C S K hC1 hC hS hK => ?_; simp (disch := first | omega | assumption) only [go_sem, Oid.not_under_sub hr, Oid.sub_not_under hr, hg, pairAV, AV.cells]; refine hK ?_; clear hK hS hC hC1 K S C hf) | ((first | refine zn ?_ | refine ze ?_ | refine zk ?_); with_reducible (constructor; repeat constructor); try refine zl ?_)))
    exact ⟨_, _, by omega, fun _ _ h => h, i + 1, c + 1, 10, c + 1 + 1 + 1, rfl, by omega, by omega, by rw [hts]; rfl⟩
  · obtain rfl : i = L.length := by omega
    (repeat (first | (refine K_ifT rfl rfl ?_) | (refine K_ifF rfl rfl ?_) | (refine K_ev nmd [] hng (by kernel_rfl) fun hf C S K hC1 hC hS hK => ?_; simp (disch := first | omega | assumption) only [go_sem, Oid.not_under_sub hr, Oid.sub_not_under hr]; refine hK ?_; clear hK hS hC hC1 K S C hf) | ((first | refine zn ?_ | refine ze ?_ | refine zk ?_); with_reducible (constructor; repeat constructor); try refine zl ?_)))
    refine K_ret (G_freeze (.sub d j x.p) 1 (L.map fun q => .str q.1) ?_ (.now (done_updR ?_ ?_ ?_)))
    · simp (disch := first | omega | assumption) only [go_sem, Oid.not_under_sub hr, Oid.sub_not_under hr]
      rw [List.take_length]
    · simp (disch := first | omega | assumption) only [go_sem, Oid.not_under_sub hr, Oid.sub_not_under hr]
    · simp (disch := first | omega | assumption) only [go_sem, Oid.not_under_sub hr, Oid.sub_not_under hr]
      all_goals simp only [List.mem_cons, List.not_mem_nil, or_false, forall_eq_or_imp, forall_eq, Option.some.injEq, forall_eq', Mem.of_cons_at, eq_self, if_true, ↓reduceIte, reduceCtorEq, implies_true, not_true_eq_false, false_imp_iff, true_and, and_true, false_and, and_false, imp_self]
    · simp (disch := first | omega | assumption) only [go_sem, Oid.not_under_sub hr, Oid.sub_not_under hr]
      all_goals simp only [List.mem_cons, List.not_mem_nil, or_false, forall_eq_or_imp, forall_eq, Option.some.injEq, forall_eq', Mem.of_cons_at, eq_self, if_true, ↓reduceIte, reduceCtorEq, implies_true, not_true_eq_false, false_imp_iff, true_and, and_true, false_and, and_false, imp_self]
end Go.Proofs.YtaecbmbecofijaaGreatDoor
