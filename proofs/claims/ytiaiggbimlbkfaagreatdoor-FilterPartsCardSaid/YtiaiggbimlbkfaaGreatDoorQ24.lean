/- A text of pieces, by numbers. -/
import Derived.Test.YtiaiggbimlbkfaaGreatDoorQ8
import Derived.Test.YtiaiggbimlbkfaaGreatDoorS6a
set_option linter.unusedVariables false
set_option linter.unusedSimpArgs false
namespace Go.Proofs.YtiaiggbimlbkfaaGreatDoor
open Go Go.Ab
set_option maxRecDepth 20000
set_option maxHeartbeats 4000000
/-- The text of the first i numbers. -/
def piecesN (ps : List Str) (l : List UInt8) (i : Nat) : Str := (l.take i).flatMap fun b => ps.getD (b.toNat % ps.length) default
def piecesX (ps : List Str) (l : List UInt8) : Str := piecesN ps l (min l.length 14)
theorem piecesN_succ {ps : List Str} {l : List UInt8} {i : Nat} (h : i < l.length) : piecesN ps l (i + 1) = piecesN ps l i ++ ps.getD ((l.getD i 0).toNat % ps.length) default := by
  unfold piecesN
  rw [List.take_add_one, List.flatMap_append, List.getElem?_eq_getElem h, List.getD_eq_getElem?_getD (l := l), List.getElem?_eq_getElem h]
  simp
theorem getD_small {ps : List Str} (hs : ∀ s ∈ ps, s.length ≤ 100) (k : Nat) : (ps.getD k default).length ≤ 100 := by
  rw [List.getD_eq_getElem?_getD]
  cases h : ps[k]? with
  | none => exact Nat.zero_le _
  | some s => exact hs s (List.mem_of_getElem? h)
theorem piecesN_len {ps : List Str} (hs : ∀ s ∈ ps, s.length ≤ 100) (l : List UInt8) : ∀ i, (piecesN ps l i).length ≤ 100 * i
  | 0 => by simp [piecesN]
  | i + 1 => by
    have ih := piecesN_len hs l i
    by_cases h : i < l.length
    · rw [piecesN_succ h, List.length_append]
      have := getD_small hs ((l.getD i 0).toNat % ps.length)
      omega
    · have : piecesN ps l (i + 1) = piecesN ps l i := by unfold piecesN; rw [List.take_of_length_le (by omega), List.take_of_length_le (by omega)]
      rw [this]; omega
theorem piecesX_len {ps : List Str} (hs : ∀ s ∈ ps, s.length ≤ 100) (l : List UInt8) : (piecesX ps l).length ≤ 1400 := by
  have := piecesN_len hs l (min l.length 14)
  unfold piecesX; omega
theorem pieces_ok (l : List UInt8) (ps : List Str) (hl : l.length ≤ 140737488355328) (hp0 : 0 < ps.length) (hp1 : ps.length ≤ 1000) (hs : ∀ s ∈ ps, s.length ≤ 100) (p : Oid) :
    CallOK Tryz.prog 25 [.list 1 (l.map byA), .list 1 (ps.map AV.str)] (Oid.under p) ⟨[], .str (piecesX ps l), []⟩ := by
  refine fnOK (n := 31) (rs := [.tmp 4]) Tryz.func25 rfl rfl (by decide) rfl rfl rfl ?_; rintro x rfl hrd hng
  (repeat (first | (refine K_ifT rfl rfl ?_) | (refine K_ifF rfl rfl ?_) | (refine K_ev nmd [] hng (by kernel_rfl) fun hf C S K hC1 hC hS hK => ?_; simp (disch := first | omega | assumption) only [go_sem]; refine hK ?_; clear hK hS hC hC1 K S C hf) | ((first | refine zk ?_ | refine zn ?_ | refine ze ?_); with_reducible (constructor; repeat constructor); try refine zl ?_)))
  refine K_loop [0, 1, 5, 6] (fun k s' => ∃ (i c : Nat), k = 14 - i ∧ i ≤ 14 ∧ i ≤ l.length ∧ s' = ⟨[(0, .list 1 (l.map byA)), (1, .list 1 (ps.map AV.str)), (5, .str (piecesN ps l i)), (6, .int .i64 (i : Int))], Mem.of [], c, []⟩) _ ⟨0, _, rfl, Nat.zero_le _, Nat.zero_le _, rfl⟩ ?_
  rintro k s' ⟨i, c, rfl, hi, hil, rfl⟩
  have hlen := piecesN_len hs l i
  (try ((first | refine zk ?_ | refine zn ?_ | refine ze ?_); with_reducible (constructor; repeat constructor)); try refine zl ?_)
  refine K_cut [0, 1, 5, 6, 14] (fun s' => ∃ (b : Bool) (c' : Nat), s' = ⟨[(0, .list 1 (l.map byA)), (1, .list 1 (ps.map AV.str)), (5, .str (piecesN ps l i)), (6, .int .i64 (i : Int)), (14, .bool b)], Mem.of [], c', []⟩ ∧ (b = true ↔ i < min l.length 14)) ?_ ?_
  · refine K_ev nmd [(4, 11)] hng (by kernel_rfl) fun hf C S K hC1 hC hS hK => ?_; simp (disch := first | omega | assumption) only [go_sem, List.length_map, decide_true, decide_false, ne_eq, not_true_eq_false, not_false_eq_true]
    (repeat' (first | (refine evG_split (fun hv => ?_) (fun hv => ?_) <;> (try simp only [zb1, zb2, zb3, zb4, zb5] at hv) <;> simp (disch := first | omega | assumption) only [go_sem, hv, List.length_map, decide_true, decide_false, ne_eq, not_true_eq_false, not_false_eq_true]) | (refine hK ?_; clear hK hS hC hC1 K S C hf)))
    all_goals first
      | contradiction
      | exact K_cutN ⟨_, _, rfl, by simp only [decide_eq_true_eq]; omega⟩
      | exact K_cutN ⟨_, _, rfl, by simp only [Bool.false_eq_true, false_iff]; omega⟩
  rintro s' ⟨b, c', rfl, hiff⟩
  refine K_if rfl rfl (fun hb => ?_) (fun hb => ?_)
  · have h1 := hiff.1 hb
    have hlt : i < l.length := by omega
    have hst := piecesN_succ (ps := ps) hlt
    have hy := (l.getD i 0).toNat_lt
    have e0 : (default : UInt8) = 0 := rfl
    have hsm := getD_small hs ((l.getD i 0).toNat % ps.length)
    have hmod : (l.getD i 0).toNat % ps.length < ps.length := Nat.mod_lt _ hp0
    have htm := tmod_nat (l.getD i 0).toNat ps.length
    generalize hq : (l.getD i 0).toNat % ps.length = q at hst hsm hmod htm
    (repeat (first | (refine K_ifT rfl rfl ?_) | (refine K_ifF rfl rfl ?_) | (refine K_ev nmd [] hng (by kernel_rfl) fun hf C S K hC1 hC hS hK => ?_; simp (disch := first | omega | assumption) only [go_sem, List.length_map, byA, e0, htm]; (repeat ((first | refine hC1 _ () (by simp (disch := first | omega | assumption) only [go_sem]) ?_); simp (disch := first | omega | assumption) only [go_sem])); refine hK ?_; clear hK hS hC hC1 K S C hf) | ((first | refine zk ?_ | refine zn ?_ | refine ze ?_); with_reducible (constructor; repeat constructor); try refine zl ?_)))
    exact ⟨_, _, by omega, fun _ _ h => h, i + 1, _, rfl, by omega, by omega, by rw [hst]; rfl⟩
  · obtain rfl : i = min l.length 14 := by
      have : ¬ i < min l.length 14 := fun h => by rw [hiff.2 h] at hb; cases hb
      omega
    (repeat (first | (refine K_ifT rfl rfl ?_) | (refine K_ifF rfl rfl ?_) | (refine K_ev nmd [] hng (by kernel_rfl) fun hf C S K hC1 hC hS hK => ?_; simp (disch := first | omega | assumption) only [go_sem]; refine hK ?_; clear hK hS hC hC1 K S C hf) | ((first | refine zk ?_ | refine zn ?_ | refine ze ?_); with_reducible (constructor; repeat constructor); try refine zl ?_)))
    exact K_ret (done1 rfl)
end Go.Proofs.YtiaiggbimlbkfaaGreatDoor
