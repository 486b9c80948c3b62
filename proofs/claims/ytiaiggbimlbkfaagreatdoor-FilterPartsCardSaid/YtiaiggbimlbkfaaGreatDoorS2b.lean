/- The library's Atoi; tuple.Number, walked. -/
import Derived.Test.YtiaiggbimlbkfaaGreatDoorS2
import Derived.Lib.AtoiAllCases
set_option linter.unusedVariables false
set_option linter.unusedSimpArgs false
namespace Go.Proofs.YtiaiggbimlbkfaaGreatDoor
open Go Go.Ab Go.RowKit
set_option maxRecDepth 20000
set_option maxHeartbeats 2000000
abbrev Str := List UInt8
theorem mono_sub' {c i : Nat} {p : Oid} (hi : (i == 999983) = false) (hp : p.mono = false) : (Oid.sub c i p).mono = false := by rw [Oid.mono_sub, hi, hp]; rfl
def atoiN (s : Str) : Int := match Lib.atoiAll s with | .ok v => v | .range => Lib.atoiSat s | _ => 0
def atoiG (s : Str) : Bool := match Lib.atoiAll s with | .ok _ => true | _ => false
def atoiE (s : Str) : AV := if atoiG s = true then .nilIface else .iface 126 .undef
theorem below_bytes (w : World) (e : TypeId) (s : ByteArray) : Below w.heap.size w (Lib.bytesWorld w e s) := by
  unfold Lib.bytesWorld
  exact Lib.below_freeze ((Below.drew (Below.refl _ w)).alloc (Nat.le_refl _) _) (p := ⟨w.heap.size, _, none⟩) (Nat.le_refl _) _
theorem atoi_ok (s : Str) (hl : s.length ≤ 281474976710656) (p : Oid) (hp : p.mono = false) : CallOK Tryz.prog 95 [.str s] (Oid.under p) ⟨[], .tuple [.int .i64 (atoiN s), atoiE s], []⟩ :=
  callOK_below (by kernel_rfl) hp fun g args w ha ht => by
    obtain ⟨v, rfl, hv⟩ := ha.one
    obtain ⟨b, rfl, hb⟩ := hv.str_inv
    obtain ⟨_, _, ⟨v1, h1, h2⟩, ⟨v2, h3, h4⟩, _⟩ := ht.facts
    have hsz : b.size = s.length := by rw [← hb]; simp
    have pair : ∀ (x y : AV) (u v : Value), VR g x u → VR g y v → VR g (.tuple [x, y]) (.tuple #[u, v]) := fun x y u v hx hy => .tuple _ _ rfl (fun j hj => by
      match j, hj with
      | 0, _ => exact hx
      | 1, _ => exact hy)
    cases hc : Lib.atoiAll s with
    | ok n =>
      refine (Tryz.strconv_Atoi_ok b (by omega) n (by rw [hb]; exact hc) w).mono ?_
      rintro e w' ⟨rfl, hw⟩
      refine ⟨_, rfl, pair _ _ _ _ ?_ ?_, ?_⟩
      · simp only [atoiN, hc]; exact .int _ _
      · simp only [atoiE, atoiG, hc, if_true]; exact .nilIface
      · rcases hw with rfl | ⟨t, rfl⟩
        · exact Below.refl _ _
        · exact below_bytes _ _ _
    | range =>
      refine (Tryz.strconv_Atoi_range b (by omega) (by rw [hb]; exact hc) v2 w (ht.com 3 0 _ h3) h4).mono ?_
      rintro e w' ⟨N, rfl, _, _, hw⟩
      refine ⟨_, rfl, pair _ _ _ _ ?_ ?_, hw⟩
      · simp only [atoiN, hc, hb]; exact .int _ _
      · simp only [atoiE, atoiG, hc, Bool.false_eq_true, if_false]; exact .iface _ _ _ (.unk _)
    | _ =>
      refine (Any.strconv_Atoi_syntax Tryz.laysC172 b (by omega) (by rw [hb]; exact hc) v1 w (ht.com 2 0 _ h1) h2).mono ?_
      rintro e w' ⟨N, rfl, _, _, hw⟩
      refine ⟨_, rfl, pair _ _ _ _ ?_ ?_, hw⟩
      · simp only [atoiN, hc]; exact .int _ _
      · simp only [atoiE, atoiG, hc, Bool.false_eq_true, if_false]; exact .iface _ _ _ (.unk _)
/-- What Number says. -/
def numG (s : Str) : Bool := atoiG s && decide (0 ≤ atoiN s) && decide (s.length ≤ 9) && decide (Lib.itoa (atoiN s) = s)
theorem atoiN_bounds (s : Str) : -9223372036854775808 ≤ atoiN s ∧ atoiN s ≤ 9223372036854775807 := by
  unfold atoiN
  split
  · exact Lib.atoiAll_bounds (by assumption)
  · unfold Lib.atoiSat; split <;> omega
  · omega
theorem numG_0 {s : Str} (h : atoiG s = false) : numG s = false := by simp [numG, h]
theorem numG_2 {s : Str} (h : ¬ 0 ≤ atoiN s) : numG s = false := by simp [numG, h]
theorem numG_3 {s : Str} (h : ¬ s.length ≤ 9) : numG s = false := by simp only [numG, decide_eq_false h, Bool.and_false, Bool.false_and]
theorem numG_1 {s : Str} (h : atoiG s = true) (h2 : 0 ≤ atoiN s) (h3 : s.length ≤ 9) : numG s = decide (Lib.itoa (atoiN s) = s) := by simp only [numG, h, decide_eq_true h2, decide_eq_true h3, Bool.true_and]
theorem number_ok (s : Str) (hl : s.length ≤ 281474976710656) (p : Oid) (hp : p.mono = false) : CallOK Tryz.prog 71 [.str s] (Oid.under p) ⟨[], .tuple [.int .i64 (atoiN s), .bool (numG s)], []⟩ := by
  obtain ⟨hb1, hb2⟩ := atoiN_bounds s
  cases hg : atoiG s with
  | true =>
    have hZ : ∀ p : Oid, p.mono = false → CallOK Tryz.prog 95 [.str s] (Oid.under p) ⟨[], .tuple [.int .i64 (atoiN s), .nilIface], []⟩ := fun p hp => by have := atoi_ok s hl p hp; rwa [atoiE, if_pos hg] at this
    refine fnOK (n := 29) (rs := [.tmp 2, .tmp 3]) Tryz.func71 rfl rfl (by decide) rfl rfl rfl ?_; rintro x rfl hrd hng
    (repeat (first | (refine K_ifT rfl rfl ?_) | (refine K_ifF rfl rfl ?_) | (refine K_ev nmd [] hng (by kernel_rfl) fun hf C S K hC1 hC hS hK => ?_; simp (disch := first | omega | assumption) only [go_sem]; (repeat ((first | refine hC1 _ (hZ _ (mono_sub' rfl hp)) (by simp (disch := first | omega | assumption) only [go_sem]) ?_); simp (disch := first | omega | assumption) only [go_sem])); refine hK ?_; clear hK hS hC hC1 K S C hf) | ((first | refine zk ?_ | refine zn ?_ | refine ze ?_); with_reducible (constructor; repeat constructor); try refine zl ?_)))
    refine K_ev nmd [(3, 14), (7, 18), (12, 23)] hng (by kernel_rfl) fun hf C S K hC1 hC hS hK => ?_; simp (disch := first | omega | assumption) only [go_sem]
    (repeat' (first | (refine evG_split (fun hv => ?_) (fun hv => ?_) <;> (try simp only [zb1, zb2, zb3, zb4, zb5] at hv) <;> simp (disch := first | omega | assumption) only [go_sem, hv]) | (refine hC1 _ (itoa_ok (atoiN s) hb1 hb2 _ (mono_sub' rfl hp)) (by simp (disch := first | omega | assumption) only [go_sem]) ?_; simp (disch := first | omega | assumption) only [go_sem]) | (refine hK ?_; clear hK hS hC hC1 K S C hf)))
    · (try ((first | refine zk ?_ | refine zn ?_ | refine ze ?_); with_reducible (constructor; repeat constructor)); try refine zl ?_)
      exact K_ret (done_plain (by rw [numG_1 hg (by omega) (by omega)]; rfl))
    · (try ((first | refine zk ?_ | refine zn ?_ | refine ze ?_); with_reducible (constructor; repeat constructor)); try refine zl ?_)
      exact K_ret (done_plain (by rw [numG_3 (by omega)]; rfl))
    · (try ((first | refine zk ?_ | refine zn ?_ | refine ze ?_); with_reducible (constructor; repeat constructor)); try refine zl ?_)
      exact K_ret (done_plain (by rw [numG_2 hv]; rfl))
  | false =>
    have hZ : ∀ p : Oid, p.mono = false → CallOK Tryz.prog 95 [.str s] (Oid.under p) ⟨[], .tuple [.int .i64 (atoiN s), .iface 126 .undef], []⟩ := fun p hp => by have := atoi_ok s hl p hp; rwa [atoiE, if_neg (by rw [hg]; decide)] at this
    refine fnOK (n := 29) (rs := [.tmp 2, .tmp 3]) Tryz.func71 rfl rfl (by decide) rfl rfl rfl ?_; rintro x rfl hrd hng
    (repeat (first | (refine K_ifT rfl rfl ?_) | (refine K_ifF rfl rfl ?_) | (refine K_ev nmd [] hng (by kernel_rfl) fun hf C S K hC1 hC hS hK => ?_; simp (disch := first | omega | assumption) only [go_sem]; (repeat ((first | refine hC1 _ (hZ _ (mono_sub' rfl hp)) (by simp (disch := first | omega | assumption) only [go_sem]) ?_); simp (disch := first | omega | assumption) only [go_sem])); refine hK ?_; clear hK hS hC hC1 K S C hf) | ((first | refine zk ?_ | refine zn ?_ | refine ze ?_); with_reducible (constructor; repeat constructor); try refine zl ?_)))
    refine K_ev nmd [(3, 14), (7, 18), (12, 23)] hng (by kernel_rfl) fun hf C S K hC1 hC hS hK => ?_; simp (disch := first | omega | assumption) only [go_sem]
    (repeat' (first | (refine evG_split (fun hv => ?_) (fun hv => ?_) <;> (try simp only [zb1, zb2, zb3, zb4, zb5] at hv) <;> simp (disch := first | omega | assumption) only [go_sem, hv]) | (refine hC1 _ (itoa_ok (atoiN s) hb1 hb2 _ (mono_sub' rfl hp)) (by simp (disch := first | omega | assumption) only [go_sem]) ?_; simp (disch := first | omega | assumption) only [go_sem]) | (refine hK ?_; clear hK hS hC hC1 K S C hf)))
    (try ((first | refine zk ?_ | refine zn ?_ | refine ze ?_); with_reducible (constructor; repeat constructor)); try refine zl ?_)
    exact K_ret (done_plain (by rw [numG_0 hg]; rfl))
theorem numG_pos {s : Str} (h : numG s = true) : 0 ≤ atoiN s := by
  simp only [numG, Bool.and_eq_true, decide_eq_true_eq] at h; exact h.1.1.2
end Go.Proofs.YtiaiggbimlbkfaaGreatDoor
