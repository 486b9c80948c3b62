/- A part of the proof: contracts of functions of the program. -/
import Derived.Test.YtpdmiojenhodlaaH5
set_option linter.unusedVariables false
set_option linter.unusedSimpArgs false
namespace Go.Proofs.Ytpdmiojenhodlaa
open Go Go.Ab
set_option maxRecDepth 20000
set_option maxHeartbeats 4000000
theorem range_cons {i n : Nat} (h : i < n) : List.range' i (n - i) = i :: List.range' (i + 1) (n - (i + 1)) := by
  obtain ⟨d, hd⟩ : ∃ d, n - i = d + 1 := ⟨n - i - 1, by omega⟩
  rw [hd, List.range'_succ, show n - (i + 1) = d by omega]
theorem foldl_drop {α β : Type} [Inhabited α] (f : β → α → β) (b : β) {l : List α} {i : Nat} (h : i < l.length) : (l.drop i).foldl f b = (l.drop (i + 1)).foldl f (f b (l.getD i default)) := by
  rw [drop_cons h, List.foldl_cons]
theorem putF_length (h : Hz) : ∀ l, (putF l h).length ≤ l.length + 1
  | [] => by simp [putF]
  | x :: l => by
    simp only [putF]
    split
    · have := putF_length h l; simp only [List.length_cons]; omega
    · split <;> simp
theorem refRead_length (i k : Nat) (w : Tch) (out : List Hz) (r : Tch) : (refRead i k w out r).length ≤ out.length + 1 := by
  unfold refRead; split
  · exact putF_length _ _
  · omega
theorem refWrite_length (i k : Nat) (w : Tch) (out : List Hz) (r : Tch) : (refWrite i k w out r).length ≤ out.length + 1 := by
  unfold refWrite; split
  · exact putF_length _ _
  · omega
def bnd (i k n m : Nat) : Nat := i * 54000000 + k * 180000 + n * 600 + m
theorem bnd_mono {x i k n m k' n' m' : Nat} (h : x ≤ bnd i k n m) (hk : k ≤ k') (hn : n ≤ n') (hm : m ≤ m') : x ≤ bnd i k' n' m' :=
  Nat.le_trans h (Nat.add_le_add (Nat.add_le_add (Nat.add_le_add_left (Nat.mul_le_mul_right _ hk) _) (Nat.mul_le_mul_right _ hn)) hm)
theorem bnd_0 {x i k n m : Nat} (h : x ≤ bnd i 0 0 0) : x ≤ bnd i k n m := bnd_mono h (Nat.zero_le _) (Nat.zero_le _) (Nat.zero_le _)
theorem bnd_m {x y i k n m : Nat} (h : x ≤ bnd i k n m) (hy : y ≤ x + 1) : y ≤ bnd i k n (m + 1) := Nat.le_trans hy (Nat.succ_le_succ h)
theorem aux_n {x a b n m : Nat} (C : Nat) (h : x ≤ a + b + n * C + m) (hm : m ≤ C) : x ≤ a + b + (n + 1) * C + 0 := by rw [Nat.succ_mul]; omega
theorem aux_k {x a k n : Nat} (B C : Nat) (h : x ≤ a + k * B + n * C + 0) (hm : n * C ≤ B) : x ≤ a + (k + 1) * B + 0 * C + 0 := by rw [Nat.succ_mul, Nat.zero_mul]; omega
theorem aux_i {x i k : Nat} (A B C : Nat) (h : x ≤ i * A + k * B + 0 * C + 0) (hm : k * B ≤ A) : x ≤ (i + 1) * A + 0 * B + 0 * C + 0 := by rw [Nat.zero_mul] at *; rw [Nat.succ_mul, Nat.zero_mul]; omega
theorem bnd_n {x i k n m : Nat} (h : x ≤ bnd i k n m) (hm : m ≤ 600) : x ≤ bnd i k (n + 1) 0 := aux_n 600 h hm
theorem bnd_k {x i k n : Nat} (h : x ≤ bnd i k n 0) (hm : n ≤ 300) : x ≤ bnd i (k + 1) 0 0 := aux_k 180000 600 h (by omega)
theorem bnd_i {x i k : Nat} (h : x ≤ bnd i k 0 0) (hm : k ≤ 300) : x ≤ bnd (i + 1) 0 0 0 := aux_i 54000000 180000 600 h (by omega)
theorem bnd_put {x i k n m : Nat} (h : x ≤ bnd i k n m) (hi : i ≤ 300) (hk : k ≤ 300) (hn : n ≤ 300) (hm : m ≤ 600) : x ≤ 2000000000000 := by unfold bnd at *; omega
def Small300 (l : List Stp) : Prop := l.length ≤ 300 ∧ ∀ s ∈ l, s.reads.length ≤ 300 ∧ s.writes.length ≤ 300 ∧ (∀ t ∈ s.reads, t.path.length ≤ 140737488355328) ∧ ∀ t ∈ s.writes, t.path.length ≤ 140737488355328
theorem refH_ok (l : List Stp) (hl : Small300 l) (p : Oid) : CallOK Try.prog 11 [.list 2 (l.map Stp.av)] (Oid.under p) ⟨[], .list 5 ((refF l).map Hz.av), []⟩ := by
  obtain ⟨hl1, hl2⟩ := hl
  refine fnOK (n := 126) (rs := [.tmp 2]) Try.func11 rfl rfl (by decide) rfl rfl rfl ?_; rintro x rfl hrd hng
  (repeat (first | (with_reducible (first | refine K_seq ?_ | refine K_next ?_ | refine K_skip ?_ | refine K_bend ?_ | refine K_block ?_ | refine K_exit ?_ | refine X_code ?_ | refine X_lend ?_ | refine X_here ?_ | refine X_on (by decide) ?_ | refine K_lendL ?_)) | (refine K_ifT rfl rfl ?_) | (refine K_ifF rfl rfl ?_) | (refine K_ev nmd [] hng (by kernel_rfl) fun hf C S K hC1 hC hS hK => ?_; simp (disch := first | omega | assumption) only [go_sem, ↓reduceIte, Nat.reduceEqDiff, Nat.reduceAdd, Nat.reduceMul, Nat.reduceLT, Nat.reduceLeDiff, reduceCtorEq, Nat.reduceBEq, Int.reduceToNat, Int.reduceNeg]; refine hK ?_; clear hK hS hC hC1 K S C hf)))
  refine K_nilList 3 5 rfl ?_
  refine K_loop [0, 3, 4] (fun q s' => ∃ (i c : Nat) (out : List Hz), s' = ⟨[(0, .list 2 (l.map Stp.av)), (3, .list 5 (out.map Hz.av)), (4, .int .i64 i)], Mem.of [], c, []⟩ ∧ q = l.length - i ∧ i ≤ l.length ∧ out.length ≤ bnd i 0 0 0 ∧ (List.range' i (l.length - i)).foldl (refRow l) out = refF l) _ ⟨0, _, [], rfl, rfl, Nat.zero_le _, Nat.zero_le _, rfl⟩ ?_
  rintro q s' ⟨i, c, out, rfl, rfl, hi, hn, hno⟩
  (repeat (first | (with_reducible (first | refine K_seq ?_ | refine K_next ?_ | refine K_skip ?_ | refine K_bend ?_ | refine K_block ?_ | refine K_exit ?_ | refine X_code ?_ | refine X_lend ?_ | refine X_here ?_ | refine X_on (by decide) ?_ | refine K_lendL ?_)) | (refine K_ifT rfl rfl ?_) | (refine K_ifF rfl rfl ?_) | (refine K_ev nmd [] hng (by kernel_rfl) fun hf C S K hC1 hC hS hK => ?_; simp (disch := first | omega | assumption) only [go_sem, ↓reduceIte, Nat.reduceEqDiff, Nat.reduceAdd, Nat.reduceMul, Nat.reduceLT, Nat.reduceLeDiff, reduceCtorEq, Nat.reduceBEq, Int.reduceToNat, Int.reduceNeg]; refine hK ?_; clear hK hS hC hC1 K S C hf)))
  refine K_ifd rfl rfl (fun hb => ?_) (fun hb => ?_)
  · rw [range_cons (by omega), List.foldl_cons, refRow] at hno
    have hbi := hl2 (l.getD i default) (by rw [getD_in (by omega)]; exact List.getElem_mem _)
    obtain ⟨a, ha⟩ : ∃ a, l.getD i default = a := ⟨_, rfl⟩
    have hla : (l.map Stp.av).getD i .undef = .agg [.list 3 (a.reads.map Tch.av), .list 3 (a.writes.map Tch.av)] := by rw [getD_map_in _ (by omega), ha]; rfl
    rw [ha] at hbi
    (repeat (first | (with_reducible (first | refine K_seq ?_ | refine K_next ?_ | refine K_skip ?_ | refine K_bend ?_ | refine K_block ?_ | refine K_exit ?_ | refine X_code ?_ | refine X_lend ?_ | refine X_here ?_ | refine X_on (by decide) ?_ | refine K_lendL ?_)) | (refine K_ifT rfl rfl ?_) | (refine K_ifF rfl rfl ?_) | (refine K_ev nmd [] hng (by kernel_rfl) fun hf C S K hC1 hC hS hK => ?_; simp (disch := first | omega | assumption) only [go_sem, ↓reduceIte, Nat.reduceEqDiff, Nat.reduceAdd, Nat.reduceMul, Nat.reduceLT, Nat.reduceLeDiff, reduceCtorEq, Nat.reduceBEq, Int.reduceToNat, Int.reduceNeg]; refine hK ?_; clear hK hS hC hC1 K S C hf)))
    generalize hrow : (List.range' i (l.length - i)).foldl (refTwo l i) out = row at hno
    refine K_loop [0, 3, 4, 5] (fun q s' => ∃ (k c : Nat) (out : List Hz), s' = ⟨[(0, .list 2 (l.map Stp.av)), (3, .list 5 (out.map Hz.av)), (4, .int .i64 i), (5, .int .i64 k)], Mem.of [], c, []⟩ ∧ q = l.length - k ∧ i ≤ k ∧ k ≤ l.length ∧ out.length ≤ bnd i k 0 0 ∧ (List.range' k (l.length - k)).foldl (refTwo l i) out = row) _ ⟨i, _, out, rfl, rfl, Nat.le_refl _, by omega, bnd_0 hn, hrow⟩ ?_
    clear hrow hn out
    rintro q s' ⟨k, c, out, rfl, rfl, hik, hk, hn, hrow⟩
    (repeat (first | (with_reducible (first | refine K_seq ?_ | refine K_next ?_ | refine K_skip ?_ | refine K_bend ?_ | refine K_block ?_ | refine K_exit ?_ | refine X_code ?_ | refine X_lend ?_ | refine X_here ?_ | refine X_on (by decide) ?_ | refine K_lendL ?_)) | (refine K_ifT rfl rfl ?_) | (refine K_ifF rfl rfl ?_) | (refine K_ev nmd [] hng (by kernel_rfl) fun hf C S K hC1 hC hS hK => ?_; simp (disch := first | omega | assumption) only [go_sem, ↓reduceIte, Nat.reduceEqDiff, Nat.reduceAdd, Nat.reduceMul, Nat.reduceLT, Nat.reduceLeDiff, reduceCtorEq, Nat.reduceBEq, Int.reduceToNat, Int.reduceNeg]; refine hK ?_; clear hK hS hC hC1 K S C hf)))
    refine K_ifd rfl rfl (fun hb => ?_) (fun hb => ?_)
    · rw [range_cons (by omega), List.foldl_cons, refTwo, ha] at hrow
      have hbk := hl2 (l.getD k default) (by rw [getD_in (by omega)]; exact List.getElem_mem _)
      obtain ⟨b, hb0⟩ : ∃ b, l.getD k default = b := ⟨_, rfl⟩
      have hlb : (l.map Stp.av).getD k .undef = .agg [.list 3 (b.reads.map Tch.av), .list 3 (b.writes.map Tch.av)] := by rw [getD_map_in _ (by omega), hb0]; rfl
      rw [hb0] at hbk hrow
      (repeat (first | (with_reducible (first | refine K_seq ?_ | refine K_next ?_ | refine K_skip ?_ | refine K_bend ?_ | refine K_block ?_ | refine K_exit ?_ | refine X_code ?_ | refine X_lend ?_ | refine X_here ?_ | refine X_on (by decide) ?_ | refine K_lendL ?_)) | (refine K_ifT rfl rfl ?_) | (refine K_ifF rfl rfl ?_) | (refine K_ev nmd [] hng (by kernel_rfl) fun hf C S K hC1 hC hS hK => ?_; simp (disch := first | omega | assumption) only [go_sem, ↓reduceIte, Nat.reduceEqDiff, Nat.reduceAdd, Nat.reduceMul, Nat.reduceLT, Nat.reduceLeDiff, reduceCtorEq, Nat.reduceBEq, Int.reduceToNat, Int.reduceNeg]; refine hK ?_; clear hK hS hC hC1 K S C hf)))
      generalize htwo : b.writes.foldl (refOne i k a) out = two at hrow
      refine K_loop [0, 3, 4, 5, 6] (fun q s' => ∃ (n c : Nat) (out : List Hz), s' = ⟨[(0, .list 2 (l.map Stp.av)), (3, .list 5 (out.map Hz.av)), (4, .int .i64 i), (5, .int .i64 k), (6, .int .i64 n)], Mem.of [], c, []⟩ ∧ q = b.writes.length - n ∧ n ≤ b.writes.length ∧ out.length ≤ bnd i k n 0 ∧ (b.writes.drop n).foldl (refOne i k a) out = two) _ ⟨0, _, out, rfl, rfl, Nat.zero_le _, hn, htwo⟩ ?_
      clear htwo hn out
      rintro q s' ⟨n, c, out, rfl, rfl, hnl, hn, htwo⟩
      (repeat (first | (with_reducible (first | refine K_seq ?_ | refine K_next ?_ | refine K_skip ?_ | refine K_bend ?_ | refine K_block ?_ | refine K_exit ?_ | refine X_code ?_ | refine X_lend ?_ | refine X_here ?_ | refine X_on (by decide) ?_ | refine K_lendL ?_)) | (refine K_ifT rfl rfl ?_) | (refine K_ifF rfl rfl ?_) | (refine K_ev nmd [] hng (by kernel_rfl) fun hf C S K hC1 hC hS hK => ?_; simp (disch := first | omega | assumption) only [go_sem, ↓reduceIte, Nat.reduceEqDiff, Nat.reduceAdd, Nat.reduceMul, Nat.reduceLT, Nat.reduceLeDiff, reduceCtorEq, Nat.reduceBEq, Int.reduceToNat, Int.reduceNeg, hlb]; refine hK ?_; clear hK hS hC hC1 K S C hf)))
      refine K_ifd rfl rfl (fun hb => ?_) (fun hb => ?_)
      · rw [foldl_drop _ _ (by omega), refOne] at htwo
        have hwt := hbk.2.2.2 (b.writes.getD n default) (by rw [getD_in (by omega)]; exact List.getElem_mem _)
        obtain ⟨w, hw⟩ : ∃ w, b.writes.getD n default = w := ⟨_, rfl⟩
        have hlw : (b.writes.map Tch.av).getD n .undef = w.av := by rw [← hw]; exact getD_map_in _ (by omega) _
        rw [hw] at hwt htwo
        (repeat (first | (with_reducible (first | refine K_seq ?_ | refine K_next ?_ | refine K_skip ?_ | refine K_bend ?_ | refine K_block ?_ | refine K_exit ?_ | refine X_code ?_ | refine X_lend ?_ | refine X_here ?_ | refine X_on (by decide) ?_ | refine K_lendL ?_)) | (refine K_ifT rfl rfl ?_) | (refine K_ifF rfl rfl ?_) | (refine K_ev nmd [] hng (by kernel_rfl) fun hf C S K hC1 hC hS hK => ?_; simp (disch := first | omega | assumption) only [go_sem, ↓reduceIte, Nat.reduceEqDiff, Nat.reduceAdd, Nat.reduceMul, Nat.reduceLT, Nat.reduceLeDiff, reduceCtorEq, Nat.reduceBEq, Int.reduceToNat, Int.reduceNeg, hlb, hlw]; refine hK ?_; clear hK hS hC hC1 K S C hf)))
        obtain ⟨d, hd⟩ : ∃ d, c + 1 = d := ⟨_, rfl⟩
        rw [hd]
        generalize hone : a.reads.foldl (refRead i k w) out = one at htwo
        refine K_loop [0, 3, 4, 5, 6, 7, 8] (fun q s' => ∃ (m c : Nat) (out : List Hz), s' = ⟨[(0, .list 2 (l.map Stp.av)), (3, .list 5 (out.map Hz.av)), (4, .int .i64 i), (5, .int .i64 k), (6, .int .i64 n), (7, .ptr (.sub d 8 x.p) 0), (8, .int .i64 m)], Mem.of [(.sub d 8 x.p, .cells w.av.cells)], c, []⟩ ∧ d < c ∧ q = a.reads.length - m ∧ m ≤ a.reads.length ∧ out.length ≤ bnd i k n m ∧ (a.reads.drop m).foldl (refRead i k w) out = one) _ ⟨0, _, out, rfl, by omega, rfl, Nat.zero_le _, hn, hone⟩ ?_
        clear hone hn out hd c
        rintro q s' ⟨m, c, out, rfl, hd, rfl, hml, hn, hone⟩
        (repeat (first | (with_reducible (first | refine K_seq ?_ | refine K_next ?_ | refine K_skip ?_ | refine K_bend ?_ | refine K_block ?_ | refine K_exit ?_ | refine X_code ?_ | refine X_lend ?_ | refine X_here ?_ | refine X_on (by decide) ?_ | refine K_lendL ?_)) | (refine K_ifT rfl rfl ?_) | (refine K_ifF rfl rfl ?_) | (refine K_ev nmd [] hng (by kernel_rfl) fun hf C S K hC1 hC hS hK => ?_; simp (disch := first | omega | assumption) only [go_sem, ↓reduceIte, Nat.reduceEqDiff, Nat.reduceAdd, Nat.reduceMul, Nat.reduceLT, Nat.reduceLeDiff, reduceCtorEq, Nat.reduceBEq, Int.reduceToNat, Int.reduceNeg, hla]; refine hK ?_; clear hK hS hC hC1 K S C hf)))
        refine K_ifd rfl rfl (fun hb => ?_) (fun hb => ?_)
        · rw [foldl_drop _ _ (by omega)] at hone
          obtain ⟨r, hr⟩ : ∃ r, a.reads.getD m default = r := ⟨_, rfl⟩
          obtain ⟨rp, rn, rv⟩ := r
          have hlr : (a.reads.map Tch.av).getD m .undef = .agg [.str rp, .bool rn, .str rv] := by rw [getD_map_in _ (by omega), hr]; rfl
          rw [hr] at hone
          (repeat (first | (with_reducible (first | refine K_seq ?_ | refine K_next ?_ | refine K_skip ?_ | refine K_bend ?_ | refine K_block ?_ | refine K_exit ?_ | refine X_code ?_ | refine X_lend ?_ | refine X_here ?_ | refine X_on (by decide) ?_ | refine K_lendL ?_)) | (refine K_ifT rfl rfl ?_) | (refine K_ifF rfl rfl ?_) | (refine K_ev nmd [] hng (by kernel_rfl) fun hf C S K hC1 hC hS hK => ?_; simp (disch := first | omega | assumption) only [go_sem, ↓reduceIte, Nat.reduceEqDiff, Nat.reduceAdd, Nat.reduceMul, Nat.reduceLT, Nat.reduceLeDiff, reduceCtorEq, Nat.reduceBEq, Int.reduceToNat, Int.reduceNeg, hla, hlr]; refine hK ?_; clear hK hS hC hC1 K S C hf)))
          refine K_cut [0, 3, 4, 5, 6, 7, 8, 9, 81] (fun s' => ∃ (c' : Nat) (v : Bool), s' = ⟨[(0, .list 2 (l.map Stp.av)), (3, .list 5 (out.map Hz.av)), (4, .int .i64 i), (5, .int .i64 k), (6, .int .i64 n), (7, .ptr (.sub d 8 x.p) 0), (8, .int .i64 m), (9, .ptr (.sub (c + 1) 8 x.p) 0), (81, .bool v)], Mem.of [(.sub (c + 1) 8 x.p, .cells [.str rp, .bool rn, .str rv]), (.sub d 8 x.p, .cells w.av.cells)], c', []⟩ ∧ c + 1 < c' ∧ ((!rn && decide (rp = w.path)) || (rn && decide (rp = aboveF w.path))) = v) ?_ ?_
          · cases rn with
            | true =>
              refine K_evd nmd [(3, 63), (10, 70), (13, 73)] [(15, 18)] mixed hng (by kernel_rfl) [0, 3, 4, 5, 6, 7, 8, 9, 81] fun hf C S K hC hS hK => ?_; simp (disch := first | omega | assumption) only [go_sem, ↓reduceIte, Nat.reduceEqDiff, Nat.reduceAdd, Nat.reduceMul, Nat.reduceLT, Nat.reduceLeDiff, reduceCtorEq, Nat.reduceBEq, Int.reduceToNat, Int.reduceNeg]
              (repeat' (first | (refine evG_split (fun hv => ?_) (fun hv => ?_) <;> (try simp only [decide_eq_true_eq, decide_eq_false_iff_not, Bool.not_eq_true', Bool.not_eq_false', Bool.and_eq_true] at hv) <;> simp (disch := first | omega | assumption) only [go_sem, ↓reduceIte, Nat.reduceEqDiff, Nat.reduceAdd, Nat.reduceMul, Nat.reduceLT, Nat.reduceLeDiff, reduceCtorEq, Nat.reduceBEq, Int.reduceToNat, Int.reduceNeg, hv]) | (refine hC _ (above_ok w.path (by omega) _) (by simp (disch := first | omega | assumption) only [go_sem, ↓reduceIte, Nat.reduceEqDiff, Nat.reduceAdd, Nat.reduceMul, Nat.reduceLT, Nat.reduceLeDiff, reduceCtorEq, Nat.reduceBEq, Int.reduceToNat, Int.reduceNeg]) ?_; simp (disch := first | omega | assumption) only [go_sem, ↓reduceIte, Nat.reduceEqDiff, Nat.reduceAdd, Nat.reduceMul, Nat.reduceLT, Nat.reduceLeDiff, reduceCtorEq, Nat.reduceBEq, Int.reduceToNat, Int.reduceNeg]) | ((first | refine hK (dynN_quiet rfl) ?_ | refine hK (by simp (disch := first | omega | assumption) only [go_sem, ↓reduceIte, Nat.reduceEqDiff, Nat.reduceAdd, Nat.reduceMul, Nat.reduceLT, Nat.reduceLeDiff, reduceCtorEq, Nat.reduceBEq, Int.reduceToNat, Int.reduceNeg, List.reverse_cons, List.reverse_nil, ne_eq, not_false_eq_true, implies_true]) ?_); clear hK hS hC K S C hf)))
              all_goals refine K_cutM (Mem.of [(.sub (c + 1) 8 x.p, .cells [.str rp, .bool true, .str rv]), (.sub d 8 x.p, .cells w.av.cells)]) (mem_end (by simp (disch := first | omega | assumption) only [go_sem, ↓reduceIte, Nat.reduceEqDiff, Nat.reduceAdd, Nat.reduceMul, Nat.reduceLT, Nat.reduceLeDiff, reduceCtorEq, Nat.reduceBEq, Int.reduceToNat, Int.reduceNeg] <;> simp [*])) ⟨_, _, rfl, by omega, ?_⟩
              all_goals simp [*]
            | false =>
              refine K_evd nmd [(3, 63), (10, 70), (13, 73)] [(15, 18)] mixed hng (by kernel_rfl) [0, 3, 4, 5, 6, 7, 8, 9, 81] fun hf C S K hC hS hK => ?_; simp (disch := first | omega | assumption) only [go_sem, ↓reduceIte, Nat.reduceEqDiff, Nat.reduceAdd, Nat.reduceMul, Nat.reduceLT, Nat.reduceLeDiff, reduceCtorEq, Nat.reduceBEq, Int.reduceToNat, Int.reduceNeg]
              (repeat' (first | (refine evG_split (fun hv => ?_) (fun hv => ?_) <;> (try simp only [decide_eq_true_eq, decide_eq_false_iff_not, Bool.not_eq_true', Bool.not_eq_false', Bool.and_eq_true] at hv) <;> simp (disch := first | omega | assumption) only [go_sem, ↓reduceIte, Nat.reduceEqDiff, Nat.reduceAdd, Nat.reduceMul, Nat.reduceLT, Nat.reduceLeDiff, reduceCtorEq, Nat.reduceBEq, Int.reduceToNat, Int.reduceNeg, hv]) | (refine hC _ (above_ok w.path (by omega) _) (by simp (disch := first | omega | assumption) only [go_sem, ↓reduceIte, Nat.reduceEqDiff, Nat.reduceAdd, Nat.reduceMul, Nat.reduceLT, Nat.reduceLeDiff, reduceCtorEq, Nat.reduceBEq, Int.reduceToNat, Int.reduceNeg]) ?_; simp (disch := first | omega | assumption) only [go_sem, ↓reduceIte, Nat.reduceEqDiff, Nat.reduceAdd, Nat.reduceMul, Nat.reduceLT, Nat.reduceLeDiff, reduceCtorEq, Nat.reduceBEq, Int.reduceToNat, Int.reduceNeg]) | ((first | refine hK (dynN_quiet rfl) ?_ | refine hK (by simp (disch := first | omega | assumption) only [go_sem, ↓reduceIte, Nat.reduceEqDiff, Nat.reduceAdd, Nat.reduceMul, Nat.reduceLT, Nat.reduceLeDiff, reduceCtorEq, Nat.reduceBEq, Int.reduceToNat, Int.reduceNeg, List.reverse_cons, List.reverse_nil, ne_eq, not_false_eq_true, implies_true]) ?_); clear hK hS hC K S C hf)))
              all_goals refine K_cutM (Mem.of [(.sub (c + 1) 8 x.p, .cells [.str rp, .bool false, .str rv]), (.sub d 8 x.p, .cells w.av.cells)]) (mem_end (by simp (disch := first | omega | assumption) only [go_sem, ↓reduceIte, Nat.reduceEqDiff, Nat.reduceAdd, Nat.reduceMul, Nat.reduceLT, Nat.reduceLeDiff, reduceCtorEq, Nat.reduceBEq, Int.reduceToNat, Int.reduceNeg] <;> simp [*])) ⟨_, _, rfl, by omega, ?_⟩
              all_goals simp [*]
          rintro s' ⟨c', v, rfl, hc', hv⟩
          refine K_if rfl rfl (fun hb => ?_) (fun hb => ?_)
          · (repeat (first | (with_reducible (first | refine K_seq ?_ | refine K_next ?_ | refine K_skip ?_ | refine K_bend ?_ | refine K_block ?_ | refine K_exit ?_ | refine X_code ?_ | refine X_lend ?_ | refine X_here ?_ | refine X_on (by decide) ?_ | refine K_lendL ?_)) | (refine K_ifT rfl rfl ?_) | (refine K_ifF rfl rfl ?_) | (refine K_ev nmd [] hng (by kernel_rfl) fun hf C S K hC1 hC hS hK => ?_; simp (disch := first | omega | assumption) only [go_sem, ↓reduceIte, Nat.reduceEqDiff, Nat.reduceAdd, Nat.reduceMul, Nat.reduceLT, Nat.reduceLeDiff, reduceCtorEq, Nat.reduceBEq, Int.reduceToNat, Int.reduceNeg]; (repeat ((first | refine hC1 _ (put_ok out ⟨rp, rn, i, k, true⟩ (bnd_put hn (by omega) (by omega) (by omega) (by omega)) _) (by simp (disch := first | omega | assumption) only [go_sem, ↓reduceIte, Nat.reduceEqDiff, Nat.reduceAdd, Nat.reduceMul, Nat.reduceLT, Nat.reduceLeDiff, reduceCtorEq, Nat.reduceBEq, Int.reduceToNat, Int.reduceNeg]) ?_); simp (disch := first | omega | assumption) only [go_sem, ↓reduceIte, Nat.reduceEqDiff, Nat.reduceAdd, Nat.reduceMul, Nat.reduceLT, Nat.reduceLeDiff, reduceCtorEq, Nat.reduceBEq, Int.reduceToNat, Int.reduceNeg])); refine hK ?_; clear hK hS hC hC1 K S C hf)))
            refine ⟨_, _, ?_, mem_end (by simp (disch := first | omega | assumption) only [go_sem, ↓reduceIte, Nat.reduceEqDiff, Nat.reduceAdd, Nat.reduceMul, Nat.reduceLT, Nat.reduceLeDiff, reduceCtorEq, Nat.reduceBEq, Int.reduceToNat, Int.reduceNeg]), m + 1, _, putF out ⟨rp, rn, i, k, true⟩, rfl, by omega, rfl, by omega, bnd_m hn (putF_length _ _), ?_⟩
            · omega
            · rw [← hone, refRead, hv, hb]; rfl
          · (repeat (first | (with_reducible (first | refine K_seq ?_ | refine K_next ?_ | refine K_skip ?_ | refine K_bend ?_ | refine K_block ?_ | refine K_exit ?_ | refine X_code ?_ | refine X_lend ?_ | refine X_here ?_ | refine X_on (by decide) ?_ | refine K_lendL ?_)) | (refine K_ifT rfl rfl ?_) | (refine K_ifF rfl rfl ?_) | (refine K_ev nmd [] hng (by kernel_rfl) fun hf C S K hC1 hC hS hK => ?_; simp (disch := first | omega | assumption) only [go_sem, ↓reduceIte, Nat.reduceEqDiff, Nat.reduceAdd, Nat.reduceMul, Nat.reduceLT, Nat.reduceLeDiff, reduceCtorEq, Nat.reduceBEq, Int.reduceToNat, Int.reduceNeg]; refine hK ?_; clear hK hS hC hC1 K S C hf)))
            refine ⟨_, _, ?_, mem_end (by simp (disch := first | omega | assumption) only [go_sem, ↓reduceIte, Nat.reduceEqDiff, Nat.reduceAdd, Nat.reduceMul, Nat.reduceLT, Nat.reduceLeDiff, reduceCtorEq, Nat.reduceBEq, Int.reduceToNat, Int.reduceNeg]), m + 1, _, out, rfl, by omega, rfl, by omega, bnd_m hn (Nat.le_succ _), ?_⟩
            · omega
            · rw [← hone, refRead, hv, hb]; rfl
        · obtain rfl : m = a.reads.length := by omega
          rw [List.drop_length, List.foldl_nil] at hone
          subst hone
          generalize hfin : (if i < k then a.writes.foldl (refWrite i k w) out else out) = fin at htwo
          (repeat (first | (with_reducible (first | refine K_seq ?_ | refine K_next ?_ | refine K_skip ?_ | refine K_bend ?_ | refine K_block ?_ | refine K_exit ?_ | refine X_code ?_ | refine X_lend ?_ | refine X_here ?_ | refine X_on (by decide) ?_ | refine K_lendL ?_)) | (refine K_ifT rfl rfl ?_) | (refine K_ifF rfl rfl ?_) | (refine K_ev nmd [] hng (by kernel_rfl) fun hf C S K hC1 hC hS hK => ?_; simp (disch := first | omega | assumption) only [go_sem, ↓reduceIte, Nat.reduceEqDiff, Nat.reduceAdd, Nat.reduceMul, Nat.reduceLT, Nat.reduceLeDiff, reduceCtorEq, Nat.reduceBEq, Int.reduceToNat, Int.reduceNeg]; refine hK ?_; clear hK hS hC hC1 K S C hf)))
          refine K_loop [0, 3, 4, 5, 6, 7, 10] (fun q s' => ∃ (m c : Nat) (out : List Hz), s' = ⟨[(0, .list 2 (l.map Stp.av)), (3, .list 5 (out.map Hz.av)), (4, .int .i64 i), (5, .int .i64 k), (6, .int .i64 n), (7, .ptr (.sub d 8 x.p) 0), (10, .int .i64 m)], Mem.of [(.sub d 8 x.p, .cells w.av.cells)], c, []⟩ ∧ d < c ∧ q = a.writes.length - m ∧ m ≤ a.writes.length ∧ out.length ≤ bnd i k n (a.reads.length + m) ∧ (if i < k then (a.writes.drop m).foldl (refWrite i k w) out else out) = fin) _ ⟨0, _, out, rfl, by omega, rfl, Nat.zero_le _, hn, hfin⟩ ?_
          clear hn hfin hd c out
          rintro q s' ⟨m, c, out, rfl, hd, rfl, hml, hn, hfin⟩
          (repeat (first | (with_reducible (first | refine K_seq ?_ | refine K_next ?_ | refine K_skip ?_ | refine K_bend ?_ | refine K_exit ?_ | refine X_code ?_ | refine X_lend ?_ | refine X_here ?_ | refine X_on (by decide) ?_ | refine K_lendL ?_)) | (refine K_ifT rfl rfl ?_) | (refine K_ifF rfl rfl ?_) | (refine K_ev nmd [] hng (by kernel_rfl) fun hf C S K hC1 hC hS hK => ?_; simp (disch := first | omega | assumption) only [go_sem, ↓reduceIte, Nat.reduceEqDiff, Nat.reduceAdd, Nat.reduceMul, Nat.reduceLT, Nat.reduceLeDiff, reduceCtorEq, Nat.reduceBEq, Int.reduceToNat, Int.reduceNeg, hla]; refine hK ?_; clear hK hS hC hC1 K S C hf)))
          refine K_cut [0, 3, 4, 5, 6, 7, 10, 103] (fun s' => ∃ (c' : Nat) (v : Bool), s' = ⟨[(0, .list 2 (l.map Stp.av)), (3, .list 5 (out.map Hz.av)), (4, .int .i64 i), (5, .int .i64 k), (6, .int .i64 n), (7, .ptr (.sub d 8 x.p) 0), (10, .int .i64 m), (103, .bool v)], Mem.of [(.sub d 8 x.p, .cells w.av.cells)], c', []⟩ ∧ d < c' ∧ (decide (m < a.writes.length) && decide (i < k)) = v) ?_ ?_
          · refine K_ev nmd [(8, 99)] hng (by kernel_rfl) fun hf C S K hC1 hC hS hK => ?_; simp (disch := first | omega | assumption) only [go_sem, ↓reduceIte, Nat.reduceEqDiff, Nat.reduceAdd, Nat.reduceMul, Nat.reduceLT, Nat.reduceLeDiff, reduceCtorEq, Nat.reduceBEq, Int.reduceToNat, Int.reduceNeg, hla]
            (repeat' (first | (refine evG_split (fun hv => ?_) (fun hv => ?_) <;> (try simp only [decide_eq_true_eq, decide_eq_false_iff_not, Bool.not_eq_true', Bool.not_eq_false', Bool.and_eq_true] at hv) <;> simp (disch := first | omega | assumption) only [go_sem, ↓reduceIte, Nat.reduceEqDiff, Nat.reduceAdd, Nat.reduceMul, Nat.reduceLT, Nat.reduceLeDiff, reduceCtorEq, Nat.reduceBEq, Int.reduceToNat, Int.reduceNeg, hv]) | (refine hK ?_; clear hK hS hC hC1 K S C hf)))
            all_goals refine K_cutM (Mem.of [(.sub d 8 x.p, .cells w.av.cells)]) (mem_end (by simp (disch := first | omega | assumption) only [go_sem, ↓reduceIte, Nat.reduceEqDiff, Nat.reduceAdd, Nat.reduceMul, Nat.reduceLT, Nat.reduceLeDiff, reduceCtorEq, Nat.reduceBEq, Int.reduceToNat, Int.reduceNeg] <;> simp [*])) ⟨_, _, rfl, by omega, ?_⟩
            all_goals (simp; omega)
          rintro s' ⟨c', v, rfl, hd', hv⟩
          refine K_if rfl rfl (fun hb => ?_) (fun hb => ?_)
          · rw [hb, Bool.and_eq_true, decide_eq_true_eq, decide_eq_true_eq] at hv
            rw [if_pos hv.2, foldl_drop _ _ hv.1] at hfin
            obtain ⟨r, hr⟩ : ∃ r, a.writes.getD m default = r := ⟨_, rfl⟩
            obtain ⟨rp, rn, rv⟩ := r
            have hlr : (a.writes.map Tch.av).getD m .undef = .agg [.str rp, .bool rn, .str rv] := by rw [getD_map_in _ hv.1, hr]; rfl
            rw [hr] at hfin
            (repeat (first | (with_reducible (first | refine K_seq ?_ | refine K_next ?_ | refine K_skip ?_ | refine K_bend ?_ | refine K_exit ?_ | refine X_code ?_ | refine X_lend ?_ | refine X_here ?_ | refine X_on (by decide) ?_ | refine K_lendL ?_)) | (refine K_ifT rfl rfl ?_) | (refine K_ifF rfl rfl ?_) | (refine K_ev nmd [] hng (by kernel_rfl) fun hf C S K hC1 hC hS hK => ?_; simp (disch := first | omega | assumption) only [go_sem, ↓reduceIte, Nat.reduceEqDiff, Nat.reduceAdd, Nat.reduceMul, Nat.reduceLT, Nat.reduceLeDiff, reduceCtorEq, Nat.reduceBEq, Int.reduceToNat, Int.reduceNeg]; refine hK ?_; clear hK hS hC hC1 K S C hf))); refine K_block ?_
            (repeat (first | (with_reducible (first | refine K_seq ?_ | refine K_next ?_ | refine K_skip ?_ | refine K_bend ?_ | refine K_exit ?_ | refine X_code ?_ | refine X_lend ?_ | refine X_here ?_ | refine X_on (by decide) ?_ | refine K_lendL ?_)) | (refine K_ifT rfl rfl ?_) | (refine K_ifF rfl rfl ?_) | (refine K_ev nmd [] hng (by kernel_rfl) fun hf C S K hC1 hC hS hK => ?_; simp (disch := first | omega | assumption) only [go_sem, ↓reduceIte, Nat.reduceEqDiff, Nat.reduceAdd, Nat.reduceMul, Nat.reduceLT, Nat.reduceLeDiff, reduceCtorEq, Nat.reduceBEq, Int.reduceToNat, Int.reduceNeg]; refine hK ?_; clear hK hS hC hC1 K S C hf)))
            refine K_evd nmd [] [] mixed hng (by kernel_rfl) [0, 3, 4, 5, 6, 7, 10, 117] fun hf C S K hC hS hK => ?_; simp (disch := first | omega | assumption) only [go_sem, ↓reduceIte, Nat.reduceEqDiff, Nat.reduceAdd, Nat.reduceMul, Nat.reduceLT, Nat.reduceLeDiff, reduceCtorEq, Nat.reduceBEq, Int.reduceToNat, Int.reduceNeg, hla, hlr]
            (first | refine hK (dynN_quiet rfl) ?_ | refine hK (by simp (disch := first | omega | assumption) only [go_sem, ↓reduceIte, Nat.reduceEqDiff, Nat.reduceAdd, Nat.reduceMul, Nat.reduceLT, Nat.reduceLeDiff, reduceCtorEq, Nat.reduceBEq, Int.reduceToNat, Int.reduceNeg, List.reverse_cons, List.reverse_nil, ne_eq, not_false_eq_true, implies_true]) ?_); clear hK hS hC K S C hf
            refine K_ifd rfl rfl (fun hb => ?_) (fun hb => ?_)
            · (repeat (first | (with_reducible (first | refine K_seq ?_ | refine K_next ?_ | refine K_skip ?_ | refine K_bend ?_ | refine K_block ?_ | refine K_exit ?_ | refine X_code ?_ | refine X_lend ?_ | refine X_here ?_ | refine X_on (by decide) ?_ | refine K_lendL ?_)) | (refine K_ifT rfl rfl ?_) | (refine K_ifF rfl rfl ?_) | (refine K_ev nmd [] hng (by kernel_rfl) fun hf C S K hC1 hC hS hK => ?_; simp (disch := first | omega | assumption) only [go_sem, ↓reduceIte, Nat.reduceEqDiff, Nat.reduceAdd, Nat.reduceMul, Nat.reduceLT, Nat.reduceLeDiff, reduceCtorEq, Nat.reduceBEq, Int.reduceToNat, Int.reduceNeg]; (repeat ((first | refine hC1 _ (put_ok out ⟨w.path, false, i, k, false⟩ (bnd_put hn (by omega) (by omega) (by omega) (by omega)) _) (by simp (disch := first | omega | assumption) only [go_sem, ↓reduceIte, Nat.reduceEqDiff, Nat.reduceAdd, Nat.reduceMul, Nat.reduceLT, Nat.reduceLeDiff, reduceCtorEq, Nat.reduceBEq, Int.reduceToNat, Int.reduceNeg]) ?_); simp (disch := first | omega | assumption) only [go_sem, ↓reduceIte, Nat.reduceEqDiff, Nat.reduceAdd, Nat.reduceMul, Nat.reduceLT, Nat.reduceLeDiff, reduceCtorEq, Nat.reduceBEq, Int.reduceToNat, Int.reduceNeg])); refine hK ?_; clear hK hS hC hC1 K S C hf)))
              refine ⟨_, _, ?_, mem_end (by simp (disch := first | omega | assumption) only [go_sem, ↓reduceIte, Nat.reduceEqDiff, Nat.reduceAdd, Nat.reduceMul, Nat.reduceLT, Nat.reduceLeDiff, reduceCtorEq, Nat.reduceBEq, Int.reduceToNat, Int.reduceNeg]), m + 1, _, putF out ⟨w.path, false, i, k, false⟩, rfl, by omega, rfl, by omega, bnd_m hn (putF_length _ _), ?_⟩
              · omega
              · rw [← hfin, if_pos hv.2, refWrite, if_pos hb]
            · (repeat (first | (with_reducible (first | refine K_seq ?_ | refine K_next ?_ | refine K_skip ?_ | refine K_bend ?_ | refine K_block ?_ | refine K_exit ?_ | refine X_code ?_ | refine X_lend ?_ | refine X_here ?_ | refine X_on (by decide) ?_ | refine K_lendL ?_)) | (refine K_ifT rfl rfl ?_) | (refine K_ifF rfl rfl ?_) | (refine K_ev nmd [] hng (by kernel_rfl) fun hf C S K hC1 hC hS hK => ?_; simp (disch := first | omega | assumption) only [go_sem, ↓reduceIte, Nat.reduceEqDiff, Nat.reduceAdd, Nat.reduceMul, Nat.reduceLT, Nat.reduceLeDiff, reduceCtorEq, Nat.reduceBEq, Int.reduceToNat, Int.reduceNeg]; refine hK ?_; clear hK hS hC hC1 K S C hf)))
              refine ⟨_, _, ?_, mem_end (by simp (disch := first | omega | assumption) only [go_sem, ↓reduceIte, Nat.reduceEqDiff, Nat.reduceAdd, Nat.reduceMul, Nat.reduceLT, Nat.reduceLeDiff, reduceCtorEq, Nat.reduceBEq, Int.reduceToNat, Int.reduceNeg]), m + 1, _, out, rfl, by omega, rfl, by omega, bnd_m hn (Nat.le_succ _), ?_⟩
              · omega
              · rw [← hfin, if_pos hv.2, refWrite, if_neg hb]
          · rw [hb, Bool.and_eq_false_iff, decide_eq_false_iff_not, decide_eq_false_iff_not] at hv
            obtain rfl : out = fin := by
              by_cases hik : i < k
              · rw [if_pos hik, List.drop_eq_nil_of_le (by omega)] at hfin; exact hfin
              · rw [if_neg hik] at hfin; exact hfin
            (repeat (first | (with_reducible (first | refine K_seq ?_ | refine K_next ?_ | refine K_skip ?_ | refine K_bend ?_ | refine K_block ?_ | refine K_exit ?_ | refine X_code ?_ | refine X_lend ?_ | refine X_here ?_ | refine X_on (by decide) ?_ | refine K_lendL ?_)) | (refine K_ifT rfl rfl ?_) | (refine K_ifF rfl rfl ?_) | (refine K_ev nmd [] hng (by kernel_rfl) fun hf C S K hC1 hC hS hK => ?_; simp (disch := first | omega | assumption) only [go_sem, ↓reduceIte, Nat.reduceEqDiff, Nat.reduceAdd, Nat.reduceMul, Nat.reduceLT, Nat.reduceLeDiff, reduceCtorEq, Nat.reduceBEq, Int.reduceToNat, Int.reduceNeg]; refine hK ?_; clear hK hS hC hC1 K S C hf)))
            refine ⟨_, _, ?_, mem_end (by simp (disch := first | omega | assumption) only [go_sem, ↓reduceIte, Nat.reduceEqDiff, Nat.reduceAdd, Nat.reduceMul, Nat.reduceLT, Nat.reduceLeDiff, reduceCtorEq, Nat.reduceBEq, Int.reduceToNat, Int.reduceNeg]), n + 1, _, out, rfl, rfl, by omega, bnd_n hn (by omega), htwo⟩
            omega
      · (repeat (first | (with_reducible (first | refine K_seq ?_ | refine K_next ?_ | refine K_skip ?_ | refine K_bend ?_ | refine K_block ?_ | refine K_exit ?_ | refine X_code ?_ | refine X_lend ?_ | refine X_here ?_ | refine X_on (by decide) ?_ | refine K_lendL ?_)) | (refine K_ifT rfl rfl ?_) | (refine K_ifF rfl rfl ?_) | (refine K_ev nmd [] hng (by kernel_rfl) fun hf C S K hC1 hC hS hK => ?_; simp (disch := first | omega | assumption) only [go_sem, ↓reduceIte, Nat.reduceEqDiff, Nat.reduceAdd, Nat.reduceMul, Nat.reduceLT, Nat.reduceLeDiff, reduceCtorEq, Nat.reduceBEq, Int.reduceToNat, Int.reduceNeg]; refine hK ?_; clear hK hS hC hC1 K S C hf)))
        refine ⟨_, _, ?_, fun _ _ h => h, k + 1, _, out, rfl, rfl, by omega, by omega, bnd_k hn (by omega), ?_⟩
        · omega
        · rw [← hrow, ← htwo, List.drop_eq_nil_of_le (by omega)]; rfl
    · (repeat (first | (with_reducible (first | refine K_seq ?_ | refine K_next ?_ | refine K_skip ?_ | refine K_bend ?_ | refine K_block ?_ | refine K_exit ?_ | refine X_code ?_ | refine X_lend ?_ | refine X_here ?_ | refine X_on (by decide) ?_ | refine K_lendL ?_)) | (refine K_ifT rfl rfl ?_) | (refine K_ifF rfl rfl ?_) | (refine K_ev nmd [] hng (by kernel_rfl) fun hf C S K hC1 hC hS hK => ?_; simp (disch := first | omega | assumption) only [go_sem, ↓reduceIte, Nat.reduceEqDiff, Nat.reduceAdd, Nat.reduceMul, Nat.reduceLT, Nat.reduceLeDiff, reduceCtorEq, Nat.reduceBEq, Int.reduceToNat, Int.reduceNeg]; refine hK ?_; clear hK hS hC hC1 K S C hf)))
      refine ⟨_, _, ?_, fun _ _ h => h, i + 1, _, out, rfl, rfl, by omega, bnd_i hn (by omega), ?_⟩
      · omega
      · rw [← hno]
        obtain rfl : k = l.length := by omega
        simp at hrow; rw [hrow]
  · (repeat (first | (with_reducible (first | refine K_seq ?_ | refine K_next ?_ | refine K_skip ?_ | refine K_bend ?_ | refine K_block ?_ | refine K_exit ?_ | refine X_code ?_ | refine X_lend ?_ | refine X_here ?_ | refine X_on (by decide) ?_ | refine K_lendL ?_)) | (refine K_ifT rfl rfl ?_) | (refine K_ifF rfl rfl ?_) | (refine K_ev nmd [] hng (by kernel_rfl) fun hf C S K hC1 hC hS hK => ?_; simp (disch := first | omega | assumption) only [go_sem, ↓reduceIte, Nat.reduceEqDiff, Nat.reduceAdd, Nat.reduceMul, Nat.reduceLT, Nat.reduceLeDiff, reduceCtorEq, Nat.reduceBEq, Int.reduceToNat, Int.reduceNeg]; refine hK ?_; clear hK hS hC hC1 K S C hf)))
    refine K_ret (done1 (congrArg (AV.list 5) ?_))
    obtain rfl : i = l.length := by omega
    simp at hno; rw [hno]
end Go.Proofs.Ytpdmiojenhodlaa
