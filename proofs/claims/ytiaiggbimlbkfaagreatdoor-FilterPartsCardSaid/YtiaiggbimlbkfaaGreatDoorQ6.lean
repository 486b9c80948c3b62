/- Filter: sort, walked. -/
import Derived.Test.YtiaiggbimlbkfaaGreatDoorQ5
set_option linter.unusedVariables false
set_option linter.unusedSimpArgs false
namespace Go.Proofs.YtiaiggbimlbkfaaGreatDoor
open Go Go.Ab
set_option maxRecDepth 20000
set_option maxHeartbeats 4000000
theorem joinN_sum (l : List Str) : (joinN l).length = (l.map fun s => s.length + 1).sum := by
  induction l with
  | nil => rfl
  | cons s l ih => simp only [joinN, List.map_cons, List.sum_cons, List.length_append, List.length_singleton, ih]
theorem joinN_perm {l l' : List Str} (h : l.Perm l') : (joinN l).length = (joinN l').length := by
  rw [joinN_sum, joinN_sum]; exact (h.map _).sum_nat
theorem joinN_sub {l l' : List Str} (h : l.Sublist l') : (joinN l).length ≤ (joinN l').length := by
  rw [joinN_sum, joinN_sum]
  induction h with
  | slnil => exact Nat.le_refl _
  | cons a _ ih => simp only [List.map_cons, List.sum_cons]; omega
  | cons_cons a _ ih => simp only [List.map_cons, List.sum_cons]; omega
theorem joinN_lines (s : Str) : (joinN (linesL s)).length ≤ s.length + 1 := by
  have key : ∀ (n : Nat) (s : Str), s.length = n → (joinN (linesL s)).length ≤ s.length + 1 := by
    intro n
    induction n using Nat.strongRecOn with
    | ind n ih =>
      intro s hn
      rcases cut_first 10 s with h1 | ⟨t, u, h1, rfl⟩
      · by_cases h0 : s = []
        · subst h0; exact Nat.zero_le _
        · rw [linesL_miss h0 h1]; simp [joinN]
      · rw [linesL_hit u h1]
        have := ih u.length (by rw [← hn]; simp; omega) u rfl
        simp only [joinN, List.length_append, List.length_cons, List.length_nil]; omega
  exact key _ s rfl
theorem linesL_ne {s : Str} (h : ¬ s = []) : ¬ linesL s = [] := by
  cases s with
  | nil => exact absurd rfl h
  | cons b s => rw [linesL]; split; · simp
                split <;> simp
def hasU (args : List Str) : Bool := args.any fun s => decide ([45, 117] = s)
def hasR (args : List Str) : Bool := args.any fun s => decide ([45, 114] = s)
def sortRow (args : List Str) (t : Str) : List Str :=
  if hasR args = true then (if hasU args = true then Lib.compact (sortS (linesL t)) else sortS (linesL t)).reverse else if hasU args = true then Lib.compact (sortS (linesL t)) else sortS (linesL t)
theorem range_get (l : List Str) : (List.range l.length).map (fun i => l.toArray[i]!) = l := by
  apply List.ext_getElem
  · simp
  · intro i h1 h2; simp [h2]
theorem compact_sub (l : List Str) : (Lib.compact l).Sublist l := by
  have h : ((List.range l.length).filter (Lib.keeps l.toArray)).Sublist (List.range l.length) := List.filter_sublist
  have h2 := h.map (fun i => l.toArray[i]!)
  rwa [range_get] at h2
theorem compact_ne {l : List Str} (h : ¬ l = []) : ¬ Lib.compact l = [] := by
  intro e
  have h1 : (List.range l.length).filter (Lib.keeps l.toArray) = [] := List.map_eq_nil_iff.1 e
  have h2 := List.filter_eq_nil_iff.1 h1 0 (List.mem_range.2 (List.length_pos_iff.2 h))
  exact h2 (Lib.keeps_lt_one _ 0 (by decide))
theorem sort_bad (args : List Str) (hn : args.length ≤ 4000000000) (t : Str) (h : args.any oddS = true) (p : Oid) :
    CallOK Tryz.prog 33 [.list 1 (args.map AV.str), .str t] (Oid.under p) ⟨[], .tuple [badR.av, .bool false], []⟩ := by
  have hZ : ∀ p, CallOK Tryz.prog 62 [.list 1 (args.map AV.str), .fn (.func 63) [] []] (Oid.under p) ⟨[], .bool true, []⟩ := fun p => by
    have := containsFunc_ok oddS _ oddS_ok args hn p; rwa [h] at this
  refine fnOK (n := 29) (rs := [.cell 4 32, .tmp 5]) Tryz.func33 rfl rfl (by decide) rfl rfl rfl ?_; rintro x rfl hrd hng
  (repeat (first | (refine K_ifT rfl rfl ?_) | (refine K_ifF rfl rfl ?_) | (refine K_ev nmd [] hng (by kernel_rfl) fun hf C S K hC1 hC hS hK => ?_; simp (disch := first | omega | assumption) only [go_sem, Res.av, badR]; (repeat ((first | refine hC1 _ (hZ _) (by simp (disch := first | omega | assumption) only [go_sem]) ?_ | refine hC1 _ (bad_x _) (by simp (disch := first | omega | assumption) only [go_sem]) ?_); simp (disch := first | omega | assumption) only [go_sem])); refine hK ?_; clear hK hS hC hC1 K S C hf) | ((first | refine zk ?_ | refine zn ?_ | refine ze ?_); with_reducible (constructor; repeat constructor); try refine zl ?_)))
  exact K_ret (done_plain (by simp (disch := first | omega | assumption) only [go_sem, Res.av, badR]))
theorem sort_ok (args : List Str) (hn : args.length ≤ 4000000000) (t : Str) (hl : t.length ≤ 4000000000) (h : args.any oddS = false) (p : Oid) :
    CallOK Tryz.prog 33 [.list 1 (args.map AV.str), .str t] (Oid.under p) ⟨[], .tuple [(toldR (joinN (sortRow args t))).av, .bool true], []⟩ := by
  have hZ : ∀ p, CallOK Tryz.prog 62 [.list 1 (args.map AV.str), .fn (.func 63) [] []] (Oid.under p) ⟨[], .bool false, []⟩ := fun p => by
    have := containsFunc_ok oddS _ oddS_ok args hn p; rwa [h] at this
  have hjl : ∀ r : List Str, r.Sublist (sortS (linesL t)) → (joinN r).length ≤ 140737488355328 := fun r hr => by
    have h1 := joinN_sub hr
    have h2 := joinN_perm (sortS_perm (linesL t))
    have h3 := joinN_lines t
    omega
  have hjr : ∀ r : List Str, r.Sublist (sortS (linesL t)) → (joinN r.reverse).length ≤ 140737488355328 := fun r hr => by
    rw [joinN_perm (List.reverse_perm r)]; exact hjl r hr
  have hcs := compact_sub (sortS (linesL t))
  have hU : ∀ p, CallOK Tryz.prog 65 [.list 1 (args.map AV.str), .str [45, 117]] (Oid.under p) ⟨[], .bool (hasU args), []⟩ := fun p => contains_ok _ args hn p
  have hR : ∀ p, CallOK Tryz.prog 65 [.list 1 (args.map AV.str), .str [45, 114]] (Oid.under p) ⟨[], .bool (hasR args), []⟩ := fun p => contains_ok _ args hn p
  have hrow : ∀ u r, hasU args = u → hasR args = r → sortRow args t = if r = true then (if u = true then Lib.compact (sortS (linesL t)) else sortS (linesL t)).reverse else if u = true then Lib.compact (sortS (linesL t)) else sortS (linesL t) := fun u r h1 h2 => by rw [sortRow, h1, h2]
  by_cases h0 : t = []
  · subst h0
    have hrw : sortRow args [] = [] := by
      have h1 : sortS (linesL []) = [] := List.eq_nil_of_length_eq_zero (by rw [sortS_length]; rfl)
      rw [sortRow, h1]; split <;> split <;> rfl
    have hJ : ∀ p, CallOK Tryz.prog 57 [.nilSl] (Oid.under p) ⟨[], .str [], []⟩ := fun p => (joined_ok [] (Nat.zero_le _) p).weak (AVles.cons (AVle.nil 1) AVles.nil)
    rw [hrw, show joinN [] = [] from rfl]
    rcases Bool.eq_false_or_eq_true (hasU args) with hu | hu <;> rcases Bool.eq_false_or_eq_true (hasR args) with hr | hr <;> rw [hu] at hU <;> rw [hr] at hR
    · refine fnOK (n := 29) (rs := [.cell 4 32, .tmp 5]) Tryz.func33 rfl rfl (by decide) rfl rfl rfl ?_; rintro x rfl hrd hng
      (repeat (first | (refine K_ifT rfl rfl ?_) | (refine K_ifF rfl rfl ?_) | (refine K_ev nmd [] hng (by kernel_rfl) fun hf C S K hC1 hC hS hK => ?_; simp (disch := first | omega | assumption) only [go_sem]; (repeat ((first | refine hC1 _ (hZ _) (by simp (disch := first | omega | assumption) only [go_sem]) ?_ | refine hC1 _ (lines_nil _) (by simp (disch := first | omega | assumption) only [go_sem]) ?_ | refine hC1 _ (sort_nil _) (by simp (disch := first | omega | assumption) only [go_sem]) ?_ | refine hC1 _ (hU _) (by simp (disch := first | omega | assumption) only [go_sem]) ?_ | refine hC1 _ (compact_nil _) (by simp (disch := first | omega | assumption) only [go_sem]) ?_ | refine hC1 _ (hR _) (by simp (disch := first | omega | assumption) only [go_sem]) ?_ | refine hC1 _ (reverse_nil _) (by simp (disch := first | omega | assumption) only [go_sem]) ?_ | refine hC1 _ (hJ _) (by simp (disch := first | omega | assumption) only [go_sem]) ?_ | refine hC1 _ (told_x [] _) (by simp (disch := first | omega | assumption) only [go_sem]) ?_); simp (disch := first | omega | assumption) only [go_sem])); refine hK ?_; clear hK hS hC hC1 K S C hf) | ((first | refine zk ?_ | refine zn ?_ | refine ze ?_); with_reducible (constructor; repeat constructor); try refine zl ?_)))
      exact K_ret (done_plain (by simp (disch := first | omega | assumption) only [go_sem, Res.av, toldR, badR, usageR]))
    · refine fnOK (n := 29) (rs := [.cell 4 32, .tmp 5]) Tryz.func33 rfl rfl (by decide) rfl rfl rfl ?_; rintro x rfl hrd hng
      (repeat (first | (refine K_ifT rfl rfl ?_) | (refine K_ifF rfl rfl ?_) | (refine K_ev nmd [] hng (by kernel_rfl) fun hf C S K hC1 hC hS hK => ?_; simp (disch := first | omega | assumption) only [go_sem]; (repeat ((first | refine hC1 _ (hZ _) (by simp (disch := first | omega | assumption) only [go_sem]) ?_ | refine hC1 _ (lines_nil _) (by simp (disch := first | omega | assumption) only [go_sem]) ?_ | refine hC1 _ (sort_nil _) (by simp (disch := first | omega | assumption) only [go_sem]) ?_ | refine hC1 _ (hU _) (by simp (disch := first | omega | assumption) only [go_sem]) ?_ | refine hC1 _ (compact_nil _) (by simp (disch := first | omega | assumption) only [go_sem]) ?_ | refine hC1 _ (hR _) (by simp (disch := first | omega | assumption) only [go_sem]) ?_ | refine hC1 _ (hJ _) (by simp (disch := first | omega | assumption) only [go_sem]) ?_ | refine hC1 _ (told_x [] _) (by simp (disch := first | omega | assumption) only [go_sem]) ?_); simp (disch := first | omega | assumption) only [go_sem])); refine hK ?_; clear hK hS hC hC1 K S C hf) | ((first | refine zk ?_ | refine zn ?_ | refine ze ?_); with_reducible (constructor; repeat constructor); try refine zl ?_)))
      exact K_ret (done_plain (by simp (disch := first | omega | assumption) only [go_sem, Res.av, toldR, badR, usageR]))
    · refine fnOK (n := 29) (rs := [.cell 4 32, .tmp 5]) Tryz.func33 rfl rfl (by decide) rfl rfl rfl ?_; rintro x rfl hrd hng
      (repeat (first | (refine K_ifT rfl rfl ?_) | (refine K_ifF rfl rfl ?_) | (refine K_ev nmd [] hng (by kernel_rfl) fun hf C S K hC1 hC hS hK => ?_; simp (disch := first | omega | assumption) only [go_sem]; (repeat ((first | refine hC1 _ (hZ _) (by simp (disch := first | omega | assumption) only [go_sem]) ?_ | refine hC1 _ (lines_nil _) (by simp (disch := first | omega | assumption) only [go_sem]) ?_ | refine hC1 _ (sort_nil _) (by simp (disch := first | omega | assumption) only [go_sem]) ?_ | refine hC1 _ (hU _) (by simp (disch := first | omega | assumption) only [go_sem]) ?_ | refine hC1 _ (hR _) (by simp (disch := first | omega | assumption) only [go_sem]) ?_ | refine hC1 _ (reverse_nil _) (by simp (disch := first | omega | assumption) only [go_sem]) ?_ | refine hC1 _ (hJ _) (by simp (disch := first | omega | assumption) only [go_sem]) ?_ | refine hC1 _ (told_x [] _) (by simp (disch := first | omega | assumption) only [go_sem]) ?_); simp (disch := first | omega | assumption) only [go_sem])); refine hK ?_; clear hK hS hC hC1 K S C hf) | ((first | refine zk ?_ | refine zn ?_ | refine ze ?_); with_reducible (constructor; repeat constructor); try refine zl ?_)))
      exact K_ret (done_plain (by simp (disch := first | omega | assumption) only [go_sem, Res.av, toldR, badR, usageR]))
    · refine fnOK (n := 29) (rs := [.cell 4 32, .tmp 5]) Tryz.func33 rfl rfl (by decide) rfl rfl rfl ?_; rintro x rfl hrd hng
      (repeat (first | (refine K_ifT rfl rfl ?_) | (refine K_ifF rfl rfl ?_) | (refine K_ev nmd [] hng (by kernel_rfl) fun hf C S K hC1 hC hS hK => ?_; simp (disch := first | omega | assumption) only [go_sem]; (repeat ((first | refine hC1 _ (hZ _) (by simp (disch := first | omega | assumption) only [go_sem]) ?_ | refine hC1 _ (lines_nil _) (by simp (disch := first | omega | assumption) only [go_sem]) ?_ | refine hC1 _ (sort_nil _) (by simp (disch := first | omega | assumption) only [go_sem]) ?_ | refine hC1 _ (hU _) (by simp (disch := first | omega | assumption) only [go_sem]) ?_ | refine hC1 _ (hR _) (by simp (disch := first | omega | assumption) only [go_sem]) ?_ | refine hC1 _ (hJ _) (by simp (disch := first | omega | assumption) only [go_sem]) ?_ | refine hC1 _ (told_x [] _) (by simp (disch := first | omega | assumption) only [go_sem]) ?_); simp (disch := first | omega | assumption) only [go_sem])); refine hK ?_; clear hK hS hC hC1 K S C hf) | ((first | refine zk ?_ | refine zn ?_ | refine ze ?_); with_reducible (constructor; repeat constructor); try refine zl ?_)))
      exact K_ret (done_plain (by simp (disch := first | omega | assumption) only [go_sem, Res.av, toldR, badR, usageR]))
  · have hne := linesL_ne h0
    have hs0 : ¬ sortS (linesL t) = [] := fun e => hne (by have := sortS_length (linesL t); rw [e] at this; exact List.eq_nil_of_length_eq_zero this.symm)
    have hll : (linesL t).length ≤ 4000000001 := by have := joinN_len (linesL t); have := joinN_lines t; omega
    have hsl := sortS_length (linesL t)
    have hcl := compact_le (sortS (linesL t))
    have hCmp := fun id p => compact_ok (sortS (linesL t)) hs0 (by omega) id p
    have hV := fun id p => reverse_ok (sortS (linesL t)) hs0 (by omega) id p
    have hCV := fun id p => reverse_ok (Lib.compact (sortS (linesL t))) (compact_ne hs0) (by omega) id p
    rw [hsl] at hCmp hV
    rcases Bool.eq_false_or_eq_true (hasU args) with hu | hu <;> rcases Bool.eq_false_or_eq_true (hasR args) with hr | hr <;> rw [hu] at hU <;> rw [hr] at hR <;> rw [hrow _ _ hu hr]
    · refine fnOK (n := 29) (rs := [.cell 4 32, .tmp 5]) Tryz.func33 rfl rfl (by decide) rfl rfl rfl ?_; rintro x rfl hrd hng
      (repeat (first | (refine K_ifT rfl rfl ?_) | (refine K_ifF rfl rfl ?_) | (refine K_ev nmd [] hng (by kernel_rfl) fun hf C S K hC1 hC hS hK => ?_; simp (disch := first | omega | assumption) only [go_sem]; (repeat ((first | refine hC1 _ (hZ _) (by simp (disch := first | omega | assumption) only [go_sem]) ?_ | refine hC1 _ (lines_sl t h0 hl _) (by simp (disch := first | omega | assumption) only [go_sem]) ?_ | refine hC1 _ (sortStr_ok (linesL t) hne (by omega) _ _) (by simp (disch := first | omega | assumption) only [go_sem]) ?_ | refine hC1 _ (hU _) (by simp (disch := first | omega | assumption) only [go_sem]) ?_ | refine hC1 _ (hCmp _ _) (by simp (disch := first | omega | assumption) only [go_sem]) ?_ | refine hC1 _ (hR _) (by simp (disch := first | omega | assumption) only [go_sem]) ?_ | refine hC1 _ (hCV _ _) (by simp (disch := first | omega | assumption) only [go_sem]) ?_); simp (disch := first | omega | assumption) only [go_sem])); refine hK ?_; clear hK hS hC hC1 K S C hf) | ((first | refine zk ?_ | refine zn ?_ | refine ze ?_); with_reducible (constructor; repeat constructor); try refine zl ?_)))
      refine K_freeze (rowL (.sub 2 1 x.p)) 1 (((Lib.compact (sortS (linesL t))).reverse).map AV.str) (by simp (disch := first | omega | assumption) only [go_sem]) ?_
      simp (disch := first | omega | assumption) only [go_sem, hsl, List.length_reverse]
      (repeat (first | (refine K_ifT rfl rfl ?_) | (refine K_ifF rfl rfl ?_) | (refine K_ev nmd [] hng (by kernel_rfl) fun hf C S K hC1 hC hS hK => ?_; simp (disch := first | omega | assumption) only [go_sem]; (repeat ((first | refine hC1 _ (joined_ok ((Lib.compact (sortS (linesL t))).reverse) (hjr _ hcs) _) (by simp (disch := first | omega | assumption) only [go_sem]) ?_ | refine hC1 _ (told_x (joinN ((Lib.compact (sortS (linesL t))).reverse)) _) (by simp (disch := first | omega | assumption) only [go_sem]) ?_); simp (disch := first | omega | assumption) only [go_sem])); refine hK ?_; clear hK hS hC hC1 K S C hf) | ((first | refine zk ?_ | refine zn ?_ | refine ze ?_); with_reducible (constructor; repeat constructor); try refine zl ?_)))
      exact K_ret (done_plain (by simp (disch := first | omega | assumption) only [go_sem, Res.av, toldR, badR, usageR]))
    · refine fnOK (n := 29) (rs := [.cell 4 32, .tmp 5]) Tryz.func33 rfl rfl (by decide) rfl rfl rfl ?_; rintro x rfl hrd hng
      (repeat (first | (refine K_ifT rfl rfl ?_) | (refine K_ifF rfl rfl ?_) | (refine K_ev nmd [] hng (by kernel_rfl) fun hf C S K hC1 hC hS hK => ?_; simp (disch := first | omega | assumption) only [go_sem]; (repeat ((first | refine hC1 _ (hZ _) (by simp (disch := first | omega | assumption) only [go_sem]) ?_ | refine hC1 _ (lines_sl t h0 hl _) (by simp (disch := first | omega | assumption) only [go_sem]) ?_ | refine hC1 _ (sortStr_ok (linesL t) hne (by omega) _ _) (by simp (disch := first | omega | assumption) only [go_sem]) ?_ | refine hC1 _ (hU _) (by simp (disch := first | omega | assumption) only [go_sem]) ?_ | refine hC1 _ (hCmp _ _) (by simp (disch := first | omega | assumption) only [go_sem]) ?_ | refine hC1 _ (hR _) (by simp (disch := first | omega | assumption) only [go_sem]) ?_); simp (disch := first | omega | assumption) only [go_sem])); refine hK ?_; clear hK hS hC hC1 K S C hf) | ((first | refine zk ?_ | refine zn ?_ | refine ze ?_); with_reducible (constructor; repeat constructor); try refine zl ?_)))
      refine K_freeze (rowL (.sub 2 1 x.p)) 1 ((Lib.compact (sortS (linesL t))).map AV.str) (by simp (disch := first | omega | assumption) only [go_sem]) ?_
      simp (disch := first | omega | assumption) only [go_sem, hsl, List.length_reverse]
      (repeat (first | (refine K_ifT rfl rfl ?_) | (refine K_ifF rfl rfl ?_) | (refine K_ev nmd [] hng (by kernel_rfl) fun hf C S K hC1 hC hS hK => ?_; simp (disch := first | omega | assumption) only [go_sem]; (repeat ((first | refine hC1 _ (joined_ok (Lib.compact (sortS (linesL t))) (hjl _ hcs) _) (by simp (disch := first | omega | assumption) only [go_sem]) ?_ | refine hC1 _ (told_x (joinN (Lib.compact (sortS (linesL t)))) _) (by simp (disch := first | omega | assumption) only [go_sem]) ?_); simp (disch := first | omega | assumption) only [go_sem])); refine hK ?_; clear hK hS hC hC1 K S C hf) | ((first | refine zk ?_ | refine zn ?_ | refine ze ?_); with_reducible (constructor; repeat constructor); try refine zl ?_)))
      exact K_ret (done_plain (by simp (disch := first | omega | assumption) only [go_sem, Res.av, toldR, badR, usageR]))
    · refine fnOK (n := 29) (rs := [.cell 4 32, .tmp 5]) Tryz.func33 rfl rfl (by decide) rfl rfl rfl ?_; rintro x rfl hrd hng
      (repeat (first | (refine K_ifT rfl rfl ?_) | (refine K_ifF rfl rfl ?_) | (refine K_ev nmd [] hng (by kernel_rfl) fun hf C S K hC1 hC hS hK => ?_; simp (disch := first | omega | assumption) only [go_sem]; (repeat ((first | refine hC1 _ (hZ _) (by simp (disch := first | omega | assumption) only [go_sem]) ?_ | refine hC1 _ (lines_sl t h0 hl _) (by simp (disch := first | omega | assumption) only [go_sem]) ?_ | refine hC1 _ (sortStr_ok (linesL t) hne (by omega) _ _) (by simp (disch := first | omega | assumption) only [go_sem]) ?_ | refine hC1 _ (hU _) (by simp (disch := first | omega | assumption) only [go_sem]) ?_ | refine hC1 _ (hR _) (by simp (disch := first | omega | assumption) only [go_sem]) ?_ | refine hC1 _ (hV _ _) (by simp (disch := first | omega | assumption) only [go_sem]) ?_); simp (disch := first | omega | assumption) only [go_sem])); refine hK ?_; clear hK hS hC hC1 K S C hf) | ((first | refine zk ?_ | refine zn ?_ | refine ze ?_); with_reducible (constructor; repeat constructor); try refine zl ?_)))
      refine K_freeze (rowL (.sub 2 1 x.p)) 1 (((sortS (linesL t)).reverse).map AV.str) (by simp (disch := first | omega | assumption) only [go_sem]) ?_
      simp (disch := first | omega | assumption) only [go_sem, hsl, List.length_reverse]
      (repeat (first | (refine K_ifT rfl rfl ?_) | (refine K_ifF rfl rfl ?_) | (refine K_ev nmd [] hng (by kernel_rfl) fun hf C S K hC1 hC hS hK => ?_; simp (disch := first | omega | assumption) only [go_sem]; (repeat ((first | refine hC1 _ (joined_ok ((sortS (linesL t)).reverse) (hjr _ (List.Sublist.refl _)) _) (by simp (disch := first | omega | assumption) only [go_sem]) ?_ | refine hC1 _ (told_x (joinN ((sortS (linesL t)).reverse)) _) (by simp (disch := first | omega | assumption) only [go_sem]) ?_); simp (disch := first | omega | assumption) only [go_sem])); refine hK ?_; clear hK hS hC hC1 K S C hf) | ((first | refine zk ?_ | refine zn ?_ | refine ze ?_); with_reducible (constructor; repeat constructor); try refine zl ?_)))
      exact K_ret (done_plain (by simp (disch := first | omega | assumption) only [go_sem, Res.av, toldR, badR, usageR]))
    · refine fnOK (n := 29) (rs := [.cell 4 32, .tmp 5]) Tryz.func33 rfl rfl (by decide) rfl rfl rfl ?_; rintro x rfl hrd hng
      (repeat (first | (refine K_ifT rfl rfl ?_) | (refine K_ifF rfl rfl ?_) | (refine K_ev nmd [] hng (by kernel_rfl) fun hf C S K hC1 hC hS hK => ?_; simp (disch := first | omega | assumption) only [go_sem]; (repeat ((first | refine hC1 _ (hZ _) (by simp (disch := first | omega | assumption) only [go_sem]) ?_ | refine hC1 _ (lines_sl t h0 hl _) (by simp (disch := first | omega | assumption) only [go_sem]) ?_ | refine hC1 _ (sortStr_ok (linesL t) hne (by omega) _ _) (by simp (disch := first | omega | assumption) only [go_sem]) ?_ | refine hC1 _ (hU _) (by simp (disch := first | omega | assumption) only [go_sem]) ?_ | refine hC1 _ (hR _) (by simp (disch := first | omega | assumption) only [go_sem]) ?_); simp (disch := first | omega | assumption) only [go_sem])); refine hK ?_; clear hK hS hC hC1 K S C hf) | ((first | refine zk ?_ | refine zn ?_ | refine ze ?_); with_reducible (constructor; repeat constructor); try refine zl ?_)))
      refine K_freeze (rowL (.sub 2 1 x.p)) 1 ((sortS (linesL t)).map AV.str) (by simp (disch := first | omega | assumption) only [go_sem]) ?_
      simp (disch := first | omega | assumption) only [go_sem, hsl, List.length_reverse]
      (repeat (first | (refine K_ifT rfl rfl ?_) | (refine K_ifF rfl rfl ?_) | (refine K_ev nmd [] hng (by kernel_rfl) fun hf C S K hC1 hC hS hK => ?_; simp (disch := first | omega | assumption) only [go_sem]; (repeat ((first | refine hC1 _ (joined_ok (sortS (linesL t)) (hjl _ (List.Sublist.refl _)) _) (by simp (disch := first | omega | assumption) only [go_sem]) ?_ | refine hC1 _ (told_x (joinN (sortS (linesL t))) _) (by simp (disch := first | omega | assumption) only [go_sem]) ?_); simp (disch := first | omega | assumption) only [go_sem])); refine hK ?_; clear hK hS hC hC1 K S C hf) | ((first | refine zk ?_ | refine zn ?_ | refine ze ?_); with_reducible (constructor; repeat constructor); try refine zl ?_)))
      exact K_ret (done_plain (by simp (disch := first | omega | assumption) only [go_sem, Res.av, toldR, badR, usageR]))
end Go.Proofs.YtiaiggbimlbkfaaGreatDoor
