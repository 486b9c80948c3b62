/- Filter: grep of the reference. -/
import Derived.Test.YtiaiggbimlbkfaaGreatDoorQ29
import Derived.Test.YtiaiggbimlbkfaaGreatDoorQL3
set_option linter.unusedVariables false
set_option linter.unusedSimpArgs false
namespace Go.Proofs.YtiaiggbimlbkfaaGreatDoor
open Go Go.Ab
set_option maxRecDepth 20000
set_option maxHeartbeats 4000000
theorem has_ok (s u : Str) (hl : s.length ≤ 4000000000) (hu : u.length ≤ 4000000000) (p : Oid) : CallOK Tryz.prog 24 [.str s, .str u] (Oid.under p) ⟨[], .bool (Lib.contains s u), []⟩ := by
  refine fnOK (n := 24) (rs := [.tmp 4]) Tryz.func24 rfl rfl (by decide) rfl rfl rfl ?_; rintro x rfl hrd hng
  (repeat (first | (refine K_ifT rfl rfl ?_) | (refine K_ifF rfl rfl ?_) | (refine K_ev nmd [] hng (by kernel_rfl) fun hf C S K hC1 hC hS hK => ?_; simp (disch := first | omega | assumption) only [go_sem]; refine hK ?_; clear hK hS hC hC1 K S C hf) | ((first | refine zk ?_ | refine zn ?_ | refine ze ?_); with_reducible (constructor; repeat constructor); try refine zl ?_)))
  refine K_loop [0, 1, 5] (fun k s' => ∃ i c : Nat, k = s.length + 1 - i ∧ i ≤ s.length + 1 ∧ (∀ j, j < i → j + u.length ≤ s.length → ¬ (s.take (j + u.length)).drop j = u) ∧ s' = ⟨[(0, .str s), (1, .str u), (5, .int .i64 i)], Mem.of [], c, []⟩) _ ⟨0, _, rfl, Nat.zero_le _, fun j hj => absurd hj (Nat.not_lt_zero _), rfl⟩ ?_
  rintro k s' ⟨i, c, rfl, hi, hno, rfl⟩
  (repeat (first | (refine K_ifT rfl rfl ?_) | (refine K_ifF rfl rfl ?_) | (refine K_ev nmd [] hng (by kernel_rfl) fun hf C S K hC1 hC hS hK => ?_; simp (disch := first | omega | assumption) only [go_sem]; refine hK ?_; clear hK hS hC hC1 K S C hf) | ((first | refine zk ?_ | refine zn ?_ | refine ze ?_); with_reducible (constructor; repeat constructor); try refine zl ?_)))
  refine K_ifd rfl rfl (fun hb => ?_) (fun hb => ?_)
  · have hlt : i + u.length ≤ s.length := by omega
    have hz : ((i : Int) + (u.length : Int)).toNat = i + u.length := by omega
    (repeat (first | (refine K_ifT rfl rfl ?_) | (refine K_ifF rfl rfl ?_) | (refine K_ev nmd [] hng (by kernel_rfl) fun hf C S K hC1 hC hS hK => ?_; simp (disch := first | omega | assumption) only [go_sem, hz]; (repeat ((first | refine hC1 _ () (by simp (disch := first | omega | assumption) only [go_sem]) ?_); simp (disch := first | omega | assumption) only [go_sem])); refine hK ?_; clear hK hS hC hC1 K S C hf) | ((first | refine zk ?_ | refine zn ?_ | refine ze ?_); with_reducible (constructor; repeat constructor); try refine zl ?_)))
    refine K_ifd rfl rfl (fun hb => ?_) (fun hb => ?_)
    · rw [has_at hlt hb]
      (repeat (first | (refine K_ifT rfl rfl ?_) | (refine K_ifF rfl rfl ?_) | (refine K_ev nmd [] hng (by kernel_rfl) fun hf C S K hC1 hC hS hK => ?_; simp (disch := first | omega | assumption) only [go_sem]; refine hK ?_; clear hK hS hC hC1 K S C hf) | ((first | refine zk ?_ | refine zn ?_ | refine ze ?_); with_reducible (constructor; repeat constructor); try refine zl ?_)))
      exact K_ret (done1 rfl)
    · (repeat (first | (refine K_ifT rfl rfl ?_) | (refine K_ifF rfl rfl ?_) | (refine K_ev nmd [] hng (by kernel_rfl) fun hf C S K hC1 hC hS hK => ?_; simp (disch := first | omega | assumption) only [go_sem]; refine hK ?_; clear hK hS hC hC1 K S C hf) | ((first | refine zk ?_ | refine zn ?_ | refine ze ?_); with_reducible (constructor; repeat constructor); try refine zl ?_)))
      refine ⟨_, _, ?_, fun _ _ h => h, i + 1, _, rfl, by omega, fun j hj hjl => ?_, rfl⟩
      · omega
      · by_cases he : j = i
        · subst he; exact hb
        · exact hno j (by omega) hjl
  · rw [has_none (by omega) hno]
    (repeat (first | (refine K_ifT rfl rfl ?_) | (refine K_ifF rfl rfl ?_) | (refine K_ev nmd [] hng (by kernel_rfl) fun hf C S K hC1 hC hS hK => ?_; simp (disch := first | omega | assumption) only [go_sem]; refine hK ?_; clear hK hS hC hC1 K S C hf) | ((first | refine zk ?_ | refine zn ?_ | refine ze ?_); with_reducible (constructor; repeat constructor); try refine zl ?_)))
    exact K_ret (done1 rfl)
theorem filter_take_succ {q : Str → Bool} {l : List Str} {i : Nat} (h : i < l.length) : (l.take (i + 1)).filter q = (l.take i).filter q ++ if q (l.getD i default) = true then [l.getD i default] else [] := by
  rw [List.take_add_one, List.filter_append, List.getElem?_eq_getElem h, List.getD_eq_getElem?_getD, List.getElem?_eq_getElem h]
  simp [List.filter_cons]
theorem grepRef_ok (args : List Str) (no : Bool) (u : Str) (h : GrepV args no u) (hul : u.length ≤ 4000000) (t : Str) (htl : t.length ≤ 4000000) (p : Oid) :
    CallOK Tryz.prog 48 [.list 1 (args.map AV.str), .str t] (Oid.under p) ⟨[], (grepR no u t).av, []⟩ := by
  have hjl := joinN_lines t
  have hjn := joinN_len (linesL t)
  have hlr := fun p => linesR_ok t (by omega) p
  generalize hL : linesL t = L at hjl hjn hlr
  have hmem : ∀ i, (L.getD i default).length ≤ 4000001 := fun i => by
    have h1 := joinN_mem0 L i
    omega
  rcases h with ⟨rfl, rfl⟩ | ⟨rfl, rfl⟩
  · refine fnOK (n := 61) (rs := [.cell 4 32]) Tryz.func48 rfl rfl (by decide) rfl rfl rfl ?_; rintro x rfl hrd hng
    (try ((first | refine zk ?_ | refine zn ?_ | refine ze ?_); with_reducible (constructor; repeat constructor)); try refine zl ?_)
    refine K_ev nmd [] hng (by kernel_rfl) fun hf C S K hC1 hC hS hK => ?_; simp (disch := first | omega | assumption) only [go_sem]
    refine hK ?_; clear hK hS hC hC1 K S C hf
    (try ((first | refine zk ?_ | refine zn ?_ | refine ze ?_); with_reducible (constructor; repeat constructor)); try refine zl ?_)
    refine K_ev nmd [(3, 12)] hng (by kernel_rfl) fun hf C S K hC1 hC hS hK => ?_; simp (disch := first | omega | assumption) only [go_sem, decide_true, decide_false, ne_eq, not_true_eq_false, not_false_eq_true]
    (repeat' (first | (refine evG_split (fun hv => ?_) (fun hv => ?_) <;> (try simp only [zb1, zb2, zb3, zb4, zb5] at hv) <;> simp (disch := first | omega | assumption) only [go_sem, hv, decide_true, decide_false, ne_eq, not_true_eq_false, not_false_eq_true]) | (refine hK ?_; clear hK hS hC hC1 K S C hf)))
    all_goals first | contradiction | exact absurd rfl hv | skip
    (try ((first | refine zk ?_ | refine zn ?_ | refine ze ?_); with_reducible (constructor; repeat constructor)); try refine zl ?_)
    refine K_ev nmd [(3, 21)] hng (by kernel_rfl) fun hf C S K hC1 hC hS hK => ?_; simp (disch := first | omega | assumption) only [go_sem, decide_true, decide_false, ne_eq, not_true_eq_false, not_false_eq_true]
    (repeat' (first | (refine evG_split (fun hv => ?_) (fun hv => ?_) <;> (try simp only [zb1, zb2, zb3, zb4, zb5] at hv) <;> simp (disch := first | omega | assumption) only [go_sem, hv, decide_true, decide_false, ne_eq, not_true_eq_false, not_false_eq_true]) | (refine hK ?_; clear hK hS hC hC1 K S C hf)))
    all_goals first | contradiction | exact absurd rfl hv | skip
    (repeat (first | (refine K_ifT rfl rfl ?_) | (refine K_ifF rfl rfl ?_) | (refine K_ev nmd [] hng (by kernel_rfl) fun hf C S K hC1 hC hS hK => ?_; simp (disch := first | omega | assumption) only [go_sem]; (repeat ((first | refine hC1 _ (hlr _) (by simp (disch := first | omega | assumption) only [go_sem]) ?_); simp (disch := first | omega | assumption) only [go_sem])); refine hK ?_; clear hK hS hC hC1 K S C hf) | ((first | refine zk ?_ | refine zn ?_ | refine ze ?_); with_reducible (constructor; repeat constructor); try refine zl ?_)))
    refine K_void 7 1 rfl ?_
    simp (disch := first | omega | assumption) only [go_sem]
    refine K_loop [0, 4, 5, 6, 7, 8] (fun k s' => ∃ (i d j c : Nat) (done : List Str), k = L.length - i ∧ i ≤ L.length ∧ 1 ≤ d ∧ d < c ∧ done.length ≤ i ∧ done = (L.take i).filter (fun s => !grepQ false u s) ∧
      s' = ⟨[(0, .list 1 [.str u]), (4, .ptr (.sub 0 0 x.p) 0), (5, .bool false), (6, .list 1 (L.map AV.str)), (7, .sl (.sub d j x.p) 1 done.length), (8, .int .i64 i)], Mem.of [(.sub 0 0 x.p, .cells [.int .i64 0, .str [], .str []]), (.sub d j x.p, .arr 1 (done.map AV.str))], c, []⟩) _ ⟨0, 6, 0, 7, [], rfl, Nat.zero_le _, by omega, by omega, Nat.le_refl _, rfl, rfl⟩ ?_
    rintro k s' ⟨i, d, j, c, done, rfl, hi, hd1, hdc, hdl, hdn, rfl⟩
    (repeat (first | (refine K_ifT rfl rfl ?_) | (refine K_ifF rfl rfl ?_) | (refine K_ev nmd [] hng (by kernel_rfl) fun hf C S K hC1 hC hS hK => ?_; simp (disch := first | omega | assumption) only [go_sem, List.length_map]; (repeat ((first | refine hC1 _ () (by simp (disch := first | omega | assumption) only [go_sem]) ?_); simp (disch := first | omega | assumption) only [go_sem])); refine hK ?_; clear hK hS hC hC1 K S C hf) | ((first | refine zk ?_ | refine zn ?_ | refine ze ?_); with_reducible (constructor; repeat constructor); try refine zl ?_)))
    refine K_ifd rfl rfl (fun hb => ?_) (fun hb => ?_)
    · have hlt : i < L.length := by omega
      have hfs := filter_take_succ (q := fun s => !grepQ false u s) hlt
      have hml := hmem i
      rw [← hdn] at hfs
      generalize hq : L.getD i default = q at hfs hml
      have hgu : ([.str u] : List AV).getD (((1 : Nat) : Int) - 1).toNat .undef = .str u := rfl
      (try ((first | refine zk ?_ | refine zn ?_ | refine ze ?_); with_reducible (constructor; repeat constructor)); try refine zl ?_)
      refine K_evd nmd [] [] mixed hng (by kernel_rfl) [0, 4, 5, 6, 7, 8, 46] fun hf C S K hC hS hK => ?_; simp (disch := first | omega | assumption) only [go_sem, List.length_map, hq, hgu, AV.cells, decide_true, decide_false, ne_eq, not_true_eq_false, not_false_eq_true]
      (repeat' (first | (refine evG_split (fun hv => ?_) (fun hv => ?_) <;> (try simp only [zb1, zb2, zb3, zb4, zb5] at hv) <;> simp (disch := first | omega | assumption) only [go_sem, hv, List.length_map, hq, hgu, AV.cells, decide_true, decide_false, ne_eq, not_true_eq_false, not_false_eq_true]) | (refine hC _ (has_ok q u (by omega) (by omega) _) (by simp (disch := first | omega | assumption) only [go_sem, List.length_map, hq, hgu, AV.cells, decide_true, decide_false, ne_eq, not_true_eq_false, not_false_eq_true]) ?_; simp (disch := first | omega | assumption) only [go_sem, List.length_map, hq, hgu, AV.cells, decide_true, decide_false, ne_eq, not_true_eq_false, not_false_eq_true]) | ((first | refine hK (dynN_quiet rfl) ?_ | refine hK (by simp (disch := first | omega | assumption) only [go_sem, List.reverse_cons, List.reverse_nil, ne_eq, not_false_eq_true, implies_true]) ?_); clear hK hS hC K S C hf)))
      (try ((first | refine zk ?_ | refine zn ?_ | refine ze ?_); with_reducible (constructor; repeat constructor)); try refine zl ?_)
      refine K_if rfl rfl (fun hb => ?_) (fun hb => ?_)
      · have hk : (!grepQ false u q) = true := by unfold grepQ; cases hc : Lib.contains q u <;> rw [hc] at hb <;> simp_all
        rw [hk, if_pos rfl] at hfs
        (repeat (first | (refine K_ifT rfl rfl ?_) | (refine K_ifF rfl rfl ?_) | (refine K_ev nmd [] hng (by kernel_rfl) fun hf C S K hC1 hC hS hK => ?_; simp (disch := first | omega | assumption) only [go_sem, List.length_map, hq]; (repeat ((first | refine hC1 _ () (by simp (disch := first | omega | assumption) only [go_sem]) ?_); simp (disch := first | omega | assumption) only [go_sem])); refine hK ?_; clear hK hS hC hC1 K S C hf) | ((first | refine zk ?_ | refine zn ?_ | refine ze ?_); with_reducible (constructor; repeat constructor); try refine zl ?_)))
        refine ⟨_, _, ?_, fun _ _ h => h, i + 1, c + 1 + 1, 6, c + 1 + 1 + 1 + 1, done ++ [q], rfl, by omega, by omega, by omega, by rw [List.length_append, List.length_singleton]; omega, hfs.symm, ?_⟩
        · omega
        · rw [List.map_append, List.length_append]; rfl
      · have hk : (!grepQ false u q) = false := by unfold grepQ; cases hc : Lib.contains q u <;> rw [hc] at hb <;> simp_all
        rw [hk, if_neg Bool.false_ne_true, List.append_nil] at hfs
        (repeat (first | (refine K_ifT rfl rfl ?_) | (refine K_ifF rfl rfl ?_) | (refine K_ev nmd [] hng (by kernel_rfl) fun hf C S K hC1 hC hS hK => ?_; simp (disch := first | omega | assumption) only [go_sem]; refine hK ?_; clear hK hS hC hC1 K S C hf) | ((first | refine zk ?_ | refine zn ?_ | refine ze ?_); with_reducible (constructor; repeat constructor); try refine zl ?_)))
        exact ⟨_, _, by omega, fun _ _ h => h, i + 1, d, j, _, done, rfl, by omega, by omega, by omega, by omega, hfs.symm, rfl⟩
    · obtain rfl : i = L.length := by omega
      rw [List.take_length] at hdn
      unfold grepR
      rw [show grepRow false u t = done by rw [grepRow, hL, hdn]]
      have hrw : (joinN done).length ≤ (joinN L).length := by rw [hdn]; exact joinN_sub List.filter_sublist
      (repeat (first | (refine K_ifT rfl rfl ?_) | (refine K_ifF rfl rfl ?_) | (refine K_ev nmd [] hng (by kernel_rfl) fun hf C S K hC1 hC hS hK => ?_; simp (disch := first | omega | assumption) only [go_sem]; refine hK ?_; clear hK hS hC hC1 K S C hf) | ((first | refine zk ?_ | refine zn ?_ | refine ze ?_); with_reducible (constructor; repeat constructor); try refine zl ?_)))
      refine K_ifd rfl rfl (fun hb => ?_) (fun hb => ?_)
      · have hr : done = [] := List.eq_nil_of_length_eq_zero (by omega)
        rw [if_pos hr]
        (repeat (first | (refine K_ifT rfl rfl ?_) | (refine K_ifF rfl rfl ?_) | (refine K_ev nmd [] hng (by kernel_rfl) fun hf C S K hC1 hC hS hK => ?_; simp (disch := first | omega | assumption) only [go_sem]; refine hK ?_; clear hK hS hC hC1 K S C hf) | ((first | refine zk ?_ | refine zn ?_ | refine ze ?_); with_reducible (constructor; repeat constructor); try refine zl ?_)))
        exact K_ret (done_plain (by simp (disch := first | omega | assumption) only [go_sem, Res.av, toldR, badR, usageR]))
      · have hr : ¬ done = [] := fun e => hb (by rw [e]; rfl)
        rw [if_neg hr]
        (try ((first | refine zk ?_ | refine zn ?_ | refine ze ?_); with_reducible (constructor; repeat constructor)); try refine zl ?_)
        refine K_freeze (.sub d j x.p) 1 (done.map AV.str) (by simp (disch := first | omega | assumption) only [go_sem]) ?_
        simp (disch := first | omega | assumption) only [go_sem, List.length_map]
        (repeat (first | (refine K_ifT rfl rfl ?_) | (refine K_ifF rfl rfl ?_) | (refine K_ev nmd [] hng (by kernel_rfl) fun hf C S K hC1 hC hS hK => ?_; simp (disch := first | omega | assumption) only [go_sem]; (repeat ((first | refine hC1 _ (joinedR_ok done (by omega) _) (by simp (disch := first | omega | assumption) only [go_sem]) ?_); simp (disch := first | omega | assumption) only [go_sem])); refine hK ?_; clear hK hS hC hC1 K S C hf) | ((first | refine zk ?_ | refine zn ?_ | refine ze ?_); with_reducible (constructor; repeat constructor); try refine zl ?_)))
        exact K_ret (done_plain (by simp (disch := first | omega | assumption) only [go_sem, Res.av, toldR, badR, usageR]))
  · refine fnOK (n := 61) (rs := [.cell 4 32]) Tryz.func48 rfl rfl (by decide) rfl rfl rfl ?_; rintro x rfl hrd hng
    (try ((first | refine zk ?_ | refine zn ?_ | refine ze ?_); with_reducible (constructor; repeat constructor)); try refine zl ?_)
    refine K_ev nmd [] hng (by kernel_rfl) fun hf C S K hC1 hC hS hK => ?_; simp (disch := first | omega | assumption) only [go_sem]
    refine hK ?_; clear hK hS hC hC1 K S C hf
    (try ((first | refine zk ?_ | refine zn ?_ | refine ze ?_); with_reducible (constructor; repeat constructor)); try refine zl ?_)
    refine K_ev nmd [(3, 12)] hng (by kernel_rfl) fun hf C S K hC1 hC hS hK => ?_; simp (disch := first | omega | assumption) only [go_sem, decide_true, decide_false, ne_eq, not_true_eq_false, not_false_eq_true]
    (repeat' (first | (refine evG_split (fun hv => ?_) (fun hv => ?_) <;> (try simp only [zb1, zb2, zb3, zb4, zb5] at hv) <;> simp (disch := first | omega | assumption) only [go_sem, hv, decide_true, decide_false, ne_eq, not_true_eq_false, not_false_eq_true]) | (refine hK ?_; clear hK hS hC hC1 K S C hf)))
    all_goals first | contradiction | exact absurd rfl hv | skip
    (try ((first | refine zk ?_ | refine zn ?_ | refine ze ?_); with_reducible (constructor; repeat constructor)); try refine zl ?_)
    refine K_ev nmd [(3, 21)] hng (by kernel_rfl) fun hf C S K hC1 hC hS hK => ?_; simp (disch := first | omega | assumption) only [go_sem, decide_true, decide_false, ne_eq, not_true_eq_false, not_false_eq_true]
    (repeat' (first | (refine evG_split (fun hv => ?_) (fun hv => ?_) <;> (try simp only [zb1, zb2, zb3, zb4, zb5] at hv) <;> simp (disch := first | omega | assumption) only [go_sem, hv, decide_true, decide_false, ne_eq, not_true_eq_false, not_false_eq_true]) | (refine hK ?_; clear hK hS hC hC1 K S C hf)))
    all_goals first | contradiction | exact absurd rfl hv | skip
    (repeat (first | (refine K_ifT rfl rfl ?_) | (refine K_ifF rfl rfl ?_) | (refine K_ev nmd [] hng (by kernel_rfl) fun hf C S K hC1 hC hS hK => ?_; simp (disch := first | omega | assumption) only [go_sem]; (repeat ((first | refine hC1 _ (hlr _) (by simp (disch := first | omega | assumption) only [go_sem]) ?_); simp (disch := first | omega | assumption) only [go_sem])); refine hK ?_; clear hK hS hC hC1 K S C hf) | ((first | refine zk ?_ | refine zn ?_ | refine ze ?_); with_reducible (constructor; repeat constructor); try refine zl ?_)))
    refine K_void 7 1 rfl ?_
    simp (disch := first | omega | assumption) only [go_sem]
    refine K_loop [0, 4, 5, 6, 7, 8] (fun k s' => ∃ (i d j c : Nat) (done : List Str), k = L.length - i ∧ i ≤ L.length ∧ 1 ≤ d ∧ d < c ∧ done.length ≤ i ∧ done = (L.take i).filter (fun s => !grepQ true u s) ∧
      s' = ⟨[(0, .list 1 [.str [45, 118], .str u]), (4, .ptr (.sub 0 0 x.p) 0), (5, .bool true), (6, .list 1 (L.map AV.str)), (7, .sl (.sub d j x.p) 1 done.length), (8, .int .i64 i)], Mem.of [(.sub 0 0 x.p, .cells [.int .i64 0, .str [], .str []]), (.sub d j x.p, .arr 1 (done.map AV.str))], c, []⟩) _ ⟨0, 6, 0, 7, [], rfl, Nat.zero_le _, by omega, by omega, Nat.le_refl _, rfl, rfl⟩ ?_
    rintro k s' ⟨i, d, j, c, done, rfl, hi, hd1, hdc, hdl, hdn, rfl⟩
    (repeat (first | (refine K_ifT rfl rfl ?_) | (refine K_ifF rfl rfl ?_) | (refine K_ev nmd [] hng (by kernel_rfl) fun hf C S K hC1 hC hS hK => ?_; simp (disch := first | omega | assumption) only [go_sem, List.length_map]; (repeat ((first | refine hC1 _ () (by simp (disch := first | omega | assumption) only [go_sem]) ?_); simp (disch := first | omega | assumption) only [go_sem])); refine hK ?_; clear hK hS hC hC1 K S C hf) | ((first | refine zk ?_ | refine zn ?_ | refine ze ?_); with_reducible (constructor; repeat constructor); try refine zl ?_)))
    refine K_ifd rfl rfl (fun hb => ?_) (fun hb => ?_)
    · have hlt : i < L.length := by omega
      have hfs := filter_take_succ (q := fun s => !grepQ true u s) hlt
      have hml := hmem i
      rw [← hdn] at hfs
      generalize hq : L.getD i default = q at hfs hml
      have hgu : ([.str [45, 118], .str u] : List AV).getD (((2 : Nat) : Int) - 1).toNat .undef = .str u := rfl
      (try ((first | refine zk ?_ | refine zn ?_ | refine ze ?_); with_reducible (constructor; repeat constructor)); try refine zl ?_)
      refine K_evd nmd [] [] mixed hng (by kernel_rfl) [0, 4, 5, 6, 7, 8, 46] fun hf C S K hC hS hK => ?_; simp (disch := first | omega | assumption) only [go_sem, List.length_map, hq, hgu, AV.cells, decide_true, decide_false, ne_eq, not_true_eq_false, not_false_eq_true]
      (repeat' (first | (refine evG_split (fun hv => ?_) (fun hv => ?_) <;> (try simp only [zb1, zb2, zb3, zb4, zb5] at hv) <;> simp (disch := first | omega | assumption) only [go_sem, hv, List.length_map, hq, hgu, AV.cells, decide_true, decide_false, ne_eq, not_true_eq_false, not_false_eq_true]) | (refine hC _ (has_ok q u (by omega) (by omega) _) (by simp (disch := first | omega | assumption) only [go_sem, List.length_map, hq, hgu, AV.cells, decide_true, decide_false, ne_eq, not_true_eq_false, not_false_eq_true]) ?_; simp (disch := first | omega | assumption) only [go_sem, List.length_map, hq, hgu, AV.cells, decide_true, decide_false, ne_eq, not_true_eq_false, not_false_eq_true]) | ((first | refine hK (dynN_quiet rfl) ?_ | refine hK (by simp (disch := first | omega | assumption) only [go_sem, List.reverse_cons, List.reverse_nil, ne_eq, not_false_eq_true, implies_true]) ?_); clear hK hS hC K S C hf)))
      (try ((first | refine zk ?_ | refine zn ?_ | refine ze ?_); with_reducible (constructor; repeat constructor)); try refine zl ?_)
      refine K_if rfl rfl (fun hb => ?_) (fun hb => ?_)
      · have hk : (!grepQ true u q) = true := by unfold grepQ; cases hc : Lib.contains q u <;> rw [hc] at hb <;> simp_all
        rw [hk, if_pos rfl] at hfs
        (repeat (first | (refine K_ifT rfl rfl ?_) | (refine K_ifF rfl rfl ?_) | (refine K_ev nmd [] hng (by kernel_rfl) fun hf C S K hC1 hC hS hK => ?_; simp (disch := first | omega | assumption) only [go_sem, List.length_map, hq]; (repeat ((first | refine hC1 _ () (by simp (disch := first | omega | assumption) only [go_sem]) ?_); simp (disch := first | omega | assumption) only [go_sem])); refine hK ?_; clear hK hS hC hC1 K S C hf) | ((first | refine zk ?_ | refine zn ?_ | refine ze ?_); with_reducible (constructor; repeat constructor); try refine zl ?_)))
        refine ⟨_, _, ?_, fun _ _ h => h, i + 1, c + 1 + 1, 6, c + 1 + 1 + 1 + 1, done ++ [q], rfl, by omega, by omega, by omega, by rw [List.length_append, List.length_singleton]; omega, hfs.symm, ?_⟩
        · omega
        · rw [List.map_append, List.length_append]; rfl
      · have hk : (!grepQ true u q) = false := by unfold grepQ; cases hc : Lib.contains q u <;> rw [hc] at hb <;> simp_all
        rw [hk, if_neg Bool.false_ne_true, List.append_nil] at hfs
        (repeat (first | (refine K_ifT rfl rfl ?_) | (refine K_ifF rfl rfl ?_) | (refine K_ev nmd [] hng (by kernel_rfl) fun hf C S K hC1 hC hS hK => ?_; simp (disch := first | omega | assumption) only [go_sem]; refine hK ?_; clear hK hS hC hC1 K S C hf) | ((first | refine zk ?_ | refine zn ?_ | refine ze ?_); with_reducible (constructor; repeat constructor); try refine zl ?_)))
        exact ⟨_, _, by omega, fun _ _ h => h, i + 1, d, j, _, done, rfl, by omega, by omega, by omega, by omega, hfs.symm, rfl⟩
    · obtain rfl : i = L.length := by omega
      rw [List.take_length] at hdn
      unfold grepR
      rw [show grepRow true u t = done by rw [grepRow, hL, hdn]]
      have hrw : (joinN done).length ≤ (joinN L).length := by rw [hdn]; exact joinN_sub List.filter_sublist
      (repeat (first | (refine K_ifT rfl rfl ?_) | (refine K_ifF rfl rfl ?_) | (refine K_ev nmd [] hng (by kernel_rfl) fun hf C S K hC1 hC hS hK => ?_; simp (disch := first | omega | assumption) only [go_sem]; refine hK ?_; clear hK hS hC hC1 K S C hf) | ((first | refine zk ?_ | refine zn ?_ | refine ze ?_); with_reducible (constructor; repeat constructor); try refine zl ?_)))
      refine K_ifd rfl rfl (fun hb => ?_) (fun hb => ?_)
      · have hr : done = [] := List.eq_nil_of_length_eq_zero (by omega)
        rw [if_pos hr]
        (repeat (first | (refine K_ifT rfl rfl ?_) | (refine K_ifF rfl rfl ?_) | (refine K_ev nmd [] hng (by kernel_rfl) fun hf C S K hC1 hC hS hK => ?_; simp (disch := first | omega | assumption) only [go_sem]; refine hK ?_; clear hK hS hC hC1 K S C hf) | ((first | refine zk ?_ | refine zn ?_ | refine ze ?_); with_reducible (constructor; repeat constructor); try refine zl ?_)))
        exact K_ret (done_plain (by simp (disch := first | omega | assumption) only [go_sem, Res.av, toldR, badR, usageR]))
      · have hr : ¬ done = [] := fun e => hb (by rw [e]; rfl)
        rw [if_neg hr]
        (try ((first | refine zk ?_ | refine zn ?_ | refine ze ?_); with_reducible (constructor; repeat constructor)); try refine zl ?_)
        refine K_freeze (.sub d j x.p) 1 (done.map AV.str) (by simp (disch := first | omega | assumption) only [go_sem]) ?_
        simp (disch := first | omega | assumption) only [go_sem, List.length_map]
        (repeat (first | (refine K_ifT rfl rfl ?_) | (refine K_ifF rfl rfl ?_) | (refine K_ev nmd [] hng (by kernel_rfl) fun hf C S K hC1 hC hS hK => ?_; simp (disch := first | omega | assumption) only [go_sem]; (repeat ((first | refine hC1 _ (joinedR_ok done (by omega) _) (by simp (disch := first | omega | assumption) only [go_sem]) ?_); simp (disch := first | omega | assumption) only [go_sem])); refine hK ?_; clear hK hS hC hC1 K S C hf) | ((first | refine zk ?_ | refine zn ?_ | refine ze ?_); with_reducible (constructor; repeat constructor); try refine zl ?_)))
        exact K_ret (done_plain (by simp (disch := first | omega | assumption) only [go_sem, Res.av, toldR, badR, usageR]))
theorem grepRef_bad (args : List Str) (h : ¬ args.length = 1 ∧ ∀ u, ¬ args = [[45, 118], u]) (t : Str) (p : Oid) :
    CallOK Tryz.prog 48 [.list 1 (args.map AV.str), .str t] (Oid.under p) ⟨[], (usageR [103, 114, 101, 112]).av, []⟩ := by
  have hu := fun p => usageR_ok [103, 114, 101, 112] (by decide) p
  simp only [Res.av, usageR] at hu
  have hz1 : ((args.length : Int) = 1) = False := eq_false (by omega)
  by_cases h2 : args.length = 2
  · match args, h2, h with
    | [a, b], _, h =>
      have ha : (a = [45, 118]) = False := eq_false fun e => h.2 b (by rw [e])
      refine fnOK (n := 61) (rs := [.cell 4 32]) Tryz.func48 rfl rfl (by decide) rfl rfl rfl ?_; rintro x rfl hrd hng
      (try ((first | refine zk ?_ | refine zn ?_ | refine ze ?_); with_reducible (constructor; repeat constructor)); try refine zl ?_)
      refine K_ev nmd [] hng (by kernel_rfl) fun hf C S K hC1 hC hS hK => ?_; simp (disch := first | omega | assumption) only [go_sem]
      refine hK ?_; clear hK hS hC hC1 K S C hf
      (try ((first | refine zk ?_ | refine zn ?_ | refine ze ?_); with_reducible (constructor; repeat constructor)); try refine zl ?_)
      refine K_ev nmd [(3, 12)] hng (by kernel_rfl) fun hf C S K hC1 hC hS hK => ?_; simp (disch := first | omega | assumption) only [go_sem, ha, decide_true, decide_false, ne_eq, not_true_eq_false, not_false_eq_true]
      (repeat' (first | (refine evG_split (fun hv => ?_) (fun hv => ?_) <;> (try simp only [zb1, zb2, zb3, zb4, zb5] at hv) <;> simp (disch := first | omega | assumption) only [go_sem, hv, ha, decide_true, decide_false, ne_eq, not_true_eq_false, not_false_eq_true]) | (refine hK ?_; clear hK hS hC hC1 K S C hf)))
      all_goals first | contradiction | skip
      (try ((first | refine zk ?_ | refine zn ?_ | refine ze ?_); with_reducible (constructor; repeat constructor)); try refine zl ?_)
      refine K_ev nmd [(3, 21)] hng (by kernel_rfl) fun hf C S K hC1 hC hS hK => ?_; simp (disch := first | omega | assumption) only [go_sem, decide_true, decide_false, ne_eq, not_true_eq_false, not_false_eq_true]
      (repeat' (first | (refine evG_split (fun hv => ?_) (fun hv => ?_) <;> (try simp only [zb1, zb2, zb3, zb4, zb5] at hv) <;> simp (disch := first | omega | assumption) only [go_sem, hv, decide_true, decide_false, ne_eq, not_true_eq_false, not_false_eq_true]) | (refine hK ?_; clear hK hS hC hC1 K S C hf)))
      all_goals first | contradiction | skip
      (repeat (first | (refine K_ifT rfl rfl ?_) | (refine K_ifF rfl rfl ?_) | (refine K_ev nmd [] hng (by kernel_rfl) fun hf C S K hC1 hC hS hK => ?_; simp (disch := first | omega | assumption) only [go_sem]; (repeat ((first | refine hC1 _ (hu _) (by simp (disch := first | omega | assumption) only [go_sem]) ?_); simp (disch := first | omega | assumption) only [go_sem])); refine hK ?_; clear hK hS hC hC1 K S C hf) | ((first | refine zk ?_ | refine zn ?_ | refine ze ?_); with_reducible (constructor; repeat constructor); try refine zl ?_)))
      exact K_ret (done_plain (by simp (disch := first | omega | assumption) only [go_sem, Res.av, toldR, badR, usageR]))
  · have hz2 : ((args.length : Int) = 2) = False := eq_false (by omega)
    refine fnOK (n := 61) (rs := [.cell 4 32]) Tryz.func48 rfl rfl (by decide) rfl rfl rfl ?_; rintro x rfl hrd hng
    (try ((first | refine zk ?_ | refine zn ?_ | refine ze ?_); with_reducible (constructor; repeat constructor)); try refine zl ?_)
    refine K_ev nmd [] hng (by kernel_rfl) fun hf C S K hC1 hC hS hK => ?_; simp (disch := first | omega | assumption) only [go_sem]
    refine hK ?_; clear hK hS hC hC1 K S C hf
    (try ((first | refine zk ?_ | refine zn ?_ | refine ze ?_); with_reducible (constructor; repeat constructor)); try refine zl ?_)
    refine K_ev nmd [(3, 12)] hng (by kernel_rfl) fun hf C S K hC1 hC hS hK => ?_; simp (disch := first | omega | assumption) only [go_sem, List.length_map, hz2, decide_true, decide_false, ne_eq, not_true_eq_false, not_false_eq_true]
    (repeat' (first | (refine evG_split (fun hv => ?_) (fun hv => ?_) <;> (try simp only [zb1, zb2, zb3, zb4, zb5] at hv) <;> simp (disch := first | omega | assumption) only [go_sem, hv, List.length_map, hz2, decide_true, decide_false, ne_eq, not_true_eq_false, not_false_eq_true]) | (refine hK ?_; clear hK hS hC hC1 K S C hf)))
    all_goals first | contradiction | skip
    (try ((first | refine zk ?_ | refine zn ?_ | refine ze ?_); with_reducible (constructor; repeat constructor)); try refine zl ?_)
    refine K_ev nmd [(3, 21)] hng (by kernel_rfl) fun hf C S K hC1 hC hS hK => ?_; simp (disch := first | omega | assumption) only [go_sem, List.length_map, hz1, decide_true, decide_false, ne_eq, not_true_eq_false, not_false_eq_true]
    (repeat' (first | (refine evG_split (fun hv => ?_) (fun hv => ?_) <;> (try simp only [zb1, zb2, zb3, zb4, zb5] at hv) <;> simp (disch := first | omega | assumption) only [go_sem, hv, List.length_map, hz1, decide_true, decide_false, ne_eq, not_true_eq_false, not_false_eq_true]) | (refine hK ?_; clear hK hS hC hC1 K S C hf)))
    all_goals first | contradiction | skip
    (repeat (first | (refine K_ifT rfl rfl ?_) | (refine K_ifF rfl rfl ?_) | (refine K_ev nmd [] hng (by kernel_rfl) fun hf C S K hC1 hC hS hK => ?_; simp (disch := first | omega | assumption) only [go_sem]; (repeat ((first | refine hC1 _ (hu _) (by simp (disch := first | omega | assumption) only [go_sem]) ?_); simp (disch := first | omega | assumption) only [go_sem])); refine hK ?_; clear hK hS hC hC1 K S C hf) | ((first | refine zk ?_ | refine zn ?_ | refine ze ?_); with_reducible (constructor; repeat constructor); try refine zl ?_)))
    exact K_ret (done_plain (by simp (disch := first | omega | assumption) only [go_sem, Res.av, toldR, badR, usageR]))
end Go.Proofs.YtiaiggbimlbkfaaGreatDoor
