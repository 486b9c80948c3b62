/- Filter: FilterParts, walked. -/
import Derived.Test.YtiaiggbimlbkfaaGreatDoorQ49
import Derived.Test.YtiaiggbimlbkfaaGreatDoorQ37
import Derived.Test.YtiaiggbimlbkfaaGreatDoorQ13
set_option linter.unusedVariables false
set_option linter.unusedSimpArgs false
namespace Go.Proofs.YtiaiggbimlbkfaaGreatDoor
open Go Go.Ab
set_option maxRecDepth 20000
set_option maxHeartbeats 8000000
theorem digits_len17 : ∀ (k n : Nat), n < 10 ^ (k + 1) → (Lib.decDigits n).length ≤ k + 1
  | 0, n, h => by rw [digits_small (by simpa using h)]; simp
  | k + 1, n, h => by
    by_cases hs : n < 10
    · rw [digits_small hs]; simp
    · rw [digits_big hs, List.length_append]
      have := digits_len17 k (n / 10) (by rw [Nat.pow_succ] at h; omega)
      simp only [List.length_cons, List.length_nil]; omega
theorem refN_digits17 {n : Nat} (h : n < 1000000000) : refN (Lib.decDigits n) = n := by
  have hl := digits_len17 8 n h
  rw [refN, if_neg, dec_digits]
  rintro (h | h | ⟨h, h'⟩)
  · exact digits_ne n h
  · omega
  · have := digits_head n h
    subst this
    rw [digits_small (by decide)] at h'
    simp at h'
theorem manyN_digits {m : Nat} (h : m < 1000000000) : manyN [[45, 110], Lib.decDigits m] = m := by
  simp only [manyN, if_true, refN_digits17 h]
theorem args_digits {m : Nat} (h : m < 1000000000) : ∀ s ∈ ([[45, 110], Lib.decDigits m] : List Str), s.length ≤ 4000000 := by
  have := digits_len17 8 m h
  simp; omega
theorem run_hd (t : Str) (ht : t.length ≤ 4000000) (m : Nat) (hm : m < 1000000000) (p : Oid) (hp : p.mono = false) :
    CallOK Tryz.prog 19 [.list 1 [.str ([104, 101, 97, 100] : Str), .str [45, 110], .str (Lib.decDigits m)], .str t] (Oid.under p) ⟨[], .tuple [.agg [.int .i64 0, .str (joinN ((linesL t).take m)), .str []], .bool true], []⟩ := by
  have h := run_any ([104, 101, 97, 100] : Str) (by decide) [[45, 110], Lib.decDigits m] t 30 (by kernel_rfl) (by kernel_rfl) (toldR (joinN (headL (manyN [[45, 110], Lib.decDigits m]) (linesL t)))) true p
    (fun p hp => head_ok _ (args_digits hm) t ht (by rw [manyN_digits hm]; omega) p hp) hp
  rw [manyN_digits hm] at h
  exact h
theorem run_tl (t : Str) (ht : t.length ≤ 4000000) (m : Nat) (hm : m < 1000000000) (p : Oid) (hp : p.mono = false) :
    CallOK Tryz.prog 19 [.list 1 [.str ([116, 97, 105, 108] : Str), .str [45, 110], .str (Lib.decDigits m)], .str t] (Oid.under p) ⟨[], .tuple [.agg [.int .i64 0, .str (joinN ((linesL t).drop ((linesL t).length - m))), .str []], .bool true], []⟩ := by
  have h := run_any ([116, 97, 105, 108] : Str) (by decide) [[45, 110], Lib.decDigits m] t 31 (by kernel_rfl) (by kernel_rfl) (toldR (joinN (tailL (manyN [[45, 110], Lib.decDigits m]) (linesL t)))) true p
    (fun p hp => tail_ok _ (args_digits hm) t ht (by rw [manyN_digits hm]; omega) p hp) hp
  rw [manyN_digits hm] at h
  exact h
theorem grepR_av (no : Bool) (u t : Str) : (grepR no u t).av = .agg [.int .i64 (if grepRow no u t = [] then 1 else 0), .str (joinN (grepRow no u t)), .str []] := by
  unfold grepR
  by_cases h : grepRow no u t = []
  · rw [if_pos h, if_pos h, h]; rfl
  · rw [if_neg h, if_neg h]; rfl
theorem run_gr (t u : Str) (ht : t.length ≤ 4000000) (p : Oid) (hp : p.mono = false) :
    CallOK Tryz.prog 19 [.list 1 [.str ([103, 114, 101, 112] : Str), .str u], .str t] (Oid.under p) ⟨[], .tuple [.agg [.int .i64 (if grepRow false u t = [] then 1 else 0), .str (joinN (grepRow false u t)), .str []], .bool true], []⟩ := by
  have h := run_any ([103, 114, 101, 112] : Str) (by decide) [u] t 37 (by kernel_rfl) (by kernel_rfl) (grepR false u t) true p (fun p _ => grep_ok [u] false u (.inl ⟨rfl, rfl⟩) t ht p) hp
  rw [if_pos rfl, grepR_av] at h
  exact h
theorem run_gv (t u : Str) (ht : t.length ≤ 4000000) (p : Oid) (hp : p.mono = false) :
    CallOK Tryz.prog 19 [.list 1 [.str ([103, 114, 101, 112] : Str), .str [45, 118], .str u], .str t] (Oid.under p) ⟨[], .tuple [.agg [.int .i64 (if grepRow true u t = [] then 1 else 0), .str (joinN (grepRow true u t)), .str []], .bool true], []⟩ := by
  have h := run_any ([103, 114, 101, 112] : Str) (by decide) [[45, 118], u] t 37 (by kernel_rfl) (by kernel_rfl) (grepR true u t) true p (fun p _ => grep_ok [[45, 118], u] true u (.inr ⟨rfl, rfl⟩) t ht p) hp
  rw [if_pos rfl, grepR_av] at h
  exact h
theorem filter_drop {q : Str → Bool} {l : List Str} {i : Nat} (h : i < l.length) : (l.drop i).filter q = if q (l.getD i default) = true then l.getD i default :: (l.drop (i + 1)).filter q else (l.drop (i + 1)).filter q := by
  rw [drop_cons h, List.filter_cons]
theorem joinN_none {l : List Str} : joinN l = [] ↔ l = [] := by
  cases l with
  | nil => simp [joinN]
  | cons s l => simp [joinN]
theorem filterParts_ok (t u : Str) (n : UInt8) (h1 : t.length ≤ 140737488355328) (h2 : u.length ≤ 140737488355328) (p : Oid) (hp : p.mono = false) :
    CallOK Tryz.prog 6 [.str t, .str u, .int .u8 n.toNat] (Oid.under p) ⟨[], .bool true, []⟩ := by
  by_cases h300 : t.length ≤ 300
  · have hz : (300 < (t.length : Int)) = False := eq_false (by omega)
    by_cases h100 : u.length ≤ 100
    · have hz1 : (100 < (u.length : Int)) = False := eq_false (by omega)
      have hjl := joinN_lines t
      have hjn := joinN_len (linesL t)
      have hno := lines_no t
      have htm : (n.toNat : Int).tmod 12 = ((n.toNat % 12 : Nat) : Int) := tmod_nat n.toNat 12
      obtain ⟨k, hk, hkl⟩ : ∃ k : Nat, (if ((linesL t).length : Int) < ((n.toNat % 12 : Nat) : Int) then ((linesL t).length : Int) else ((n.toNat % 12 : Nat) : Int)) = k ∧ k ≤ (linesL t).length := by
        by_cases h : (linesL t).length < n.toNat % 12
        · exact ⟨(linesL t).length, by rw [if_pos (by omega)], Nat.le_refl _⟩
        · exact ⟨n.toNat % 12, by rw [if_neg (by omega)], by omega⟩
      obtain ⟨k2, hk2⟩ : ∃ k2 : Nat, k2 = (linesL t).length - k := ⟨_, rfl⟩
      have hsub : ((linesL t).length : Int) - (k : Int) = k2 := by omega
      have hd1 : ∀ p, CallOK Tryz.prog 22 [.int .i64 (k : Int)] (Oid.under p) ⟨[], .str (Lib.decDigits k), []⟩ := fun p => digits_ok k (by omega) p
      have hd2 : ∀ p, CallOK Tryz.prog 22 [.int .i64 (k2 : Int)] (Oid.under p) ⟨[], .str (Lib.decDigits k2), []⟩ := fun p => digits_ok k2 (by omega) p
      have ra := fun p hp => run_hd t (by omega) k (by omega) p hp
      have rb := fun p hp => run_tl t (by omega) k2 (by omega) p hp
      rw [show (linesL t).length - k2 = k by omega] at rb
      have rc := fun p hp => run_gr t u (by omega) p hp
      have rd := fun p hp => run_gv t u (by omega) p hp
      have ll := fun p => linesR_ok t (by omega) p
      have hq0 : grepRow false u t = (linesL t).filter fun s => Lib.contains s u := by unfold grepRow grepQ; congr 1; funext s; cases Lib.contains s u <;> rfl
      have hq1 : grepRow true u t = (linesL t).filter fun s => !Lib.contains s u := by unfold grepRow grepQ; congr 1; funext s; cases Lib.contains s u <;> rfl
      rw [hq0] at rc
      rw [hq1] at rd
      have hj0 : (joinN ((linesL t).filter fun s => Lib.contains s u)).length ≤ (joinN (linesL t)).length := joinN_sub List.filter_sublist
      have hj1 : (joinN ((linesL t).filter fun s => !Lib.contains s u)).length ≤ (joinN (linesL t)).length := joinN_sub List.filter_sublist
      have lc := fun p => linesR_ok (joinN ((linesL t).filter fun s => Lib.contains s u)) (by omega) p
      have ld := fun p => linesR_ok (joinN ((linesL t).filter fun s => !Lib.contains s u)) (by omega) p
      rw [lines_join _ fun s hs => hno s (List.mem_filter.1 hs).1] at lc
      rw [lines_join _ fun s hs => hno s (List.mem_filter.1 hs).1] at ld
      have jl := fun p => joinedR_ok (linesL t) (by omega) p
      have hab : joinN ((linesL t).take k) ++ joinN ((linesL t).drop k) = joinN (linesL t) := by rw [← joinN_append, List.take_append_drop]
      have hta := joinN_take_le2 (linesL t) k
      have hdr := joinN_drop_le2 (linesL t) k
      have hLs : ∀ i, ((linesL t).getD i default).length ≤ 4000000000 := fun i => by have := joinN_mem0 (linesL t) i; omega
      generalize linesL t = L at *
      refine fnOK (n := 175) (rs := [.tmp 6]) Tryz.func6 rfl rfl (by decide) rfl rfl rfl ?_; rintro x rfl hrd hng
      (repeat (first | (refine K_ifT rfl rfl ?_) | (refine K_ifF rfl rfl ?_) | (refine K_ev nmd [] hng (by kernel_rfl) fun hf C S K hC1 hC hS hK => ?_; simp (disch := first | omega | assumption) only [go_sem]; (repeat ((first | refine hC1 _ (awake_ok _ (mono_sub' rfl hp)) (by simp (disch := first | omega | assumption) only [go_sem]) ?_); simp (disch := first | omega | assumption) only [go_sem])); refine hK ?_; clear hK hS hC hC1 K S C hf) | ((first | refine zk ?_ | refine zn ?_ | refine ze ?_); with_reducible (constructor; repeat constructor); try refine zl ?_)))
      refine K_ev nmd [(3, 27)] hng (by kernel_rfl) fun hf C S K hC1 hC hS hK => ?_; simp (disch := first | omega | assumption) only [go_sem, hz, hz1, decide_true, decide_false, ne_eq, not_true_eq_false, not_false_eq_true]
      (repeat' (first | (refine evG_split (fun hv => ?_) (fun hv => ?_) <;> (try simp only [zb1, zb2, zb3, zb4, zb5] at hv) <;> simp (disch := first | omega | assumption) only [go_sem, hv, hz, hz1, decide_true, decide_false, ne_eq, not_true_eq_false, not_false_eq_true]) | (refine hK ?_; clear hK hS hC hC1 K S C hf)))
      all_goals first | contradiction | skip
      (repeat (first | (refine K_ifT rfl rfl ?_) | (refine K_ifF rfl rfl ?_) | (refine K_ev nmd [] hng (by kernel_rfl) fun hf C S K hC1 hC hS hK => ?_; simp (disch := first | omega | assumption) only [go_sem, htm, hk, hsub, List.length_map]; (repeat ((first | refine hC1 _ (ll _) (by simp (disch := first | omega | assumption) only [go_sem]) ?_ | refine hC1 _ (hd1 _) (by simp (disch := first | omega | assumption) only [go_sem]) ?_ | refine hC1 _ (hd2 _) (by simp (disch := first | omega | assumption) only [go_sem]) ?_ | refine hC1 _ (ra _ (mono_sub' rfl hp)) (by simp (disch := first | omega | assumption) only [go_sem]) ?_ | refine hC1 _ (rb _ (mono_sub' rfl hp)) (by simp (disch := first | omega | assumption) only [go_sem]) ?_ | refine hC1 _ (rc _ (mono_sub' rfl hp)) (by simp (disch := first | omega | assumption) only [go_sem]) ?_ | refine hC1 _ (rd _ (mono_sub' rfl hp)) (by simp (disch := first | omega | assumption) only [go_sem]) ?_); simp (disch := first | omega | assumption) only [go_sem])); refine hK ?_; clear hK hS hC hC1 K S C hf) | ((first | refine zk ?_ | refine zn ?_ | refine ze ?_); with_reducible (constructor; repeat constructor); try refine zl ?_)))
      refine K_evd nmd [] [(1, 6), (3, 6)] mixed hng (by kernel_rfl) [1, 7, 8, 14, 16, 81] fun hf C S K hC hS hK => ?_; simp (disch := first | omega | assumption) only [go_sem, hab, decide_true, decide_false, ne_eq, not_true_eq_false, not_false_eq_true]
      (repeat' (first | (refine evG_split (fun hv => ?_) (fun hv => ?_) <;> (try simp only [zb1, zb2, zb3, zb4, zb5] at hv) <;> simp (disch := first | omega | assumption) only [go_sem, hv, hab, decide_true, decide_false, ne_eq, not_true_eq_false, not_false_eq_true]) | (refine hC _ (jl _) (by simp (disch := first | omega | assumption) only [go_sem, hab, decide_true, decide_false, ne_eq, not_true_eq_false, not_false_eq_true]) ?_; simp (disch := first | omega | assumption) only [go_sem, hab, decide_true, decide_false, ne_eq, not_true_eq_false, not_false_eq_true]) | ((first | refine hK (dynN_quiet rfl) ?_ | refine hK (by simp (disch := first | omega | assumption) only [go_sem, List.reverse_cons, List.reverse_nil, ne_eq, not_false_eq_true, implies_true]) ?_); clear hK hS hC K S C hf)))
      (try ((first | refine zk ?_ | refine zn ?_ | refine ze ?_); with_reducible (constructor; repeat constructor)); try refine zl ?_)
      refine K_ifF rfl rfl ?_
      (try ((first | refine zk ?_ | refine zn ?_ | refine ze ?_); with_reducible (constructor; repeat constructor)); try refine zl ?_)
      refine K_evd nmd [] [(2, 4)] mixed hng (by kernel_rfl) [1, 7, 8, 14, 18, 19] fun hf C S K hC hS hK => ?_; simp (disch := first | omega | assumption) only [go_sem]
      (repeat' (first | (refine evG_split (fun hv => ?_) (fun hv => ?_) <;> (try simp only [zb1, zb2, zb3, zb4, zb5] at hv) <;> simp (disch := first | omega | assumption) only [go_sem, hv]) | (refine hC _ (lc _) (by simp (disch := first | omega | assumption) only [go_sem]) ?_; simp (disch := first | omega | assumption) only [go_sem]) | (refine hC _ (ld _) (by simp (disch := first | omega | assumption) only [go_sem]) ?_; simp (disch := first | omega | assumption) only [go_sem]) | ((first | refine hK (dynN_quiet rfl) ?_ | refine hK (by simp (disch := first | omega | assumption) only [go_sem, List.reverse_cons, List.reverse_nil, ne_eq, not_false_eq_true, implies_true]) ?_); clear hK hS hC K S C hf)))
      (repeat (first | (refine K_ifT rfl rfl ?_) | (refine K_ifF rfl rfl ?_) | (refine K_ev nmd [] hng (by kernel_rfl) fun hf C S K hC1 hC hS hK => ?_; simp (disch := first | omega | assumption) only [go_sem]; refine hK ?_; clear hK hS hC hC1 K S C hf) | ((first | refine zk ?_ | refine zn ?_ | refine ze ?_); with_reducible (constructor; repeat constructor); try refine zl ?_)))
      have hst : ∀ i, i < L.length → (Lib.contains (L.getD i default) u = true → (L.drop i).filter (fun s => Lib.contains s u) = L.getD i default :: (L.drop (i + 1)).filter (fun s => Lib.contains s u) ∧ (L.drop i).filter (fun s => !Lib.contains s u) = (L.drop (i + 1)).filter (fun s => !Lib.contains s u)) ∧
          (Lib.contains (L.getD i default) u = false → (L.drop i).filter (fun s => Lib.contains s u) = (L.drop (i + 1)).filter (fun s => Lib.contains s u) ∧ (L.drop i).filter (fun s => !Lib.contains s u) = L.getD i default :: (L.drop (i + 1)).filter (fun s => !Lib.contains s u)) := fun i hi => by
        rw [filter_drop hi, filter_drop hi]
        exact ⟨fun h => by rw [h]; exact ⟨rfl, rfl⟩, fun h => by rw [h]; exact ⟨rfl, rfl⟩⟩
      have hf0 : (L.drop 0).filter (fun s => Lib.contains s u) = L.filter (fun s => Lib.contains s u) := by rw [List.drop_zero]
      have hf1 : (L.drop 0).filter (fun s => !Lib.contains s u) = L.filter (fun s => !Lib.contains s u) := by rw [List.drop_zero]
      have he0 : (L.drop L.length).filter (fun s => Lib.contains s u) = [] := by rw [List.drop_length]; rfl
      have he1 : (L.drop L.length).filter (fun s => !Lib.contains s u) = [] := by rw [List.drop_length]; rfl
      have hjn0 := joinN_none (l := L.filter fun s => Lib.contains s u)
      rw [← hf0, ← hf1]
      rw [← hf0] at hjn0
      have hb0 : ∀ i, ((L.drop i).filter (fun s => Lib.contains s u)).length ≤ 4000000 := fun i => Nat.le_trans (List.length_filter_le _ _) (by rw [List.length_drop]; omega)
      have hb1 : ∀ i, ((L.drop i).filter (fun s => !Lib.contains s u)).length ≤ 4000000 := fun i => Nat.le_trans (List.length_filter_le _ _) (by rw [List.length_drop]; omega)
      obtain ⟨PP, hPP⟩ : ∃ PP : Nat → List Str, ∀ i, (L.drop i).filter (fun s => Lib.contains s u) = PP i := ⟨_, fun _ => rfl⟩
      obtain ⟨NN, hNN⟩ : ∃ NN : Nat → List Str, ∀ i, (L.drop i).filter (fun s => !Lib.contains s u) = NN i := ⟨_, fun _ => rfl⟩
      rw [hPP 0, hNN 0]
      simp only [hPP, hNN] at hst he0 he1 hb0 hb1 hjn0
      have hst2 : ((if PP 0 = [] then (1 : Int) else 0) = 1) ↔ PP 0 = [] := by by_cases h : PP 0 = [] <;> simp [h]
      generalize (if PP 0 = [] then (1 : Int) else 0) = st at hst2
      generalize joinN (PP 0) = jp at hjn0
      have hsj : decide (st = 1) = decide (jp = []) := decide_eq_decide.2 (hst2.trans hjn0.symm)
      have hbz : (!(st == 0 && jp == [])) = true := by
        by_cases hj : jp = []
        · rw [hst2.2 (hjn0.1 hj)]; rfl
        · rw [beq_eq_false_iff_ne.2 hj, Bool.and_false]; rfl
      refine K_mem [(.sub 8 7 x.p, .cells [.int .i64 st, .str jp, .str []])] (fun q hq => by rw [List.mem_singleton.1 hq]; simp (disch := first | omega | assumption) only [go_sem]) ?_
      refine K_loop [1, 7, 8, 14, 18, 19, 20] (fun k s' => ∃ i c : Nat, k = L.length - i ∧ i ≤ L.length ∧ 8 < c ∧ s' = ⟨[(1, .str u), (7, .bool true), (8, .list 1 (L.map AV.str)), (14, .ptr (.sub 8 7 x.p) 0), (18, .list 1 ((PP i).map AV.str)), (19, .list 1 ((NN i).map AV.str)), (20, .int .i64 i)], Mem.of [(.sub 8 7 x.p, .cells [.int .i64 st, .str jp, .str []])], c, []⟩) _ ⟨0, _, rfl, Nat.zero_le _, by omega, rfl⟩ ?_
      rintro k s' ⟨i, c, rfl, hi, hc8, rfl⟩
      (repeat (first | (refine K_ifT rfl rfl ?_) | (refine K_ifF rfl rfl ?_) | (refine K_ev nmd [] hng (by kernel_rfl) fun hf C S K hC1 hC hS hK => ?_; simp (disch := first | omega | assumption) only [go_sem, List.length_map]; (repeat ((first | refine hC1 _ () (by simp (disch := first | omega | assumption) only [go_sem]) ?_); simp (disch := first | omega | assumption) only [go_sem])); refine hK ?_; clear hK hS hC hC1 K S C hf) | ((first | refine zk ?_ | refine zn ?_ | refine ze ?_); with_reducible (constructor; repeat constructor); try refine zl ?_)))
      refine K_ifd rfl rfl (fun hb => ?_) (fun hb => ?_)
      · have hlt : i < L.length := by omega
        obtain ⟨g1, g2⟩ := hst i hlt
        have g3 := hb0 (i + 1)
        have g4 := hb1 (i + 1)
        have g5 := hLs i
        generalize hy : L.getD i default = y at g1 g2 g5
        have gh := fun p => has_ok y u (by omega) (by omega) p
        cases hcy : Lib.contains y u with
        | true =>
          obtain ⟨g6, g7⟩ := g1 hcy
          rw [g6, g7]
          rw [hcy] at gh
          generalize hP1 : PP (i + 1) = P1 at g3
          generalize hN1 : NN (i + 1) = N1 at g4
          have gl : (0 < ((P1.length + 1 : Nat) : Int)) = True := eq_true (by omega)
          (try ((first | refine zk ?_ | refine zn ?_ | refine ze ?_); with_reducible (constructor; repeat constructor)); try refine zl ?_)
          refine K_evd nmd [(6, 106), (11, 111)] [] mixed hng (by kernel_rfl) [1, 7, 8, 14, 18, 19, 20, 99] fun hf C S K hC hS hK => ?_; simp (disch := first | omega | assumption) only [go_sem, hy, gl, List.length_map, decide_true, decide_false, ne_eq, not_true_eq_false, not_false_eq_true]
          (repeat' (first | (refine evG_split (fun hv => ?_) (fun hv => ?_) <;> (try simp only [zb1, zb2, zb3, zb4, zb5] at hv) <;> simp (disch := first | omega | assumption) only [go_sem, hv, hy, gl, List.length_map, decide_true, decide_false, ne_eq, not_true_eq_false, not_false_eq_true]) | (refine hC _ (gh _) (by simp (disch := first | omega | assumption) only [go_sem, hy, gl, List.length_map, decide_true, decide_false, ne_eq, not_true_eq_false, not_false_eq_true]) ?_; simp (disch := first | omega | assumption) only [go_sem, hy, gl, List.length_map, decide_true, decide_false, ne_eq, not_true_eq_false, not_false_eq_true]) | ((first | refine hK (dynN_quiet rfl) ?_ | refine hK (by simp (disch := first | omega | assumption) only [go_sem, List.reverse_cons, List.reverse_nil, ne_eq, not_false_eq_true, implies_true]) ?_); clear hK hS hC K S C hf)))
          (repeat (first | (refine K_ifT rfl rfl ?_) | (refine K_ifF rfl rfl ?_) | (refine K_ev nmd [] hng (by kernel_rfl) fun hf C S K hC1 hC hS hK => ?_; simp (disch := first | omega | assumption) only [go_sem, List.length_map]; (repeat ((first | refine hC1 _ () (by simp (disch := first | omega | assumption) only [go_sem]) ?_); simp (disch := first | omega | assumption) only [go_sem])); refine hK ?_; clear hK hS hC hC1 K S C hf) | ((first | refine zk ?_ | refine zn ?_ | refine ze ?_); with_reducible (constructor; repeat constructor); try refine zl ?_)))
          exact ⟨_, _, by omega, fun _ _ h => h, i + 1, c + 1 + 1 + 1 + 1, rfl, by omega, by omega, by rw [hP1, hN1]; rfl⟩
        | false =>
          obtain ⟨g6, g7⟩ := g2 hcy
          rw [g6, g7]
          rw [hcy] at gh
          generalize hP1 : PP (i + 1) = P1 at g3
          generalize hN1 : NN (i + 1) = N1 at g4
          have gl : (0 < ((N1.length + 1 : Nat) : Int)) = True := eq_true (by omega)
          (try ((first | refine zk ?_ | refine zn ?_ | refine ze ?_); with_reducible (constructor; repeat constructor)); try refine zl ?_)
          refine K_evd nmd [(6, 106), (11, 111)] [] mixed hng (by kernel_rfl) [1, 7, 8, 14, 18, 19, 20, 99] fun hf C S K hC hS hK => ?_; simp (disch := first | omega | assumption) only [go_sem, hy, List.length_map, decide_true, decide_false, ne_eq, not_true_eq_false, not_false_eq_true]
          (repeat' (first | (refine evG_split (fun hv => ?_) (fun hv => ?_) <;> (try simp only [zb1, zb2, zb3, zb4, zb5] at hv) <;> simp (disch := first | omega | assumption) only [go_sem, hv, hy, List.length_map, decide_true, decide_false, ne_eq, not_true_eq_false, not_false_eq_true]) | (refine hC _ (gh _) (by simp (disch := first | omega | assumption) only [go_sem, hy, List.length_map, decide_true, decide_false, ne_eq, not_true_eq_false, not_false_eq_true]) ?_; simp (disch := first | omega | assumption) only [go_sem, hy, List.length_map, decide_true, decide_false, ne_eq, not_true_eq_false, not_false_eq_true]) | ((first | refine hK (dynN_quiet rfl) ?_ | refine hK (by simp (disch := first | omega | assumption) only [go_sem, List.reverse_cons, List.reverse_nil, ne_eq, not_false_eq_true, implies_true]) ?_); clear hK hS hC K S C hf)))
          (try ((first | refine zk ?_ | refine zn ?_ | refine ze ?_); with_reducible (constructor; repeat constructor)); try refine zl ?_)
          refine K_ifF rfl rfl ?_
          (try ((first | refine zk ?_ | refine zn ?_ | refine ze ?_); with_reducible (constructor; repeat constructor)); try refine zl ?_)
          refine K_evd nmd [(7, 131), (12, 136)] [] mixed hng (by kernel_rfl) [1, 7, 8, 14, 18, 19, 20, 123] fun hf C S K hC hS hK => ?_; simp (disch := first | omega | assumption) only [go_sem, hy, gl, List.length_map, decide_true, decide_false, ne_eq, not_true_eq_false, not_false_eq_true, Bool.not_false]
          (repeat' (first | (refine evG_split (fun hv => ?_) (fun hv => ?_) <;> (try simp only [zb1, zb2, zb3, zb4, zb5] at hv) <;> simp (disch := first | omega | assumption) only [go_sem, hv, hy, gl, List.length_map, decide_true, decide_false, ne_eq, not_true_eq_false, not_false_eq_true, Bool.not_false]) | (refine hC _ (gh _) (by simp (disch := first | omega | assumption) only [go_sem, hy, gl, List.length_map, decide_true, decide_false, ne_eq, not_true_eq_false, not_false_eq_true, Bool.not_false]) ?_; simp (disch := first | omega | assumption) only [go_sem, hy, gl, List.length_map, decide_true, decide_false, ne_eq, not_true_eq_false, not_false_eq_true, Bool.not_false]) | ((first | refine hK (dynN_quiet rfl) ?_ | refine hK (by simp (disch := first | omega | assumption) only [go_sem, List.reverse_cons, List.reverse_nil, ne_eq, not_false_eq_true, implies_true]) ?_); clear hK hS hC K S C hf)))
          (repeat (first | (refine K_ifT rfl rfl ?_) | (refine K_ifF rfl rfl ?_) | (refine K_ev nmd [] hng (by kernel_rfl) fun hf C S K hC1 hC hS hK => ?_; simp (disch := first | omega | assumption) only [go_sem, List.length_map]; (repeat ((first | refine hC1 _ () (by simp (disch := first | omega | assumption) only [go_sem]) ?_); simp (disch := first | omega | assumption) only [go_sem])); refine hK ?_; clear hK hS hC hC1 K S C hf) | ((first | refine zk ?_ | refine zn ?_ | refine ze ?_); with_reducible (constructor; repeat constructor); try refine zl ?_)))
          exact ⟨_, _, by omega, fun _ _ h => h, i + 1, c + 1 + 1 + 1 + 1 + 1, rfl, by omega, by omega, by rw [hP1, hN1]; rfl⟩
      · obtain rfl : i = L.length := by omega
        rw [he0, he1]
        (try ((first | refine zk ?_ | refine zn ?_ | refine ze ?_); with_reducible (constructor; repeat constructor)); try refine zl ?_)
        refine K_ev nmd [(1, 149), (4, 152), (11, 159), (20, 168)] hng (by kernel_rfl) fun hf C S K hC1 hC hS hK => ?_; simp (disch := first | omega | assumption) only [go_sem, List.length_nil, List.map_nil, hsj, decide_true, decide_false, ne_eq, not_true_eq_false, not_false_eq_true]
        (repeat' (first | (refine evG_split (fun hv => ?_) (fun hv => ?_) <;> (try simp only [zb1, zb2, zb3, zb4, zb5] at hv) <;> simp (disch := first | omega | assumption) only [go_sem, hv, List.length_nil, List.map_nil, hsj, decide_true, decide_false, ne_eq, not_true_eq_false, not_false_eq_true]) | (refine hK ?_; clear hK hS hC hC1 K S C hf)))
        all_goals first | contradiction | exact absurd rfl hv | skip
        all_goals (repeat (first | (refine K_ifT rfl rfl ?_) | (refine K_ifF rfl rfl ?_) | (refine K_ev nmd [] hng (by kernel_rfl) fun hf C S K hC1 hC hS hK => ?_; simp (disch := first | omega | assumption) only [go_sem]; refine hK ?_; clear hK hS hC hC1 K S C hf) | ((first | refine zk ?_ | refine zn ?_ | refine ze ?_); with_reducible (constructor; repeat constructor); try refine zl ?_)))
        all_goals first | exact K_ret (done1 rfl) | exact K_ret (done1 (congrArg AV.bool hbz))
    · have hz1 : (100 < (u.length : Int)) = True := eq_true (by omega)
      refine fnOK (n := 175) (rs := [.tmp 6]) Tryz.func6 rfl rfl (by decide) rfl rfl rfl ?_; rintro x rfl hrd hng
      (repeat (first | (refine K_ifT rfl rfl ?_) | (refine K_ifF rfl rfl ?_) | (refine K_ev nmd [] hng (by kernel_rfl) fun hf C S K hC1 hC hS hK => ?_; simp (disch := first | omega | assumption) only [go_sem]; (repeat ((first | refine hC1 _ (awake_ok _ (mono_sub' rfl hp)) (by simp (disch := first | omega | assumption) only [go_sem]) ?_); simp (disch := first | omega | assumption) only [go_sem])); refine hK ?_; clear hK hS hC hC1 K S C hf) | ((first | refine zk ?_ | refine zn ?_ | refine ze ?_); with_reducible (constructor; repeat constructor); try refine zl ?_)))
      refine K_ev nmd [(3, 27)] hng (by kernel_rfl) fun hf C S K hC1 hC hS hK => ?_; simp (disch := first | omega | assumption) only [go_sem, hz, hz1, decide_true, decide_false, ne_eq, not_true_eq_false, not_false_eq_true]
      (repeat' (first | (refine evG_split (fun hv => ?_) (fun hv => ?_) <;> (try simp only [zb1, zb2, zb3, zb4, zb5] at hv) <;> simp (disch := first | omega | assumption) only [go_sem, hv, hz, hz1, decide_true, decide_false, ne_eq, not_true_eq_false, not_false_eq_true]) | (refine hK ?_; clear hK hS hC hC1 K S C hf)))
      all_goals first | contradiction | skip
      (repeat (first | (refine K_ifT rfl rfl ?_) | (refine K_ifF rfl rfl ?_) | (refine K_ev nmd [] hng (by kernel_rfl) fun hf C S K hC1 hC hS hK => ?_; simp (disch := first | omega | assumption) only [go_sem]; refine hK ?_; clear hK hS hC hC1 K S C hf) | ((first | refine zk ?_ | refine zn ?_ | refine ze ?_); with_reducible (constructor; repeat constructor); try refine zl ?_)))
      exact K_ret (done1 rfl)
  · have hz : (300 < (t.length : Int)) = True := eq_true (by omega)
    refine fnOK (n := 175) (rs := [.tmp 6]) Tryz.func6 rfl rfl (by decide) rfl rfl rfl ?_; rintro x rfl hrd hng
    (repeat (first | (refine K_ifT rfl rfl ?_) | (refine K_ifF rfl rfl ?_) | (refine K_ev nmd [] hng (by kernel_rfl) fun hf C S K hC1 hC hS hK => ?_; simp (disch := first | omega | assumption) only [go_sem]; (repeat ((first | refine hC1 _ (awake_ok _ (mono_sub' rfl hp)) (by simp (disch := first | omega | assumption) only [go_sem]) ?_); simp (disch := first | omega | assumption) only [go_sem])); refine hK ?_; clear hK hS hC hC1 K S C hf) | ((first | refine zk ?_ | refine zn ?_ | refine ze ?_); with_reducible (constructor; repeat constructor); try refine zl ?_)))
    refine K_ev nmd [(3, 27)] hng (by kernel_rfl) fun hf C S K hC1 hC hS hK => ?_; simp (disch := first | omega | assumption) only [go_sem, hz, decide_true, decide_false, ne_eq, not_true_eq_false, not_false_eq_true]
    (repeat' (first | (refine evG_split (fun hv => ?_) (fun hv => ?_) <;> (try simp only [zb1, zb2, zb3, zb4, zb5] at hv) <;> simp (disch := first | omega | assumption) only [go_sem, hv, hz, decide_true, decide_false, ne_eq, not_true_eq_false, not_false_eq_true]) | (refine hK ?_; clear hK hS hC hC1 K S C hf)))
    all_goals first | contradiction | skip
    (repeat (first | (refine K_ifT rfl rfl ?_) | (refine K_ifF rfl rfl ?_) | (refine K_ev nmd [] hng (by kernel_rfl) fun hf C S K hC1 hC hS hK => ?_; simp (disch := first | omega | assumption) only [go_sem]; refine hK ?_; clear hK hS hC hC1 K S C hf) | ((first | refine zk ?_ | refine zn ?_ | refine ze ?_); with_reducible (constructor; repeat constructor); try refine zl ?_)))
    exact K_ret (done1 rfl)
end Go.Proofs.YtiaiggbimlbkfaaGreatDoor
