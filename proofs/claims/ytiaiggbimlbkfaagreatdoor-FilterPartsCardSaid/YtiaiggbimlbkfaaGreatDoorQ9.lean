/- Filter: tr of the program, walked. -/
import Derived.Test.YtiaiggbimlbkfaaGreatDoorQ8
set_option linter.unusedVariables false
set_option linter.unusedSimpArgs false
namespace Go.Proofs.YtiaiggbimlbkfaaGreatDoor
open Go Go.Ab
set_option maxRecDepth 20000
set_option maxHeartbeats 4000000
/-- A table of 256 numbers. -/
def tabA (T : Nat → Int) : List AV := (List.range 256).map fun k => .int .i64 (T k)
theorem tab_zero : zer Tryz.prog 75 = some (tabA fun _ => 0) := by kernel_rfl
theorem tabA_len (T : Nat → Int) : (tabA T).length = 256 := by simp [tabA]
/-- The table that turns bytes of one set into those of another, behind k of them. -/
def tabM (f g : Str) (k : Nat) (j : Nat) : Int := if lastK f (UInt8.ofNat j) k < 0 then 0 else 1 + ((g.getD (min (lastK f (UInt8.ofNat j) k).toNat (g.length - 1)) 0).toNat : Int)
theorem tab_set (T : Nat → Int) (k : Nat) (hk : k < 256) (v : Int) : (tabA T).take (0 + k * 1) ++ [.int .i64 v] ++ (tabA T).drop (0 + k * 1 + 1) = tabA fun j => if j = k then v else T j := by
  show spl (tabA T) (0 + k * 1) [.int .i64 v] = _
  apply List.ext_getElem
  · rw [spl_length (by rw [tabA_len]; simp; omega), tabA_len, tabA_len]
  · intro j h1 h2
    have hj : j < 256 := by rw [tabA_len] at h2; exact h2
    have h3 := spl_getD (vs := tabA T) (k := 0 + k * 1) (cs := [.int .i64 v]) (by rw [tabA_len]; simp; omega) j .undef
    rw [List.getD_eq_getElem?_getD, List.getElem?_eq_getElem h1, Option.getD_some] at h3
    rw [h3]
    simp only [List.length_cons, List.length_nil]
    by_cases hjk : j = k
    · subst hjk
      rw [if_pos (by omega)]
      simp [tabA]
    · rw [if_neg (by omega)]
      simp [tabA, hjk, List.getElem?_range hj]
theorem tab_get (T : Nat → Int) (k : Nat) (hk : k < 256) : ((tabA T).drop (0 + k * 1)).getD 0 .undef = .int .i64 (T k) := by
  simp [tabA, List.getD_eq_getElem?_getD, List.getElem?_range hk]
/-- What becomes of a byte. -/
def trB (f g : Str) (b : UInt8) : Str := if lastK f b f.length < 0 then [b] else if g = [] then [] else [g.getD (min (lastK f b f.length).toNat (g.length - 1)) 0]
def TabOK (T : Nat → Int) (f g : Str) : Prop := ∀ b : UInt8, (trB f g b = [b] ∧ T b.toNat = 0) ∨ (trB f g b = [] ∧ T b.toNat = -1) ∨ ∃ y : UInt8, trB f g b = [y] ∧ T b.toNat = 1 + (y.toNat : Int)
theorem tabM_ok (f g : Str) (hg : ¬ g = []) : TabOK (tabM f g f.length) f g := fun b => by
  unfold tabM trB
  rw [ofNat_toNat]
  by_cases h : lastK f b f.length < 0
  · rw [if_pos h, if_pos h]; exact .inl ⟨rfl, rfl⟩
  · rw [if_neg h, if_neg h, if_neg hg]; exact .inr (.inr ⟨_, rfl, rfl⟩)
theorem tabM_step {f g : Str} {i : Nat} : (fun j => if j = (f.getD i 0).toNat then 1 + ((g.getD (min i (g.length - 1)) 0).toNat : Int) else tabM f g i j) = fun j => if j < 256 then tabM f g (i + 1) j else if j = (f.getD i 0).toNat then 1 + ((g.getD (min i (g.length - 1)) 0).toNat : Int) else tabM f g i j := by
  funext j
  by_cases hj : j < 256
  · rw [if_pos hj]
    by_cases he : j = (f.getD i 0).toNat
    · rw [if_pos he]
      have h1 : f.getD i 0 = UInt8.ofNat j := by rw [he, ofNat_toNat]
      unfold tabM
      rw [lastK, if_pos h1, if_neg (by omega)]; rfl
    · rw [if_neg he]
      have h1 : ¬ f.getD i 0 = UInt8.ofNat j := fun e => he (by rw [e, UInt8.toNat_ofNat']; omega)
      unfold tabM
      rw [lastK, if_neg h1]
  · rw [if_neg hj]
theorem tabA_cut (T U : Nat → Int) : tabA (fun j => if j < 256 then T j else U j) = tabA T := by
  unfold tabA
  apply List.map_congr_left
  intro j hj
  simp only [if_pos (List.mem_range.1 hj)]
def tabD (f : Str) (k : Nat) (j : Nat) : Int := if lastK f (UInt8.ofNat j) k < 0 then 0 else -1
theorem tabD_ok (f : Str) : TabOK (tabD f f.length) f [] := fun b => by
  unfold tabD trB
  rw [ofNat_toNat]
  by_cases h : lastK f b f.length < 0
  · rw [if_pos h, if_pos h]; exact .inl ⟨rfl, rfl⟩
  · rw [if_neg h, if_neg h, if_pos rfl]; exact .inr (.inl ⟨rfl, rfl⟩)
theorem tabD_step {f : Str} {i : Nat} : (fun j => if j = (f.getD i 0).toNat then -1 else tabD f i j) = fun j => if j < 256 then tabD f (i + 1) j else if j = (f.getD i 0).toNat then -1 else tabD f i j := by
  funext j
  by_cases hj : j < 256
  · rw [if_pos hj]
    by_cases he : j = (f.getD i 0).toNat
    · rw [if_pos he]
      have h1 : f.getD i 0 = UInt8.ofNat j := by rw [he, ofNat_toNat]
      unfold tabD
      rw [lastK, if_pos h1, if_neg (by omega)]
    · rw [if_neg he]
      have h1 : ¬ f.getD i 0 = UInt8.ofNat j := fun e => he (by rw [e, UInt8.toNat_ofNat']; omega)
      unfold tabD
      rw [lastK, if_neg h1]
  · rw [if_neg hj]
theorem setP_ne {b : Str} (h : ¬ b = []) : ¬ setP b = [] := by
  by_cases hc : condR b
  · rw [setP_rng hc]
    have := hc.2.2
    obtain ⟨k, hk⟩ : ∃ k, (b.getD 2 0).toNat + 1 - (b.getD 0 0).toNat = k + 1 := ⟨(b.getD 2 0).toNat - (b.getD 0 0).toNat, by omega⟩
    rw [hk, rng_cons]; simp
  · rw [setP_one h hc]; simp
theorem trB_one (f g : Str) (b : UInt8) : (trB f g b).length ≤ 1 := by
  unfold trB; split
  · simp
  · split <;> simp
theorem flat_take {t : Str} {h : UInt8 → Str} {i : Nat} (hi : i < t.length) : (t.take (i + 1)).flatMap h = (t.take i).flatMap h ++ h (t.getD i 0) := by
  rw [List.take_add_one, List.flatMap_append, List.getElem?_eq_getElem hi, List.getD_eq_getElem?_getD, List.getElem?_eq_getElem hi]
  simp
theorem flat_len {h : UInt8 → Str} (hh : ∀ b, (h b).length ≤ 1) : ∀ t : Str, (t.flatMap h).length ≤ t.length
  | [] => by simp
  | b :: t => by
    have := flat_len hh t
    have := hh b
    rw [List.flatMap_cons, List.length_append, List.length_cons]; omega
theorem tr_ok (a b t f g : Str) (h : (a = [45, 100] ∧ f = setP b ∧ g = []) ∨ (¬ a = [45, 100] ∧ ¬ b = [] ∧ f = setP a ∧ g = setP b)) (hal : a.length ≤ 4000000) (hbl : b.length ≤ 4000000) (htl : t.length ≤ 4000000) (p : Oid) :
    CallOK Tryz.prog 36 [.list 1 [.str a, .str b], .str t] (Oid.under p) ⟨[], .tuple [(toldR (t.flatMap (trB f g))).av, .bool true], []⟩ := by
  have hla := setP_len a
  have hlb := setP_len b
  refine fnOK (n := 106) (rs := [.cell 4 32, .tmp 5]) Tryz.func36 rfl rfl (by decide) rfl rfl rfl ?_; rintro x rfl hrd hng
  (try ((first | refine zk ?_ | refine zn ?_ | refine ze ?_); with_reducible (constructor; repeat constructor)); try refine zl ?_)
  refine K_ev nmd [] hng (by kernel_rfl) fun hf C S K hC1 hC hS hK => ?_; simp (disch := first | omega | assumption) only [go_sem]
  refine hK ?_; clear hK hS hC hC1 K S C hf
  (try ((first | refine zk ?_ | refine zn ?_ | refine ze ?_); with_reducible (constructor; repeat constructor)); try refine zl ?_)
  refine K_cut [0, 1, 4, 29] (fun s' => s' = ⟨[(0, .list 1 [.str a, .str b]), (1, .str t), (4, .ptr (.sub 0 0 x.p) 0), (29, .bool false)], Mem.of [(.sub 0 0 x.p, .cells [.int .i64 0, .str [], .str []])], 2, []⟩) ?_ ?_
  · rcases h with ⟨rfl, _, _⟩ | ⟨ha, hb0, _, _⟩
    · refine K_ev nmd [(3, 18), (8, 23)] hng (by kernel_rfl) fun hf C S K hC1 hC hS hK => ?_; simp (disch := first | omega | assumption) only [go_sem]
      (repeat' (first | (refine evG_split (fun hv => ?_) (fun hv => ?_) <;> (try simp only [zb1, zb2, zb3, zb4, zb5] at hv) <;> simp (disch := first | omega | assumption) only [go_sem, hv, decide_false, decide_true, ne_eq, not_true_eq_false, not_false_eq_true]) | (refine hK ?_; clear hK hS hC hC1 K S C hf)))
      all_goals first | exact absurd rfl hv | exact K_cutN rfl
    · refine K_ev nmd [(3, 18), (8, 23)] hng (by kernel_rfl) fun hf C S K hC1 hC hS hK => ?_; simp (disch := first | omega | assumption) only [go_sem]
      (repeat' (first | (refine evG_split (fun hv => ?_) (fun hv => ?_) <;> (try simp only [zb1, zb2, zb3, zb4, zb5] at hv) <;> simp (disch := first | omega | assumption) only [go_sem, hv, ha, hb0, decide_false, decide_true, ne_eq, not_true_eq_false, not_false_eq_true]) | (refine hK ?_; clear hK hS hC hC1 K S C hf)))
      all_goals first | exact absurd rfl hv | exact K_cutN rfl
  rintro s' rfl
  (repeat (first | (refine K_ifT rfl rfl ?_) | (refine K_ifF rfl rfl ?_) | (refine K_ev nmd [] hng (by kernel_rfl) fun hf C S K hC1 hC hS hK => ?_; simp (disch := first | omega | assumption) only [go_sem, tab_zero]; (repeat ((first | refine hC1 _ (set_ok b hbl _) (by simp (disch := first | omega | assumption) only [go_sem]) ?_); simp (disch := first | omega | assumption) only [go_sem])); refine hK ?_; clear hK hS hC hC1 K S C hf) | ((first | refine zk ?_ | refine zn ?_ | refine ze ?_); with_reducible (constructor; repeat constructor); try refine zl ?_)))
  refine K_cut [1, 4, 6] (fun s' => ∃ (T : Nat → Int) (c : Nat), s' = ⟨[(1, .str t), (4, .ptr (.sub 0 0 x.p) 0), (6, .ptr (.sub 2 0 x.p) 0)], Mem.of [(.sub 0 0 x.p, .cells [.int .i64 0, .str [], .str []]), (.sub 2 0 x.p, .cells (tabA T))], c, []⟩ ∧ 3 ≤ c ∧ TabOK T f g) ?_ ?_
  · refine K_ifd rfl rfl (fun hb => ?_) (fun hb => ?_)
    · obtain ⟨_, rfl, rfl⟩ := h.resolve_right fun hh => hh.1 hb
      (repeat (first | (refine K_ifT rfl rfl ?_) | (refine K_ifF rfl rfl ?_) | (refine K_ev nmd [] hng (by kernel_rfl) fun hf C S K hC1 hC hS hK => ?_; simp (disch := first | omega | assumption) only [go_sem, tab_zero]; (repeat ((first | refine hC1 _ () (by simp (disch := first | omega | assumption) only [go_sem]) ?_); simp (disch := first | omega | assumption) only [go_sem])); refine hK ?_; clear hK hS hC hC1 K S C hf) | ((first | refine zk ?_ | refine zn ?_ | refine ze ?_); with_reducible (constructor; repeat constructor); try refine zl ?_)))
      refine K_loop [1, 4, 6, 41, 42, 43] (fun k s' => ∃ (i c : Nat), k = (setP b).length - i ∧ i ≤ (setP b).length ∧ 3 ≤ c ∧
        s' = ⟨[(1, .str t), (4, .ptr (.sub 0 0 x.p) 0), (6, .ptr (.sub 2 0 x.p) 0), (41, .list 1 ((setP b).map byA)), (42, .int .i64 (setP b).length), (43, .int .i64 i)],
          Mem.of [(.sub 0 0 x.p, .cells [.int .i64 0, .str [], .str []]), (.sub 2 0 x.p, .cells (tabA (tabD (setP b) i)))], c, []⟩) _ ⟨0, 6, rfl, Nat.zero_le _, by omega, rfl⟩ ?_
      rintro k s' ⟨i, c, rfl, hi, hc3, rfl⟩
      (repeat (first | (refine K_ifT rfl rfl ?_) | (refine K_ifF rfl rfl ?_) | (refine K_ev nmd [] hng (by kernel_rfl) fun hf C S K hC1 hC hS hK => ?_; simp (disch := first | omega | assumption) only [go_sem]; refine hK ?_; clear hK hS hC hC1 K S C hf) | ((first | refine zk ?_ | refine zn ?_ | refine ze ?_); with_reducible (constructor; repeat constructor); try refine zl ?_)))
      refine K_ifd rfl rfl (fun hb => ?_) (fun hb => ?_)
      · have hlt : i < (setP b).length := by omega
        have hy := ((setP b).getD i 0).toNat_lt
        have e0 : (default : UInt8) = 0 := rfl
        have hts := tab_set (tabD (setP b) i) ((setP b).getD i 0).toNat hy (-1)
        rw [tabD_step, tabA_cut] at hts
        have hle : (0 + ((setP b).getD i 0).toNat * 1 ≤ 255) = True := eq_true (by omega)
        (repeat (first | (refine K_ifT rfl rfl ?_) | (refine K_ifF rfl rfl ?_) | (refine K_ev nmd [] hng (by kernel_rfl) fun hf C S K hC1 hC hS hK => ?_; simp (disch := first | omega | assumption) only [go_sem, tabA_len, byA, e0]; (repeat ((first | refine hC1 _ () (by simp (disch := first | omega | assumption) only [go_sem]) ?_); simp (disch := first | omega | assumption) only [go_sem])); refine hK ?_; clear hK hS hC hC1 K S C hf) | ((first | refine zk ?_ | refine zn ?_ | refine ze ?_); with_reducible (constructor; repeat constructor); try refine zl ?_)))
        refine K_ev nmd [] hng (by kernel_rfl) fun hf C S K hC1 hC hS hK => ?_; simp (disch := first | omega | assumption) only [go_sem, tabA_len, byA, e0, hle, hts]
        refine hK ?_; clear hK hS hC hC1 K S C hf
        (repeat (first | (refine K_ifT rfl rfl ?_) | (refine K_ifF rfl rfl ?_) | (refine K_ev nmd [] hng (by kernel_rfl) fun hf C S K hC1 hC hS hK => ?_; simp (disch := first | omega | assumption) only [go_sem]; refine hK ?_; clear hK hS hC hC1 K S C hf) | ((first | refine zk ?_ | refine zn ?_ | refine ze ?_); with_reducible (constructor; repeat constructor); try refine zl ?_)))
        exact ⟨_, _, by omega, fun _ _ h => h, i + 1, _, rfl, by omega, by omega, rfl⟩
      · obtain rfl : i = (setP b).length := by omega
        (repeat (first | (refine K_ifT rfl rfl ?_) | (refine K_ifF rfl rfl ?_) | (refine K_ev nmd [] hng (by kernel_rfl) fun hf C S K hC1 hC hS hK => ?_; simp (disch := first | omega | assumption) only [go_sem]; refine hK ?_; clear hK hS hC hC1 K S C hf) | ((first | refine zk ?_ | refine zn ?_ | refine ze ?_); with_reducible (constructor; repeat constructor); try refine zl ?_)))
        exact K_cutN ⟨_, _, rfl, by omega, tabD_ok _⟩
    · obtain ⟨_, hb0, rfl, rfl⟩ := h.resolve_left fun hh => hb hh.1
      (repeat (first | (refine K_ifT rfl rfl ?_) | (refine K_ifF rfl rfl ?_) | (refine K_ev nmd [] hng (by kernel_rfl) fun hf C S K hC1 hC hS hK => ?_; simp (disch := first | omega | assumption) only [go_sem, tab_zero]; (repeat ((first | refine hC1 _ (set_ok a hal _) (by simp (disch := first | omega | assumption) only [go_sem]) ?_); simp (disch := first | omega | assumption) only [go_sem])); refine hK ?_; clear hK hS hC hC1 K S C hf) | ((first | refine zk ?_ | refine zn ?_ | refine ze ?_); with_reducible (constructor; repeat constructor); try refine zl ?_)))
      refine K_loop [1, 4, 6, 7, 53, 54, 55] (fun k s' => ∃ (i c : Nat), k = (setP a).length - i ∧ i ≤ (setP a).length ∧ 3 ≤ c ∧
        s' = ⟨[(1, .str t), (4, .ptr (.sub 0 0 x.p) 0), (6, .ptr (.sub 2 0 x.p) 0), (7, .list 1 ((setP b).map byA)), (53, .list 1 ((setP a).map byA)), (54, .int .i64 (setP a).length), (55, .int .i64 i)],
          Mem.of [(.sub 0 0 x.p, .cells [.int .i64 0, .str [], .str []]), (.sub 2 0 x.p, .cells (tabA (tabM (setP a) (setP b) i)))], c, []⟩) _ ⟨0, 6, rfl, Nat.zero_le _, by omega, rfl⟩ ?_
      rintro k s' ⟨i, c, rfl, hi, hc3, rfl⟩
      (repeat (first | (refine K_ifT rfl rfl ?_) | (refine K_ifF rfl rfl ?_) | (refine K_ev nmd [] hng (by kernel_rfl) fun hf C S K hC1 hC hS hK => ?_; simp (disch := first | omega | assumption) only [go_sem]; refine hK ?_; clear hK hS hC hC1 K S C hf) | ((first | refine zk ?_ | refine zn ?_ | refine ze ?_); with_reducible (constructor; repeat constructor); try refine zl ?_)))
      refine K_ifd rfl rfl (fun hb => ?_) (fun hb => ?_)
      · have hlt : i < (setP a).length := by omega
        have hbp := List.length_pos_iff.2 (setP_ne hb0)
        have hy := ((setP a).getD i 0).toNat_lt
        have hz := ((setP b).getD (min i ((setP b).length - 1)) 0).toNat_lt
        have e0 : (default : UInt8) = 0 := rfl
        have hmin : (if ((setP b).length : Int) - 1 < (i : Int) then ((setP b).length : Int) - 1 else (i : Int)).toNat = min i ((setP b).length - 1) := by split <;> omega
        have hts := tab_set (tabM (setP a) (setP b) i) ((setP a).getD i 0).toNat hy (1 + (((setP b).getD (min i ((setP b).length - 1)) 0).toNat : Int))
        rw [tabM_step, tabA_cut] at hts
        have hle : (0 + ((setP a).getD i 0).toNat * 1 ≤ 255) = True := eq_true (by omega)
        (repeat (first | (refine K_ifT rfl rfl ?_) | (refine K_ifF rfl rfl ?_) | (refine K_ev nmd [] hng (by kernel_rfl) fun hf C S K hC1 hC hS hK => ?_; simp (disch := first | omega | assumption) only [go_sem, tabA_len, byA, e0]; (repeat ((first | refine hC1 _ () (by simp (disch := first | omega | assumption) only [go_sem]) ?_); simp (disch := first | omega | assumption) only [go_sem])); refine hK ?_; clear hK hS hC hC1 K S C hf) | ((first | refine zk ?_ | refine zn ?_ | refine ze ?_); with_reducible (constructor; repeat constructor); try refine zl ?_)))
        refine K_ev nmd [] hng (by kernel_rfl) fun hf C S K hC1 hC hS hK => ?_; simp (disch := first | omega | assumption) only [go_sem, tabA_len, byA, hmin, e0, hle, hts]
        refine hK ?_; clear hK hS hC hC1 K S C hf
        (repeat (first | (refine K_ifT rfl rfl ?_) | (refine K_ifF rfl rfl ?_) | (refine K_ev nmd [] hng (by kernel_rfl) fun hf C S K hC1 hC hS hK => ?_; simp (disch := first | omega | assumption) only [go_sem]; refine hK ?_; clear hK hS hC hC1 K S C hf) | ((first | refine zk ?_ | refine zn ?_ | refine ze ?_); with_reducible (constructor; repeat constructor); try refine zl ?_)))
        exact ⟨_, _, by omega, fun _ _ h => h, i + 1, _, rfl, by omega, by omega, rfl⟩
      · obtain rfl : i = (setP a).length := by omega
        (repeat (first | (refine K_ifT rfl rfl ?_) | (refine K_ifF rfl rfl ?_) | (refine K_ev nmd [] hng (by kernel_rfl) fun hf C S K hC1 hC hS hK => ?_; simp (disch := first | omega | assumption) only [go_sem]; refine hK ?_; clear hK hS hC hC1 K S C hf) | ((first | refine zk ?_ | refine zn ?_ | refine ze ?_); with_reducible (constructor; repeat constructor); try refine zl ?_)))
        exact K_cutN ⟨_, _, rfl, by omega, tabM_ok _ _ (setP_ne hb0)⟩
  rintro s' ⟨T, c, rfl, hc3, hT⟩
  (repeat (first | (refine K_ifT rfl rfl ?_) | (refine K_ifF rfl rfl ?_) | (refine K_ev nmd [] hng (by kernel_rfl) fun hf C S K hC1 hC hS hK => ?_; simp (disch := first | omega | assumption) only [go_sem]; refine hK ?_; clear hK hS hC hC1 K S C hf) | ((first | refine zk ?_ | refine zn ?_ | refine ze ?_); with_reducible (constructor; repeat constructor); try refine zl ?_)))
  refine K_loop [1, 4, 6, 12, 74, 75] (fun k s' => ∃ (i c : Nat) (done : Str) (v : AV) (M : List (Oid × AObj)), k = t.length - i ∧ i ≤ t.length ∧ 3 ≤ c ∧ done = (t.take i).flatMap (trB f g) ∧
      ((done = [] ∧ v = .nilSl ∧ M = [(.sub 0 0 x.p, .cells [.int .i64 0, .str [], .str []]), (.sub 2 0 x.p, .cells (tabA T))]) ∨ (¬ done = [] ∧ ∃ d j, d < c ∧ v = .sl (.ty 5 (.sub d j x.p)) 1 done.length ∧ M = [(.sub 0 0 x.p, .cells [.int .i64 0, .str [], .str []]), (.sub 2 0 x.p, .cells (tabA T)), (.ty 5 (.sub d j x.p), .arr 1 (done.map byA))])) ∧
      s' = ⟨[(1, .str t), (4, .ptr (.sub 0 0 x.p) 0), (6, .ptr (.sub 2 0 x.p) 0), (12, v), (74, .int .i64 t.length), (75, .int .i64 i)], Mem.of M, c, []⟩) _ ⟨0, c + 1 + 1, [], .nilSl, _, rfl, Nat.zero_le _, by omega, rfl, .inl ⟨rfl, rfl, rfl⟩, rfl⟩ ?_
  rintro k s' ⟨i, c, done, v, M, rfl, hi, hc3, hdn, hM, rfl⟩
  have hdl : done.length ≤ 4000000 := by
    have := flat_len (trB_one f g) (t.take i)
    rw [← hdn, List.length_take] at this; omega
  rcases hM with ⟨rfl, rfl, rfl⟩ | ⟨hd0, d, j, hdc, rfl, rfl⟩
  · (repeat (first | (refine K_ifT rfl rfl ?_) | (refine K_ifF rfl rfl ?_) | (refine K_ev nmd [] hng (by kernel_rfl) fun hf C S K hC1 hC hS hK => ?_; simp (disch := first | omega | assumption) only [go_sem]; refine hK ?_; clear hK hS hC hC1 K S C hf) | ((first | refine zk ?_ | refine zn ?_ | refine ze ?_); with_reducible (constructor; repeat constructor); try refine zl ?_)))
    refine K_ifd rfl rfl (fun hb => ?_) (fun hb => ?_)
    · have hlt : i < t.length := by omega
      have hft := flat_take (h := trB f g) hlt
      have hy := (t.getD i 0).toNat_lt
      have hget := tab_get T (t.getD i 0).toNat hy
      have hpos : (0 < 256 - (0 + (t.getD i 0).toNat * 1)) = True := eq_true (by omega)
      rw [← hdn] at hft
      rcases hT (t.getD i 0) with ⟨ht, hT0⟩ | ⟨ht, hT0⟩ | ⟨y, ht, hT0⟩ <;> rw [ht] at hft <;> rw [hT0] at hget
      · (repeat (first | (refine K_ifT rfl rfl ?_) | (refine K_ifF rfl rfl ?_) | (refine K_ev nmd [] hng (by kernel_rfl) fun hf C S K hC1 hC hS hK => ?_; simp (disch := first | omega | assumption) only [go_sem, tabA_len, hget, hpos, gdR_T, gd_T]; (repeat ((first | refine hC1 _ () (by simp (disch := first | omega | assumption) only [go_sem]) ?_); simp (disch := first | omega | assumption) only [go_sem])); refine hK ?_; clear hK hS hC hC1 K S C hf) | ((first | refine zk ?_ | refine zn ?_ | refine ze ?_); with_reducible (constructor; repeat constructor); try refine zl ?_)))
        refine ⟨_, _, by omega, fun _ _ h => h, i + 1, c + 1 + 1 + 1 + 1 + 1 + 1 + 1, [] ++ [t.getD i 0], .sl (.ty 5 (.sub (c + 1 + 1 + 1 + 1 + 1) 5 x.p)) 1 ([] ++ [t.getD i 0]).length, [(.sub 0 0 x.p, .cells [.int .i64 0, .str [], .str []]), (.sub 2 0 x.p, .cells (tabA T)), (.ty 5 (.sub (c + 1 + 1 + 1 + 1 + 1) 5 x.p), .arr 1 (([] ++ [t.getD i 0]).map byA))], rfl, by omega, by omega, hft.symm, .inr ⟨by simp, c + 1 + 1 + 1 + 1 + 1, 5, by omega, rfl, rfl⟩, ?_⟩
        first | rfl | (rw [List.map_append, List.length_append]; rfl)
      · rw [List.append_nil] at hft
        (repeat (first | (refine K_ifT rfl rfl ?_) | (refine K_ifF rfl rfl ?_) | (refine K_ev nmd [] hng (by kernel_rfl) fun hf C S K hC1 hC hS hK => ?_; simp (disch := first | omega | assumption) only [go_sem, tabA_len, hget, hpos, gdR_T, gd_T, Int.reduceEq, Int.reduceNeg, decide_false]; (repeat ((first | refine hC1 _ () (by simp (disch := first | omega | assumption) only [go_sem]) ?_); simp (disch := first | omega | assumption) only [go_sem])); refine hK ?_; clear hK hS hC hC1 K S C hf) | ((first | refine zk ?_ | refine zn ?_ | refine ze ?_); with_reducible (constructor; repeat constructor); try refine zl ?_)))
        exact ⟨_, _, by omega, fun _ _ h => h, i + 1, _, [], _, _, rfl, by omega, by omega, hft.symm, .inl ⟨rfl, rfl, rfl⟩, rfl⟩
      · have hyy := y.toNat_lt
        have hz0 : (1 + (y.toNat : Int) = 0) = False := eq_false (by omega)
        have hz1 : (1 + (y.toNat : Int) = -1) = False := eq_false (by omega)
        have hw : IntKind.u8.wrap (1 + (y.toNat : Int) - 1) = (y.toNat : Int) := by rw [show (1 + (y.toNat : Int) - 1) = y.toNat by omega]; exact w8_u8 y
        (repeat (first | (refine K_ifT rfl rfl ?_) | (refine K_ifF rfl rfl ?_) | (refine K_ev nmd [] hng (by kernel_rfl) fun hf C S K hC1 hC hS hK => ?_; simp (disch := first | omega | assumption) only [go_sem, tabA_len, hget, hpos, gdR_T, gd_T, hz0, hz1, hw, decide_false]; (repeat ((first | refine hC1 _ () (by simp (disch := first | omega | assumption) only [go_sem]) ?_); simp (disch := first | omega | assumption) only [go_sem])); refine hK ?_; clear hK hS hC hC1 K S C hf) | ((first | refine zk ?_ | refine zn ?_ | refine ze ?_); with_reducible (constructor; repeat constructor); try refine zl ?_)))
        refine ⟨_, _, by omega, fun _ _ h => h, i + 1, c + 1 + 1 + 1 + 1 + 1 + 1 + 1 + 1, [] ++ [y], .sl (.ty 5 (.sub (c + 1 + 1 + 1 + 1 + 1 + 1) 5 x.p)) 1 ([] ++ [y]).length, [(.sub 0 0 x.p, .cells [.int .i64 0, .str [], .str []]), (.sub 2 0 x.p, .cells (tabA T)), (.ty 5 (.sub (c + 1 + 1 + 1 + 1 + 1 + 1) 5 x.p), .arr 1 (([] ++ [y]).map byA))], rfl, by omega, by omega, hft.symm, .inr ⟨by simp, c + 1 + 1 + 1 + 1 + 1 + 1, 5, by omega, rfl, rfl⟩, ?_⟩
        first | rfl | (rw [List.map_append, List.length_append]; rfl)
    · obtain rfl : i = t.length := by omega
      rw [List.take_length] at hdn
      rw [← hdn]
      (repeat (first | (refine K_ifT rfl rfl ?_) | (refine K_ifF rfl rfl ?_) | (refine K_ev nmd [] hng (by kernel_rfl) fun hf C S K hC1 hC hS hK => ?_; simp (disch := first | omega | assumption) only [go_sem, gd_T]; (repeat ((first | refine hC1 _ (told_x [] _) (by simp (disch := first | omega | assumption) only [go_sem]) ?_); simp (disch := first | omega | assumption) only [go_sem])); refine hK ?_; clear hK hS hC hC1 K S C hf) | ((first | refine zk ?_ | refine zn ?_ | refine ze ?_); with_reducible (constructor; repeat constructor); try refine zl ?_)))
      exact K_ret (done_plain (by simp (disch := first | omega | assumption) only [go_sem, Res.av, toldR, badR, usageR]))
  · (repeat (first | (refine K_ifT rfl rfl ?_) | (refine K_ifF rfl rfl ?_) | (refine K_ev nmd [] hng (by kernel_rfl) fun hf C S K hC1 hC hS hK => ?_; simp (disch := first | omega | assumption) only [go_sem]; refine hK ?_; clear hK hS hC hC1 K S C hf) | ((first | refine zk ?_ | refine zn ?_ | refine ze ?_); with_reducible (constructor; repeat constructor); try refine zl ?_)))
    refine K_ifd rfl rfl (fun hb => ?_) (fun hb => ?_)
    · have hlt : i < t.length := by omega
      have hft := flat_take (h := trB f g) hlt
      have hy := (t.getD i 0).toNat_lt
      have hget := tab_get T (t.getD i 0).toNat hy
      have hpos : (0 < 256 - (0 + (t.getD i 0).toNat * 1)) = True := eq_true (by omega)
      rw [← hdn] at hft
      rcases hT (t.getD i 0) with ⟨ht, hT0⟩ | ⟨ht, hT0⟩ | ⟨y, ht, hT0⟩ <;> rw [ht] at hft <;> rw [hT0] at hget
      · (repeat (first | (refine K_ifT rfl rfl ?_) | (refine K_ifF rfl rfl ?_) | (refine K_ev nmd [] hng (by kernel_rfl) fun hf C S K hC1 hC hS hK => ?_; simp (disch := first | omega | assumption) only [go_sem, tabA_len, hget, hpos, gdR_T, gd_T]; (repeat ((first | refine hC1 _ () (by simp (disch := first | omega | assumption) only [go_sem]) ?_); simp (disch := first | omega | assumption) only [go_sem])); refine hK ?_; clear hK hS hC hC1 K S C hf) | ((first | refine zk ?_ | refine zn ?_ | refine ze ?_); with_reducible (constructor; repeat constructor); try refine zl ?_)))
        refine ⟨_, _, by omega, fun _ _ h => h, i + 1, c + 1 + 1 + 1 + 1 + 1 + 1 + 1, done ++ [t.getD i 0], .sl (.ty 5 (.sub (c + 1 + 1 + 1 + 1 + 1) 5 x.p)) 1 (done ++ [t.getD i 0]).length, [(.sub 0 0 x.p, .cells [.int .i64 0, .str [], .str []]), (.sub 2 0 x.p, .cells (tabA T)), (.ty 5 (.sub (c + 1 + 1 + 1 + 1 + 1) 5 x.p), .arr 1 ((done ++ [t.getD i 0]).map byA))], rfl, by omega, by omega, hft.symm, .inr ⟨by simp, c + 1 + 1 + 1 + 1 + 1, 5, by omega, rfl, rfl⟩, ?_⟩
        first | rfl | (rw [List.map_append, List.length_append]; rfl)
      · rw [List.append_nil] at hft
        (repeat (first | (refine K_ifT rfl rfl ?_) | (refine K_ifF rfl rfl ?_) | (refine K_ev nmd [] hng (by kernel_rfl) fun hf C S K hC1 hC hS hK => ?_; simp (disch := first | omega | assumption) only [go_sem, tabA_len, hget, hpos, gdR_T, gd_T, Int.reduceEq, Int.reduceNeg, decide_false]; (repeat ((first | refine hC1 _ () (by simp (disch := first | omega | assumption) only [go_sem]) ?_); simp (disch := first | omega | assumption) only [go_sem])); refine hK ?_; clear hK hS hC hC1 K S C hf) | ((first | refine zk ?_ | refine zn ?_ | refine ze ?_); with_reducible (constructor; repeat constructor); try refine zl ?_)))
        exact ⟨_, _, by omega, fun _ _ h => h, i + 1, _, done, _, _, rfl, by omega, by omega, hft.symm, .inr ⟨hd0, d, j, by omega, rfl, rfl⟩, rfl⟩
      · have hyy := y.toNat_lt
        have hz0 : (1 + (y.toNat : Int) = 0) = False := eq_false (by omega)
        have hz1 : (1 + (y.toNat : Int) = -1) = False := eq_false (by omega)
        have hw : IntKind.u8.wrap (1 + (y.toNat : Int) - 1) = (y.toNat : Int) := by rw [show (1 + (y.toNat : Int) - 1) = y.toNat by omega]; exact w8_u8 y
        (repeat (first | (refine K_ifT rfl rfl ?_) | (refine K_ifF rfl rfl ?_) | (refine K_ev nmd [] hng (by kernel_rfl) fun hf C S K hC1 hC hS hK => ?_; simp (disch := first | omega | assumption) only [go_sem, tabA_len, hget, hpos, gdR_T, gd_T, hz0, hz1, hw, decide_false]; (repeat ((first | refine hC1 _ () (by simp (disch := first | omega | assumption) only [go_sem]) ?_); simp (disch := first | omega | assumption) only [go_sem])); refine hK ?_; clear hK hS hC hC1 K S C hf) | ((first | refine zk ?_ | refine zn ?_ | refine ze ?_); with_reducible (constructor; repeat constructor); try refine zl ?_)))
        refine ⟨_, _, by omega, fun _ _ h => h, i + 1, c + 1 + 1 + 1 + 1 + 1 + 1 + 1 + 1, done ++ [y], .sl (.ty 5 (.sub (c + 1 + 1 + 1 + 1 + 1 + 1) 5 x.p)) 1 (done ++ [y]).length, [(.sub 0 0 x.p, .cells [.int .i64 0, .str [], .str []]), (.sub 2 0 x.p, .cells (tabA T)), (.ty 5 (.sub (c + 1 + 1 + 1 + 1 + 1 + 1) 5 x.p), .arr 1 ((done ++ [y]).map byA))], rfl, by omega, by omega, hft.symm, .inr ⟨by simp, c + 1 + 1 + 1 + 1 + 1 + 1, 5, by omega, rfl, rfl⟩, ?_⟩
        first | rfl | (rw [List.map_append, List.length_append]; rfl)
    · obtain rfl : i = t.length := by omega
      rw [List.take_length] at hdn
      have hdp := List.length_pos_iff.2 hd0
      rw [← hdn]
      refine K_freeze (.ty 5 (.sub d j x.p)) 1 (done.map byA) (by simp (disch := first | omega | assumption) only [go_sem]) ?_
      simp (disch := first | omega | assumption) only [go_sem]
      (repeat (first | (refine K_ifT rfl rfl ?_) | (refine K_ifF rfl rfl ?_) | (refine K_ev nmd [] hng (by kernel_rfl) fun hf C S K hC1 hC hS hK => ?_; simp (disch := first | omega | assumption) only [go_sem]; (repeat ((first | refine hC1 _ (told_x done _) (by simp (disch := first | omega | assumption) only [go_sem]) ?_); simp (disch := first | omega | assumption) only [go_sem])); refine hK ?_; clear hK hS hC hC1 K S C hf) | ((first | refine zk ?_ | refine zn ?_ | refine ze ?_); with_reducible (constructor; repeat constructor); try refine zl ?_)))
      exact K_ret (done_plain (by simp (disch := first | omega | assumption) only [go_sem, Res.av, toldR, badR, usageR]))
end Go.Proofs.YtiaiggbimlbkfaaGreatDoor
