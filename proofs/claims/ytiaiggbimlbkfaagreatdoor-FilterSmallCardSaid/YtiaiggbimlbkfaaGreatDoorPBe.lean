/- A part of the proof: the texts QL1, Q14, Q15, Q26, Q17, Q18, Q27, Q19, Q24, Q28, Del, Q16, Q29, QL3, Q36, Q37, QL4, Q39, one behind the other. -/
import Derived.Test.YtiaiggbimlbkfaaGreatDoorPBd
import Derived.Shelf.SlicesE.DeleteFunc
import Derived.Test.YtiaiggbimlbkfaaGreatDoorProg
import Derived.WalkKit
import Derived.BigQuiet
import Derived.Deep.QuietTactic
import Derived.Laws.Externs
import Derived.Laws.BitsLemmas
import Derived.Tactics
import Derived.Tactics2
import Derived.KernelRfl
import Derived.Lib.IndexMore
import Derived.Laws.RangeAny
import Derived.Laws.RangeString
import Derived.LoopTactic
set_option linter.unusedVariables false
set_option linter.unusedSimpArgs false
set_option linter.unusedSectionVars false
namespace Go.Proofs.YtiaiggbimlbkfaaGreatDoor
open Go Go.Ab
set_option maxRecDepth 20000
set_option maxHeartbeats 2000000
/-- The field number f of a line, by a byte. -/
def fieldC (c : UInt8) (n : Nat) (s : Str) : Str := if (splitL c s).length = 1 then s else if n ≤ (splitL c s).length then (splitL c s).getD (n - 1) [] else []
/-- What the reference gathers of the rest of a line while it still waits for field f. -/
def cutR (c : UInt8) : Int → Str → Str
  | _, [] => []
  | f, b :: s => if b = c then cutR c (f - 1) s else if f = 1 then b :: cutR c f s else cutR c f s
theorem cutR_field (c : UInt8) : ∀ (s : Str) (f : Int), cutR c f s = if 1 ≤ f then (splitL c s).getD (f - 1).toNat [] else []
  | [], f => by
    rw [cutR, splitL]
    split
    · cases (f - 1).toNat <;> rfl
    · rfl
  | b :: s, f => by
    rw [cutR, splitL]
    by_cases hb : b = c
    · rw [if_pos hb, if_pos hb, cutR_field c s (f - 1)]
      by_cases h1 : 1 ≤ f
      · rw [if_pos h1]
        by_cases h2 : 1 ≤ f - 1
        · rw [if_pos h2, show (f - 1).toNat = (f - 1 - 1).toNat + 1 by omega]; rfl
        · rw [if_neg h2, show (f - 1).toNat = 0 by omega]; rfl
      · rw [if_neg h1, if_neg (by omega)]
    · rw [if_neg hb, if_neg hb, cutR_field c s f]
      cases hs : splitL c s with
      | nil => exact absurd hs (splitL_ne c s)
      | cons l r =>
        by_cases h1 : f = 1
        · subst h1; rfl
        · rw [if_neg h1]
          by_cases h2 : 1 ≤ f
          · rw [if_pos h2, if_pos h2, show (f - 1).toNat = (f - 2).toNat + 1 by omega]; rfl
          · rw [if_neg h2, if_neg h2]
/-- The reference's answer for a line. -/
theorem field_ref (c : UInt8) (n : Nat) (hn : 1 ≤ n) (s : Str) : (if c ∈ s then cutR c n s else s) = fieldC c n s := by
  unfold fieldC
  rw [splitL_length]
  by_cases h : c ∈ s
  · have := List.count_pos_iff.2 h
    rw [if_pos h, if_neg (by omega), cutR_field, if_pos (by omega), show ((n : Int) - 1).toNat = n - 1 by omega]
    split
    · rfl
    · rename_i h2
      rw [List.getD_eq_getElem?_getD, List.getElem?_eq_none (by rw [splitL_length]; omega)]; rfl
  · rw [if_neg h, if_pos (by rw [List.count_eq_zero.2 h])]
/-- The runs of texts that are alike, each with its length. -/
def addX (n : Nat) (x : Str) : List (Nat × Str) → List (Nat × Str)
  | [] => [(n, x)]
  | q :: g => if q.2 = x then (q.1 + n, x) :: g else (n, x) :: q :: g
def grp : List Str → List (Nat × Str)
  | [] => []
  | x :: r => addX 1 x (grp r)
theorem addX_add (n m : Nat) (x : Str) (g : List (Nat × Str)) : addX n x (addX m x g) = addX (n + m) x g := by
  cases g with
  | nil => rw [addX, addX, addX, if_pos rfl, Nat.add_comm]
  | cons q g =>
    by_cases he : q.2 = x
    · rw [addX, if_pos he, addX, if_pos rfl, addX, if_pos he, show q.1 + m + n = q.1 + (n + m) by omega]
    · rw [addX, if_neg he, addX, if_pos rfl, addX, if_neg he, Nat.add_comm m n]
/-- The text that is told of runs. -/
def runsT (counts : Bool) : List (Nat × Str) → Str
  | [] => []
  | q :: g => (if counts = true then Lib.decDigits q.1 ++ [32] else []) ++ (q.2 ++ [10]) ++ runsT counts g
theorem addX_new {n : Nat} {x : Str} {l : List Str} (h : ∀ y r, l = y :: r → ¬ y = x) : addX n x (grp l) = (n, x) :: grp l := by
  cases l with
  | nil => rfl
  | cons y r =>
    have hy := h y r rfl
    rw [grp]
    cases grp r with
    | nil => rw [addX, addX, if_neg hy]
    | cons q g =>
      rw [addX]
      split
      · rw [addX, if_neg hy]
      · rw [addX, if_neg hy]
theorem dec_succ (n m : Nat) (hm : 0 < m) : (Lib.decDigits (m + n)).length ≤ (Lib.decDigits m).length + n := by
  induction n with
  | zero => exact Nat.le_refl _
  | succ n ih =>
    have h1 : ∀ k, (Lib.decDigits (k + 1)).length ≤ (Lib.decDigits k).length + 1 := by
      intro k
      induction k using Nat.strongRecOn with
      | ind k ih =>
        by_cases h : k + 1 < 10
        · rw [digits_small h]; simp
        · rw [digits_big h, List.length_append, List.length_singleton]
          by_cases hk : k < 10
          · have : k = 9 := by omega
            subst this
            rw [digits_small (by decide), digits_small (by decide)]; simp
          · rw [digits_big hk, List.length_append, List.length_singleton]
            by_cases he : (k + 1) / 10 = k / 10
            · rw [he]; omega
            · rw [show (k + 1) / 10 = k / 10 + 1 by omega]
              have := ih (k / 10) (by omega)
              omega
    have := h1 (m + n)
    rw [show m + (n + 1) = m + n + 1 by omega]; omega
theorem runsT_addX (counts : Bool) (x : Str) (g : List (Nat × Str)) (hg : ∀ q ∈ g, 0 < q.1) : (runsT counts (addX 1 x g)).length ≤ (runsT counts g).length + x.length + 3 := by
  have h1 : (Lib.decDigits 1).length = 1 := by rw [digits_small (by decide)]; rfl
  cases g with
  | nil =>
    simp only [addX, runsT, List.append_nil, List.length_append, List.length_singleton, List.length_nil]
    split
    · rw [List.length_append, h1, List.length_singleton]; omega
    · simp only [List.length_nil]; omega
  | cons q g =>
    have hq := hg q List.mem_cons_self
    rw [addX]
    split
    · rename_i he
      have := dec_succ 1 q.1 hq
      simp only [runsT, List.length_append, List.length_singleton]
      rw [he]
      split
      · simp only [List.length_append, List.length_singleton]; omega
      · simp only [List.length_nil]; omega
    · simp only [runsT, List.length_append, List.length_singleton]
      split
      · simp only [List.length_append, List.length_singleton, h1]; omega
      · simp only [List.length_nil]; omega
theorem grp_pos : ∀ (l : List Str), ∀ q ∈ grp l, 0 < q.1
  | [], _, h => by cases h
  | x :: r, q, h => by
    have ih := grp_pos r
    rw [grp] at h
    cases hg : grp r with
    | nil => rw [hg] at h; simp only [addX, List.mem_singleton] at h; rw [h]; exact Nat.one_pos
    | cons p g =>
      rw [hg] at h ih
      rw [addX] at h
      split at h
      · rcases List.mem_cons.1 h with rfl | h
        · exact Nat.succ_pos _
        · exact ih q (List.mem_cons_of_mem _ h)
      · rcases List.mem_cons.1 h with rfl | h
        · exact Nat.one_pos
        · exact ih q h
theorem runsT_len (counts : Bool) : ∀ l : List Str, (runsT counts (grp l)).length ≤ 3 * (joinN l).length
  | [] => Nat.le_refl _
  | x :: r => by
    have ih := runsT_len counts r
    have := runsT_addX counts x (grp r) (grp_pos r)
    rw [grp]
    simp only [joinN, List.length_append, List.length_singleton]
    omega
end Go.Proofs.YtiaiggbimlbkfaaGreatDoor
namespace Go.Proofs.YtiaiggbimlbkfaaGreatDoor
open Go Go.Ab
set_option maxRecDepth 20000
set_option maxHeartbeats 4000000
/-- The row when i of its lines are turned. -/
def rowF (f : Str → Str) (l : List Str) (i : Nat) : List Str := (l.take i).map f ++ l.drop i
theorem rowF_len (f : Str → Str) (l : List Str) (i : Nat) : (rowF f l i).length = l.length := by
  simp only [rowF, List.length_append, List.length_map, List.length_take, List.length_drop]; omega
theorem rowF_get {f : Str → Str} {l : List Str} {i : Nat} (h : i < l.length) : (rowF f l i).getD i default = l.getD i default := by
  simp only [rowF, List.getD_eq_getElem?_getD]
  rw [List.getElem?_append_right (by simp; omega)]
  simp only [List.length_map, List.length_take, List.getElem?_drop]
  congr 2; omega
theorem rowF_get2 {f : Str → Str} {l : List Str} {i : Nat} (h : i < l.length) : ((rowF f l i).map AV.str).getD i .undef = .str (l.getD i default) := by
  have h1 := rowF_get (f := f) h
  have hl : i < (rowF f l i).length := by rw [rowF_len]; exact h
  rw [List.getD_eq_getElem?_getD, List.getElem?_eq_getElem hl] at h1
  rw [List.getD_eq_getElem?_getD, List.getElem?_map, List.getElem?_eq_getElem hl, ← h1]; rfl
theorem rowF_set {f : Str → Str} {l : List Str} {i : Nat} (h : i < l.length) : (rowF f l i).set i (f (l.getD i default)) = rowF f l (i + 1) := by
  simp only [rowF]
  have hlen : ((l.take i).map f).length = i := by simp; omega
  have hd := List.drop_eq_getElem_cons h
  have hg : l.getD i default = l[i] := by rw [List.getD_eq_getElem?_getD, List.getElem?_eq_getElem h]; rfl
  rw [List.set_append_right _ _ (by omega), hlen, Nat.sub_self, hd, List.set_cons_zero, List.take_add_one, List.map_append, List.append_assoc, List.getElem?_eq_getElem h, hg]
  rfl
theorem rowF_set2 {f : Str → Str} {l : List Str} {i : Nat} (h : i < l.length) : ((rowF f l i).map AV.str).set i (.str (f (l.getD i default))) = (rowF f l (i + 1)).map AV.str := by
  rw [← rowF_set h, List.map_set]
theorem rowF_same {f : Str → Str} {l : List Str} {i : Nat} (h : i < l.length) (hf : f (l.getD i default) = l.getD i default) : rowF f l i = rowF f l (i + 1) := by
  rw [← rowF_set h, hf]
  apply List.ext_getElem?
  intro j
  rw [List.getElem?_set]
  split
  · rename_i e
    subst e
    have := rowF_get (f := f) h
    rw [List.getD_eq_getElem?_getD] at this
    have hl : i < (rowF f l i).length := by rw [rowF_len]; exact h
    rw [List.getElem?_eq_getElem hl] at this ⊢
    rw [if_pos (by omega), ← this]; rfl
  · rfl
theorem fieldC_len (c : UInt8) (n : Nat) (s : Str) : (fieldC c n s).length ≤ s.length := by
  have hsum : ∀ s : Str, ((splitL c s).map List.length).sum ≤ s.length := by
    intro s
    induction s with
    | nil => simp [splitL]
    | cons b s ih =>
      rw [splitL]
      split
      · simp only [List.map_cons, List.sum_cons, List.length_nil, List.length_cons]; omega
      · cases hs : splitL c s with
        | nil => exact absurd hs (splitL_ne c s)
        | cons l r =>
          rw [hs] at ih
          simp only [List.map_cons, List.sum_cons, List.length_cons] at ih ⊢; omega
  have hmem : ∀ (l : List Str) (a : Str), a ∈ l → a.length ≤ (l.map List.length).sum := by
    intro l
    induction l with
    | nil => intro a h; cases h
    | cons x l ih =>
      intro a h
      simp only [List.map_cons, List.sum_cons]
      rcases List.mem_cons.1 h with rfl | h
      · omega
      · have := ih a h; omega
  unfold fieldC
  split
  · exact Nat.le_refl _
  · split
    · rw [List.getD_eq_getElem?_getD]
      cases h : (splitL c s)[n - 1]? with
      | none => exact Nat.zero_le _
      | some a => exact Nat.le_trans (hmem _ a (List.mem_of_getElem? h)) (hsum s)
    · exact Nat.zero_le _
theorem joinN_map_le {f : Str → Str} (hf : ∀ s, (f s).length ≤ s.length) (l : List Str) : (joinN (l.map f)).length ≤ (joinN l).length := by
  induction l with
  | nil => exact Nat.le_refl _
  | cons s l ih => have := hf s; simp only [List.map_cons, joinN, List.length_append]; omega
theorem joinN_mem (l : List Str) (i : Nat) : (l.getD i default).length ≤ (joinN l).length := by
  rw [List.getD_eq_getElem?_getD]
  induction l generalizing i with
  | nil => simp; exact Nat.zero_le _
  | cons s l ih =>
    cases i with
    | zero => simp only [List.getElem?_cons_zero, Option.getD_some, joinN, List.length_append]; omega
    | succ i => have := ih i; simp only [List.getElem?_cons_succ, joinN, List.length_append]; omega
theorem cut_ok (c : UInt8) (b t : Str) (hbl : b.length ≤ 4000000) (htl : t.length ≤ 4000000) (h : 1 ≤ refN b) (p : Oid) (hp : p.mono = false) :
    CallOK Tryz.prog 35 [.list 1 [.str [45, 100], .str [c], .str [45, 102], .str b], .str t] (Oid.under p) ⟨[], .tuple [(toldR (joinN ((linesL t).map (fieldC c (refN b).toNat)))).av, .bool true], []⟩ := by
  have hjl := joinN_lines t
  have hjn := joinN_len (linesL t)
  have hjm := joinN_map_le (fieldC_len c (refN b).toNat) (linesL t)
  have hnum := fun p hp => number_ok b (by omega) p hp
  rw [(num_ref b).2 (by rw [(num_ref b).1, decide_eq_true (by omega)]), (num_ref b).1, decide_eq_true (show 0 ≤ refN b by omega)] at hnum
  have hrl := refN_le b
  obtain ⟨N, hN⟩ : ∃ N : Nat, refN b = N := ⟨(refN b).toNat, by omega⟩
  rw [hN] at h hnum hrl hjm ⊢
  rw [Int.toNat_natCast] at hjm ⊢
  have hz : ((N : Int) < 1) = False := eq_false (by omega)
  refine fnOK (n := 93) (rs := [.cell 4 32, .tmp 5]) Tryz.func35 rfl rfl (by decide) rfl rfl rfl ?_; rintro x rfl hrd hng
  (try ((first | refine zk ?_ | refine zn ?_ | refine ze ?_); with_reducible (constructor; repeat constructor)); try refine zl ?_)
  refine K_ev nmd [] hng (by kernel_rfl) fun hf C S K hC1 hC hS hK => ?_; simp (disch := first | omega | assumption) only [go_sem]
  refine hK ?_; clear hK hS hC hC1 K S C hf
  (try ((first | refine zk ?_ | refine zn ?_ | refine ze ?_); with_reducible (constructor; repeat constructor)); try refine zl ?_)
  refine K_ev nmd [(3, 15), (9, 21), (16, 28)] hng (by kernel_rfl) fun hf C S K hC1 hC hS hK => ?_; simp (disch := first | omega | assumption) only [go_sem, decide_true, decide_false, ne_eq, not_true_eq_false, not_false_eq_true]
  (repeat' (first | (refine evG_split (fun hv => ?_) (fun hv => ?_) <;> (try simp only [zb1, zb2, zb3, zb4, zb5] at hv) <;> simp (disch := first | omega | assumption) only [go_sem, hv, decide_true, decide_false, ne_eq, not_true_eq_false, not_false_eq_true]) | (refine hK ?_; clear hK hS hC hC1 K S C hf)))
  all_goals first | exact absurd rfl hv | skip
  (repeat (first | (refine K_ifT rfl rfl ?_) | (refine K_ifF rfl rfl ?_) | (refine K_ev nmd [] hng (by kernel_rfl) fun hf C S K hC1 hC hS hK => ?_; simp (disch := first | omega | assumption) only [go_sem]; (repeat ((first | refine hC1 _ (hnum _ (mono_sub' rfl hp)) (by simp (disch := first | omega | assumption) only [go_sem]) ?_); simp (disch := first | omega | assumption) only [go_sem])); refine hK ?_; clear hK hS hC hC1 K S C hf) | ((first | refine zk ?_ | refine zn ?_ | refine ze ?_); with_reducible (constructor; repeat constructor); try refine zl ?_)))
  refine K_ev nmd [(2, 46)] hng (by kernel_rfl) fun hf C S K hC1 hC hS hK => ?_; simp (disch := first | omega | assumption) only [go_sem, hz, decide_true, decide_false, ne_eq, not_true_eq_false, not_false_eq_true]
  (repeat' (first | (refine evG_split (fun hv => ?_) (fun hv => ?_) <;> (try simp only [zb1, zb2, zb3, zb4, zb5] at hv) <;> simp (disch := first | omega | assumption) only [go_sem, hv, hz, decide_true, decide_false, ne_eq, not_true_eq_false, not_false_eq_true]) | (refine hK ?_; clear hK hS hC hC1 K S C hf)))
  all_goals first | contradiction | skip
  by_cases h0 : t = []
  · subst h0
    have hJ : ∀ p, CallOK Tryz.prog 57 [.nilSl] (Oid.under p) ⟨[], .str [], []⟩ := fun p => (joined_ok [] (Nat.zero_le _) p).weak (AVles.cons (AVle.nil 1) AVles.nil)
    rw [show joinN ((linesL []).map (fieldC c N)) = [] from rfl]
    (repeat (first | (refine K_ifT rfl rfl ?_) | (refine K_ifF rfl rfl ?_) | (refine K_ev nmd [] hng (by kernel_rfl) fun hf C S K hC1 hC hS hK => ?_; simp (disch := first | omega | assumption) only [go_sem]; (repeat ((first | refine hC1 _ (lines_nil _) (by simp (disch := first | omega | assumption) only [go_sem]) ?_); simp (disch := first | omega | assumption) only [go_sem])); refine hK ?_; clear hK hS hC hC1 K S C hf) | ((first | refine zk ?_ | refine zn ?_ | refine ze ?_); with_reducible (constructor; repeat constructor); try refine zl ?_)))
    refine K_loop [4, 8, 56, 57] (fun k s' => ∃ c : Nat, k = 0 ∧ s' = ⟨[(4, .ptr (.sub 0 0 x.p) 0), (8, .nilSl), (56, .int .i64 0), (57, .int .i64 0)], Mem.of [(.sub 0 0 x.p, .cells [.int .i64 0, .str [], .str []])], c, []⟩) _ ⟨_, rfl, rfl⟩ ?_
    rintro k s' ⟨c, rfl, rfl⟩
    (repeat (first | (refine K_ifT rfl rfl ?_) | (refine K_ifF rfl rfl ?_) | (refine K_ev nmd [] hng (by kernel_rfl) fun hf C S K hC1 hC hS hK => ?_; simp (disch := first | omega | assumption) only [go_sem]; (repeat ((first | refine hC1 _ (hJ _) (by simp (disch := first | omega | assumption) only [go_sem]) ?_ | refine hC1 _ (told_x [] _) (by simp (disch := first | omega | assumption) only [go_sem]) ?_); simp (disch := first | omega | assumption) only [go_sem])); refine hK ?_; clear hK hS hC hC1 K S C hf) | ((first | refine zk ?_ | refine zn ?_ | refine ze ?_); with_reducible (constructor; repeat constructor); try refine zl ?_)))
    exact K_ret (done_plain (by simp (disch := first | omega | assumption) only [go_sem, Res.av, toldR, badR, usageR]))
  · have hne := linesL_ne h0
    (repeat (first | (refine K_ifT rfl rfl ?_) | (refine K_ifF rfl rfl ?_) | (refine K_ev nmd [] hng (by kernel_rfl) fun hf C S K hC1 hC hS hK => ?_; simp (disch := first | omega | assumption) only [go_sem]; (repeat ((first | refine hC1 _ (lines_sl t h0 (by omega) _) (by simp (disch := first | omega | assumption) only [go_sem]) ?_); simp (disch := first | omega | assumption) only [go_sem])); refine hK ?_; clear hK hS hC hC1 K S C hf) | ((first | refine zk ?_ | refine zn ?_ | refine ze ?_); with_reducible (constructor; repeat constructor); try refine zl ?_)))
    generalize hL : linesL t = L at hjl hjn hjm hne ⊢
    have hmem : ∀ i, (L.getD i default).length ≤ 4000001 := fun i => by
      have h1 := joinN_mem L i
      omega
    refine K_loop [0, 4, 6, 8, 55, 56, 57] (fun k s' => ∃ i d : Nat, k = L.length - i ∧ i ≤ L.length ∧ 5 ≤ d ∧
      s' = ⟨[(0, .list 1 [.str [45, 100], .str [c], .str [45, 102], .str b]), (4, .ptr (.sub 0 0 x.p) 0), (6, .int .i64 (N : Int)), (8, .sl (rowL (.sub 4 1 x.p)) 1 L.length), (55, .sl (rowL (.sub 4 1 x.p)) 1 L.length), (56, .int .i64 L.length), (57, .int .i64 i)],
        Mem.of [(.sub 0 0 x.p, .cells [.int .i64 0, .str [], .str []]), (rowL (.sub 4 1 x.p), .arr 1 ((rowF (fieldC c N) L i).map AV.str))], d, []⟩) _ ⟨0, _, rfl, Nat.zero_le _, by omega, rfl⟩ ?_
    rintro k s' ⟨i, d, rfl, hi, hd5, rfl⟩
    (repeat (first | (refine K_ifT rfl rfl ?_) | (refine K_ifF rfl rfl ?_) | (refine K_ev nmd [] hng (by kernel_rfl) fun hf C S K hC1 hC hS hK => ?_; simp (disch := first | omega | assumption) only [go_sem]; refine hK ?_; clear hK hS hC hC1 K S C hf) | ((first | refine zk ?_ | refine zn ?_ | refine ze ?_); with_reducible (constructor; repeat constructor); try refine zl ?_)))
    refine K_ifd rfl rfl (fun hb => ?_) (fun hb => ?_)
    · have hlt : i < L.length := by omega
      have hgi := rowF_get2 (f := fieldC c N) hlt
      have hml := hmem i
      generalize hq : L.getD i default = q at hgi hml
      (repeat (first | (refine K_ifT rfl rfl ?_) | (refine K_ifF rfl rfl ?_) | (refine K_ev nmd [] hng (by kernel_rfl) fun hf C S K hC1 hC hS hK => ?_; simp (disch := first | omega | assumption) only [go_sem, rowF_len, hgi, List.length_map, hlt]; (repeat ((first | refine hC1 _ (split_ok q c (by omega) _) (by simp (disch := first | omega | assumption) only [go_sem]) ?_); simp (disch := first | omega | assumption) only [go_sem])); refine hK ?_; clear hK hS hC hC1 K S C hf) | ((first | refine zk ?_ | refine zn ?_ | refine ze ?_); with_reducible (constructor; repeat constructor); try refine zl ?_)))
      refine K_freeze (.sub 0 0 (.sub (d + 1 + 1) 4 x.p)) 1 ((splitL c q).map AV.str) (by simp (disch := first | omega | assumption) only [go_sem]) ?_
      simp (disch := first | omega | assumption) only [go_sem]
      refine K_ifd rfl rfl (fun hb => ?_) (fun hb => ?_)
      · have hsame : fieldC c N (L.getD i default) = L.getD i default := by rw [hq, fieldC, if_pos (by omega)]
        have hrs := rowF_same hlt hsame
        (repeat (first | (refine K_ifT rfl rfl ?_) | (refine K_ifF rfl rfl ?_) | (refine K_ev nmd [] hng (by kernel_rfl) fun hf C S K hC1 hC hS hK => ?_; simp (disch := first | omega | assumption) only [go_sem]; refine hK ?_; clear hK hS hC hC1 K S C hf) | ((first | refine zk ?_ | refine zn ?_ | refine ze ?_); with_reducible (constructor; repeat constructor); try refine zl ?_)))
        exact ⟨_, _, by omega, fun _ _ h => h, i + 1, d + 1 + 1 + 1 + 1 + 1, rfl, by omega, by omega, by rw [← hrs]; rfl⟩
      · have hb1 := hb
        (repeat (first | (refine K_ifT rfl rfl ?_) | (refine K_ifF rfl rfl ?_) | (refine K_ev nmd [] hng (by kernel_rfl) fun hf C S K hC1 hC hS hK => ?_; simp (disch := first | omega | assumption) only [go_sem, List.length_map]; (repeat ((first | refine hC1 _ () (by simp (disch := first | omega | assumption) only [go_sem]) ?_); simp (disch := first | omega | assumption) only [go_sem])); refine hK ?_; clear hK hS hC hC1 K S C hf) | ((first | refine zk ?_ | refine zn ?_ | refine ze ?_); with_reducible (constructor; repeat constructor); try refine zl ?_)))
        refine K_ifd rfl rfl (fun hb => ?_) (fun hb => ?_)
        · have hn1 : ((N : Int) - 1).toNat = N - 1 := by omega
          have hset := rowF_set2 (f := fieldC c N) hlt
          have hfq : fieldC c N q = (splitL c q).getD (N - 1) default := by rw [fieldC, if_neg (by omega), if_pos (by omega)]; rfl
          rw [hq, hfq] at hset
          (repeat (first | (refine K_ifT rfl rfl ?_) | (refine K_ifF rfl rfl ?_) | (refine K_ev nmd [] hng (by kernel_rfl) fun hf C S K hC1 hC hS hK => ?_; simp (disch := first | omega | assumption) only [go_sem, hn1, List.length_map, rowF_len, hlt, hset]; (repeat ((first | refine hC1 _ () (by simp (disch := first | omega | assumption) only [go_sem]) ?_); simp (disch := first | omega | assumption) only [go_sem])); refine hK ?_; clear hK hS hC hC1 K S C hf) | ((first | refine zk ?_ | refine zn ?_ | refine ze ?_); with_reducible (constructor; repeat constructor); try refine zl ?_)))
          exact ⟨_, _, by omega, fun _ _ h => h, i + 1, _, rfl, by omega, by omega, rfl⟩
        · have hset := rowF_set2 (f := fieldC c N) hlt
          have hfq : fieldC c N q = [] := by rw [fieldC, if_neg (by omega), if_neg (by omega)]
          rw [hq, hfq] at hset
          (repeat (first | (refine K_ifT rfl rfl ?_) | (refine K_ifF rfl rfl ?_) | (refine K_ev nmd [] hng (by kernel_rfl) fun hf C S K hC1 hC hS hK => ?_; simp (disch := first | omega | assumption) only [go_sem, List.length_map, rowF_len, hlt, hset]; (repeat ((first | refine hC1 _ () (by simp (disch := first | omega | assumption) only [go_sem]) ?_); simp (disch := first | omega | assumption) only [go_sem])); refine hK ?_; clear hK hS hC hC1 K S C hf) | ((first | refine zk ?_ | refine zn ?_ | refine ze ?_); with_reducible (constructor; repeat constructor); try refine zl ?_)))
          exact ⟨_, _, by omega, fun _ _ h => h, i + 1, _, rfl, by omega, by omega, rfl⟩
    · obtain rfl : i = L.length := by omega
      have hend : rowF (fieldC c N) L L.length = L.map (fieldC c N) := by rw [rowF, List.take_length, List.drop_length, List.append_nil]
      rw [hend]
      (try ((first | refine zk ?_ | refine zn ?_ | refine ze ?_); with_reducible (constructor; repeat constructor)); try refine zl ?_)
      refine K_freeze (rowL (.sub 4 1 x.p)) 1 ((L.map (fieldC c N)).map AV.str) (by simp (disch := first | omega | assumption) only [go_sem]) ?_
      simp (disch := first | omega | assumption) only [go_sem, List.length_map]
      (repeat (first | (refine K_ifT rfl rfl ?_) | (refine K_ifF rfl rfl ?_) | (refine K_ev nmd [] hng (by kernel_rfl) fun hf C S K hC1 hC hS hK => ?_; simp (disch := first | omega | assumption) only [go_sem]; (repeat ((first | refine hC1 _ (joined_ok (L.map (fieldC c N)) (by omega) _) (by simp (disch := first | omega | assumption) only [go_sem]) ?_ | refine hC1 _ (told_x (joinN (L.map (fieldC c N))) _) (by simp (disch := first | omega | assumption) only [go_sem]) ?_); simp (disch := first | omega | assumption) only [go_sem])); refine hK ?_; clear hK hS hC hC1 K S C hf) | ((first | refine zk ?_ | refine zn ?_ | refine ze ?_); with_reducible (constructor; repeat constructor); try refine zl ?_)))
      exact K_ret (done_plain (by simp (disch := first | omega | assumption) only [go_sem, Res.av, toldR, badR, usageR]))
end Go.Proofs.YtiaiggbimlbkfaaGreatDoor
namespace Go.Proofs.YtiaiggbimlbkfaaGreatDoor
open Go Go.Ab
set_option maxRecDepth 20000
set_option maxHeartbeats 4000000
theorem map_take_succ {f : Str → Str} {l : List Str} {i : Nat} (h : i < l.length) : joinN ((l.take (i + 1)).map f) = joinN ((l.take i).map f) ++ f (l.getD i default) ++ [10] := by
  rw [List.take_add_one, List.map_append, joinN_append, List.getElem?_eq_getElem h, List.getD_eq_getElem?_getD, List.getElem?_eq_getElem h]
  simp [joinN]
theorem mem_take_succ {c : UInt8} {q : Str} {k : Nat} (h : k < q.length) : c ∈ q.take (k + 1) ↔ c ∈ q.take k ∨ q.getD k 0 = c := by
  rw [List.take_add_one, List.mem_append, List.getElem?_eq_getElem h, List.getD_eq_getElem?_getD, List.getElem?_eq_getElem h]
  simp only [Option.toList, List.mem_singleton, Option.getD_some]
  exact ⟨fun h => h.imp id Eq.symm, fun h => h.imp id Eq.symm⟩
theorem cutRef_ok (c : UInt8) (b t : Str) (hbl : b.length ≤ 4000000) (htl : t.length ≤ 4000000) (h : 1 ≤ refN b) (p : Oid) :
    CallOK Tryz.prog 46 [.list 1 [.str [45, 100], .str [c], .str [45, 102], .str b], .str t] (Oid.under p) ⟨[], (toldR (joinN ((linesL t).map (fieldC c (refN b).toNat)))).av, []⟩ := by
  have hjl := joinN_lines t
  have hjn := joinN_len (linesL t)
  have hnum := fun p => numberR_ok b (by omega) p
  have hrl := refN_le b
  obtain ⟨N, hN⟩ : ∃ N : Nat, refN b = N := ⟨(refN b).toNat, by omega⟩
  rw [hN] at h hnum hrl ⊢
  rw [Int.toNat_natCast]
  have hz : ((N : Int) < 1) = False := eq_false (by omega)
  refine fnOK (n := 100) (rs := [.cell 4 32]) Tryz.func46 rfl rfl (by decide) rfl rfl rfl ?_; rintro x rfl hrd hng
  (try ((first | refine zk ?_ | refine zn ?_ | refine ze ?_); with_reducible (constructor; repeat constructor)); try refine zl ?_)
  refine K_ev nmd [] hng (by kernel_rfl) fun hf C S K hC1 hC hS hK => ?_; simp (disch := first | omega | assumption) only [go_sem]
  refine hK ?_; clear hK hS hC hC1 K S C hf
  (try ((first | refine zk ?_ | refine zn ?_ | refine ze ?_); with_reducible (constructor; repeat constructor)); try refine zl ?_)
  refine K_ev nmd [(3, 15), (9, 21), (16, 28), (22, 34)] hng (by kernel_rfl) fun hf C S K hC1 hC hS hK => ?_; simp (disch := first | omega | assumption) only [go_sem, decide_true, decide_false, ne_eq, not_true_eq_false, not_false_eq_true]
  (repeat' (first | (refine evG_split (fun hv => ?_) (fun hv => ?_) <;> (try simp only [zb1, zb2, zb3, zb4, zb5] at hv) <;> simp (disch := first | omega | assumption) only [go_sem, hv, hz, decide_true, decide_false, ne_eq, not_true_eq_false, not_false_eq_true]) | (refine hC1 _ (hnum _) (by simp (disch := first | omega | assumption) only [go_sem, hz, decide_true, decide_false, ne_eq, not_true_eq_false, not_false_eq_true]) ?_; simp (disch := first | omega | assumption) only [go_sem, hz, decide_true, decide_false, ne_eq, not_true_eq_false, not_false_eq_true]) | (refine hK ?_; clear hK hS hC hC1 K S C hf)))
  all_goals first | exact absurd rfl hv | skip
  (repeat (first | (refine K_ifT rfl rfl ?_) | (refine K_ifF rfl rfl ?_) | (refine K_ev nmd [] hng (by kernel_rfl) fun hf C S K hC1 hC hS hK => ?_; simp (disch := first | omega | assumption) only [go_sem]; (repeat ((first | refine hC1 _ (linesR_ok t (by omega) _) (by simp (disch := first | omega | assumption) only [go_sem]) ?_); simp (disch := first | omega | assumption) only [go_sem])); refine hK ?_; clear hK hS hC hC1 K S C hf) | ((first | refine zk ?_ | refine zn ?_ | refine ze ?_); with_reducible (constructor; repeat constructor); try refine zl ?_)))
  generalize hL : linesL t = L at hjl hjn
  have hmem : ∀ i, (L.getD i default).length ≤ 4000001 := fun i => by
    have h1 := joinN_mem L i
    omega
  have htk : ∀ i, (joinN ((L.take i).map (fieldC c N))).length ≤ 4000001 := fun i => by
    have h1 := joinN_map_le (fieldC_len c N) (L.take i)
    have h2 := joinN_take_le (l := L) i
    omega
  refine K_loop [0, 4, 5, 6, 7] (fun k s' => ∃ i d : Nat, k = L.length - i ∧ i ≤ L.length ∧
    s' = ⟨[(0, .list 1 [.str [45, 100], .str [c], .str [45, 102], .str b]), (4, .ptr (.sub 0 0 x.p) 0), (5, .list 1 (L.map AV.str)), (6, .str (joinN ((L.take i).map (fieldC c N)))), (7, .int .i64 i)], Mem.of [(.sub 0 0 x.p, .cells [.int .i64 0, .str [], .str []])], d, []⟩) _ ⟨0, _, rfl, Nat.zero_le _, rfl⟩ ?_
  rintro k s' ⟨i, d, rfl, hi, rfl⟩
  (repeat (first | (refine K_ifT rfl rfl ?_) | (refine K_ifF rfl rfl ?_) | (refine K_ev nmd [] hng (by kernel_rfl) fun hf C S K hC1 hC hS hK => ?_; simp (disch := first | omega | assumption) only [go_sem, List.length_map]; (repeat ((first | refine hC1 _ () (by simp (disch := first | omega | assumption) only [go_sem]) ?_); simp (disch := first | omega | assumption) only [go_sem])); refine hK ?_; clear hK hS hC hC1 K S C hf) | ((first | refine zk ?_ | refine zn ?_ | refine ze ?_); with_reducible (constructor; repeat constructor); try refine zl ?_)))
  refine K_ifd rfl rfl (fun hb => ?_) (fun hb => ?_)
  · have hlt : i < L.length := by omega
    have hml := hmem i
    have hout := htk i
    have hnext := map_take_succ (f := fieldC c N) hlt
    have hfr := field_ref c N (by omega) (L.getD i default)
    have hoe := fieldC_len c N (L.getD i default)
    generalize hq : L.getD i default = q at hml hnext hfr hoe
    generalize ho : joinN ((L.take i).map (fieldC c N)) = out at hout hnext
    (repeat (first | (refine K_ifT rfl rfl ?_) | (refine K_ifF rfl rfl ?_) | (refine K_ev nmd [] hng (by kernel_rfl) fun hf C S K hC1 hC hS hK => ?_; simp (disch := first | omega | assumption) only [go_sem, List.length_map, hq]; (repeat ((first | refine hC1 _ (hnum _) (by simp (disch := first | omega | assumption) only [go_sem]) ?_); simp (disch := first | omega | assumption) only [go_sem])); refine hK ?_; clear hK hS hC hC1 K S C hf) | ((first | refine zk ?_ | refine zn ?_ | refine ze ?_); with_reducible (constructor; repeat constructor); try refine zl ?_)))
    refine K_loop [0, 4, 5, 6, 7, 8, 9, 10, 11] (fun k s' => ∃ (j d : Nat) (f : Int) (cur : Str) (had : Bool), k = q.length - j ∧ j ≤ q.length ∧ -(j : Int) ≤ f ∧ f ≤ 9223372036854775807 ∧ cur.length ≤ j ∧ cutR c N q = cur ++ cutR c f (q.drop j) ∧ (had = true ↔ c ∈ q.take j) ∧
      s' = ⟨[(0, .list 1 [.str [45, 100], .str [c], .str [45, 102], .str b]), (4, .ptr (.sub 0 0 x.p) 0), (5, .list 1 (L.map AV.str)), (6, .str out), (7, .int .i64 i), (8, .int .i64 f), (9, .str cur), (10, .bool had), (11, .int .i64 j)], Mem.of [(.sub 0 0 x.p, .cells [.int .i64 0, .str [], .str []])], d, []⟩) _ ⟨0, _, (N : Int), [], false, rfl, Nat.zero_le _, by omega, hrl, Nat.le_refl _, rfl, by simp, rfl⟩ ?_
    rintro k s' ⟨j, d, f, cur, had, rfl, hj, hf1, hf2, hcl, hcut, hhad, rfl⟩
    (repeat (first | (refine K_ifT rfl rfl ?_) | (refine K_ifF rfl rfl ?_) | (refine K_ev nmd [] hng (by kernel_rfl) fun hf C S K hC1 hC hS hK => ?_; simp (disch := first | omega | assumption) only [go_sem, List.length_map, hq]; (repeat ((first | refine hC1 _ () (by simp (disch := first | omega | assumption) only [go_sem]) ?_); simp (disch := first | omega | assumption) only [go_sem])); refine hK ?_; clear hK hS hC hC1 K S C hf) | ((first | refine zk ?_ | refine zn ?_ | refine ze ?_); with_reducible (constructor; repeat constructor); try refine zl ?_)))
    refine K_ifd rfl rfl (fun hb => ?_) (fun hb => ?_)
    · have hjl2 : j < q.length := by omega
      have hdr : q.drop j = q.getD j 0 :: q.drop (j + 1) := drop_cons0 hjl2
      have hone := slice_one hjl2
      have hmt := mem_take_succ (c := c) hjl2
      have hj1 : ((j : Int) + 1).toNat = j + 1 := by omega
      rw [hdr] at hcut
      (try ((first | refine zk ?_ | refine zn ?_ | refine ze ?_); with_reducible (constructor; repeat constructor)); try refine zl ?_)
      refine K_evd nmd [] [] mixed hng (by kernel_rfl) [0, 4, 5, 6, 7, 8, 9, 10, 11, 73] fun hf C S K hC hS hK => ?_; simp (disch := first | omega | assumption) only [go_sem, List.length_map, hq, decide_true, decide_false, ne_eq, not_true_eq_false, not_false_eq_true]
      (repeat' (first | (refine evG_split (fun hv => ?_) (fun hv => ?_) <;> (try simp only [zb1, zb2, zb3, zb4, zb5] at hv) <;> simp (disch := first | omega | assumption) only [go_sem, hv, List.length_map, hq, decide_true, decide_false, ne_eq, not_true_eq_false, not_false_eq_true]) | ((first | refine hK (dynN_quiet rfl) ?_ | refine hK (by simp (disch := first | omega | assumption) only [go_sem, List.reverse_cons, List.reverse_nil, ne_eq, not_false_eq_true, implies_true]) ?_); clear hK hS hC K S C hf)))
      (try ((first | refine zk ?_ | refine zn ?_ | refine ze ?_); with_reducible (constructor; repeat constructor)); try refine zl ?_)
      refine K_ifd rfl rfl (fun hb => ?_) (fun hb => ?_)
      · have he : q.getD j 0 = c := UInt8.toNat_inj.1 (by omega)
        rw [cutR, if_pos he] at hcut
        (repeat (first | (refine K_ifT rfl rfl ?_) | (refine K_ifF rfl rfl ?_) | (refine K_ev nmd [] hng (by kernel_rfl) fun hf C S K hC1 hC hS hK => ?_; simp (disch := first | omega | assumption) only [go_sem]; refine hK ?_; clear hK hS hC hC1 K S C hf) | ((first | refine zk ?_ | refine zn ?_ | refine ze ?_); with_reducible (constructor; repeat constructor); try refine zl ?_)))
        refine ⟨_, _, ?_, fun _ _ h => h, j + 1, _, f - 1, cur, true, rfl, by omega, by omega, by omega, by omega, hcut, ⟨fun _ => hmt.2 (.inr he), fun _ => rfl⟩, rfl⟩
        omega
      · have he : ¬ q.getD j 0 = c := fun e => hb (by rw [e])
        rw [cutR, if_neg he] at hcut
        have hmt2 : c ∈ q.take (j + 1) ↔ c ∈ q.take j := by rw [hmt]; exact ⟨fun h => h.resolve_right he, .inl⟩
        (repeat (first | (refine K_ifT rfl rfl ?_) | (refine K_ifF rfl rfl ?_) | (refine K_ev nmd [] hng (by kernel_rfl) fun hf C S K hC1 hC hS hK => ?_; simp (disch := first | omega | assumption) only [go_sem]; refine hK ?_; clear hK hS hC hC1 K S C hf) | ((first | refine zk ?_ | refine zn ?_ | refine ze ?_); with_reducible (constructor; repeat constructor); try refine zl ?_)))
        refine K_ifd rfl rfl (fun hb => ?_) (fun hb => ?_)
        · rw [if_pos hb] at hcut
          (repeat (first | (refine K_ifT rfl rfl ?_) | (refine K_ifF rfl rfl ?_) | (refine K_ev nmd [] hng (by kernel_rfl) fun hf C S K hC1 hC hS hK => ?_; simp (disch := first | omega | assumption) only [go_sem, List.length_map, hq, hj1, hone]; (repeat ((first | refine hC1 _ () (by simp (disch := first | omega | assumption) only [go_sem]) ?_); simp (disch := first | omega | assumption) only [go_sem])); refine hK ?_; clear hK hS hC hC1 K S C hf) | ((first | refine zk ?_ | refine zn ?_ | refine ze ?_); with_reducible (constructor; repeat constructor); try refine zl ?_)))
          refine ⟨_, _, ?_, fun _ _ h => h, j + 1, d + 1 + 1 + 1 + 1 + 1, f, cur ++ [q.getD j 0], had, rfl, by omega, by omega, by omega, ?_, ?_, by rw [hmt2]; exact hhad, rfl⟩
          · omega
          · rw [List.length_append, List.length_singleton]; omega
          · rw [hcut]; simp
        · rw [if_neg hb] at hcut
          (repeat (first | (refine K_ifT rfl rfl ?_) | (refine K_ifF rfl rfl ?_) | (refine K_ev nmd [] hng (by kernel_rfl) fun hf C S K hC1 hC hS hK => ?_; simp (disch := first | omega | assumption) only [go_sem]; refine hK ?_; clear hK hS hC hC1 K S C hf) | ((first | refine zk ?_ | refine zn ?_ | refine ze ?_); with_reducible (constructor; repeat constructor); try refine zl ?_)))
          refine ⟨_, _, ?_, fun _ _ h => h, j + 1, _, f, cur, had, rfl, by omega, by omega, by omega, by omega, hcut, by rw [hmt2]; exact hhad, rfl⟩
          omega
    · obtain rfl : j = q.length := by omega
      rw [List.take_length] at hhad
      rw [List.drop_length, cutR, List.append_nil] at hcut
      cases had with
      | true =>
        rw [if_pos (hhad.1 rfl), hcut] at hfr
        subst hfr
        (repeat (first | (refine K_ifT rfl rfl ?_) | (refine K_ifF rfl rfl ?_) | (refine K_ev nmd [] hng (by kernel_rfl) fun hf C S K hC1 hC hS hK => ?_; simp (disch := first | omega | assumption) only [go_sem, Bool.not_true]; (repeat ((first | refine hC1 _ () (by simp (disch := first | omega | assumption) only [go_sem]) ?_); simp (disch := first | omega | assumption) only [go_sem])); refine hK ?_; clear hK hS hC hC1 K S C hf) | ((first | refine zk ?_ | refine zn ?_ | refine ze ?_); with_reducible (constructor; repeat constructor); try refine zl ?_)))
        refine ⟨_, _, ?_, fun _ _ h => h, i + 1, d + 1 + 1 + 1 + 1, rfl, by omega, ?_⟩
        · omega
        · rw [hnext]; rfl
      | false =>
        rw [if_neg (fun h => Bool.false_ne_true (hhad.2 h))] at hfr
        rw [← hfr] at hnext
        (repeat (first | (refine K_ifT rfl rfl ?_) | (refine K_ifF rfl rfl ?_) | (refine K_ev nmd [] hng (by kernel_rfl) fun hf C S K hC1 hC hS hK => ?_; simp (disch := first | omega | assumption) only [go_sem, Bool.not_false, List.length_map, hq]; (repeat ((first | refine hC1 _ () (by simp (disch := first | omega | assumption) only [go_sem]) ?_); simp (disch := first | omega | assumption) only [go_sem])); refine hK ?_; clear hK hS hC hC1 K S C hf) | ((first | refine zk ?_ | refine zn ?_ | refine ze ?_); with_reducible (constructor; repeat constructor); try refine zl ?_)))
        refine ⟨_, _, ?_, fun _ _ h => h, i + 1, d + 1 + 1 + 1 + 1 + 1, rfl, by omega, ?_⟩
        · omega
        · rw [hnext]; rfl
  · obtain rfl : i = L.length := by omega
    rw [List.take_length]
    (repeat (first | (refine K_ifT rfl rfl ?_) | (refine K_ifF rfl rfl ?_) | (refine K_ev nmd [] hng (by kernel_rfl) fun hf C S K hC1 hC hS hK => ?_; simp (disch := first | omega | assumption) only [go_sem]; refine hK ?_; clear hK hS hC hC1 K S C hf) | ((first | refine zk ?_ | refine zn ?_ | refine ze ?_); with_reducible (constructor; repeat constructor); try refine zl ?_)))
    exact K_ret (done_plain (by simp (disch := first | omega | assumption) only [go_sem, Res.av, toldR, badR, usageR]))
theorem cut_cases (args : List Str) : (∃ c b, args = [[45, 100], [c], [45, 102], b]) ∨ ¬ args.length = 4 ∨ ∃ a s f b, args = [a, s, f, b] ∧ (¬ a = [45, 100] ∨ (a = [45, 100] ∧ ¬ s.length = 1) ∨ (a = [45, 100] ∧ s.length = 1 ∧ ¬ f = [45, 102])) := by
  match args with
  | [] => exact .inr (.inl (by simp))
  | [a] => exact .inr (.inl (by simp))
  | [a, b] => exact .inr (.inl (by simp))
  | [a, b, c] => exact .inr (.inl (by simp))
  | a :: b :: c :: d :: e :: r => exact .inr (.inl (by simp))
  | [a, s, f, b] =>
    by_cases h1 : a = [45, 100]
    · by_cases h2 : s.length = 1
      · by_cases h3 : f = [45, 102]
        · match s, h2 with
          | [c], _ => exact .inl ⟨c, b, by rw [h1, h3]⟩
        · exact .inr (.inr ⟨a, s, f, b, rfl, .inr (.inr ⟨h1, h2, h3⟩)⟩)
      · exact .inr (.inr ⟨a, s, f, b, rfl, .inr (.inl ⟨h1, h2⟩)⟩)
    · exact .inr (.inr ⟨a, s, f, b, rfl, .inl h1⟩)
theorem cut_bad (args : List Str) (t : Str) (h : ¬ args.length = 4 ∨ ∃ a s f b, args = [a, s, f, b] ∧ (¬ a = [45, 100] ∨ (a = [45, 100] ∧ ¬ s.length = 1) ∨ (a = [45, 100] ∧ s.length = 1 ∧ ¬ f = [45, 102]))) (p : Oid) :
    CallOK Tryz.prog 35 [.list 1 (args.map AV.str), .str t] (Oid.under p) ⟨[], .tuple [badR.av, .bool false], []⟩ := by
  rcases h with h | ⟨a, s, f, b, rfl, h | ⟨rfl, h⟩ | ⟨rfl, h1, h⟩⟩
  · have hz : ((args.length : Int) = 4) = False := eq_false (by omega)
    refine fnOK (n := 93) (rs := [.cell 4 32, .tmp 5]) Tryz.func35 rfl rfl (by decide) rfl rfl rfl ?_; rintro x rfl hrd hng
    (try ((first | refine zk ?_ | refine zn ?_ | refine ze ?_); with_reducible (constructor; repeat constructor)); try refine zl ?_)
    refine K_ev nmd [] hng (by kernel_rfl) fun hf C S K hC1 hC hS hK => ?_; simp (disch := first | omega | assumption) only [go_sem]
    refine hK ?_; clear hK hS hC hC1 K S C hf
    (try ((first | refine zk ?_ | refine zn ?_ | refine ze ?_); with_reducible (constructor; repeat constructor)); try refine zl ?_)
    refine K_ev nmd [(3, 15), (9, 21), (16, 28)] hng (by kernel_rfl) fun hf C S K hC1 hC hS hK => ?_; simp (disch := first | omega | assumption) only [go_sem, List.length_map, hz, decide_true, decide_false, ne_eq, not_true_eq_false, not_false_eq_true]
    (repeat' (first | (refine evG_split (fun hv => ?_) (fun hv => ?_) <;> (try simp only [zb1, zb2, zb3, zb4, zb5] at hv) <;> simp (disch := first | omega | assumption) only [go_sem, hv, List.length_map, hz, decide_true, decide_false, ne_eq, not_true_eq_false, not_false_eq_true]) | (refine hK ?_; clear hK hS hC hC1 K S C hf)))
    all_goals first | contradiction | (exact absurd rfl hv) | (exact absurd hv (by omega)) | skip
    (repeat (first | (refine K_ifT rfl rfl ?_) | (refine K_ifF rfl rfl ?_) | (refine K_ev nmd [] hng (by kernel_rfl) fun hf C S K hC1 hC hS hK => ?_; simp (disch := first | omega | assumption) only [go_sem]; (repeat ((first | refine hC1 _ (bad_x _) (by simp (disch := first | omega | assumption) only [go_sem]) ?_); simp (disch := first | omega | assumption) only [go_sem])); refine hK ?_; clear hK hS hC hC1 K S C hf) | ((first | refine zk ?_ | refine zn ?_ | refine ze ?_); with_reducible (constructor; repeat constructor); try refine zl ?_)))
    exact K_ret (done_plain (by simp (disch := first | omega | assumption) only [go_sem, Res.av, badR]))
  · have hz : (a = [45, 100]) = False := eq_false h
    refine fnOK (n := 93) (rs := [.cell 4 32, .tmp 5]) Tryz.func35 rfl rfl (by decide) rfl rfl rfl ?_; rintro x rfl hrd hng
    (try ((first | refine zk ?_ | refine zn ?_ | refine ze ?_); with_reducible (constructor; repeat constructor)); try refine zl ?_)
    refine K_ev nmd [] hng (by kernel_rfl) fun hf C S K hC1 hC hS hK => ?_; simp (disch := first | omega | assumption) only [go_sem]
    refine hK ?_; clear hK hS hC hC1 K S C hf
    (try ((first | refine zk ?_ | refine zn ?_ | refine ze ?_); with_reducible (constructor; repeat constructor)); try refine zl ?_)
    refine K_ev nmd [(3, 15), (9, 21), (16, 28)] hng (by kernel_rfl) fun hf C S K hC1 hC hS hK => ?_; simp (disch := first | omega | assumption) only [go_sem, hz, decide_true, decide_false, ne_eq, not_true_eq_false, not_false_eq_true]
    (repeat' (first | (refine evG_split (fun hv => ?_) (fun hv => ?_) <;> (try simp only [zb1, zb2, zb3, zb4, zb5] at hv) <;> simp (disch := first | omega | assumption) only [go_sem, hv, hz, decide_true, decide_false, ne_eq, not_true_eq_false, not_false_eq_true]) | (refine hK ?_; clear hK hS hC hC1 K S C hf)))
    all_goals first | contradiction | (exact absurd rfl hv) | (exact absurd hv (by omega)) | skip
    (repeat (first | (refine K_ifT rfl rfl ?_) | (refine K_ifF rfl rfl ?_) | (refine K_ev nmd [] hng (by kernel_rfl) fun hf C S K hC1 hC hS hK => ?_; simp (disch := first | omega | assumption) only [go_sem]; (repeat ((first | refine hC1 _ (bad_x _) (by simp (disch := first | omega | assumption) only [go_sem]) ?_); simp (disch := first | omega | assumption) only [go_sem])); refine hK ?_; clear hK hS hC hC1 K S C hf) | ((first | refine zk ?_ | refine zn ?_ | refine ze ?_); with_reducible (constructor; repeat constructor); try refine zl ?_)))
    exact K_ret (done_plain (by simp (disch := first | omega | assumption) only [go_sem, Res.av, badR]))
  · have hz : ((s.length : Int) = 1) = False := eq_false (by omega)
    refine fnOK (n := 93) (rs := [.cell 4 32, .tmp 5]) Tryz.func35 rfl rfl (by decide) rfl rfl rfl ?_; rintro x rfl hrd hng
    (try ((first | refine zk ?_ | refine zn ?_ | refine ze ?_); with_reducible (constructor; repeat constructor)); try refine zl ?_)
    refine K_ev nmd [] hng (by kernel_rfl) fun hf C S K hC1 hC hS hK => ?_; simp (disch := first | omega | assumption) only [go_sem]
    refine hK ?_; clear hK hS hC hC1 K S C hf
    (try ((first | refine zk ?_ | refine zn ?_ | refine ze ?_); with_reducible (constructor; repeat constructor)); try refine zl ?_)
    refine K_ev nmd [(3, 15), (9, 21), (16, 28)] hng (by kernel_rfl) fun hf C S K hC1 hC hS hK => ?_; simp (disch := first | omega | assumption) only [go_sem, hz, decide_true, decide_false, ne_eq, not_true_eq_false, not_false_eq_true]
    (repeat' (first | (refine evG_split (fun hv => ?_) (fun hv => ?_) <;> (try simp only [zb1, zb2, zb3, zb4, zb5] at hv) <;> simp (disch := first | omega | assumption) only [go_sem, hv, hz, decide_true, decide_false, ne_eq, not_true_eq_false, not_false_eq_true]) | (refine hK ?_; clear hK hS hC hC1 K S C hf)))
    all_goals first | contradiction | (exact absurd rfl hv) | (exact absurd hv (by omega)) | skip
    (repeat (first | (refine K_ifT rfl rfl ?_) | (refine K_ifF rfl rfl ?_) | (refine K_ev nmd [] hng (by kernel_rfl) fun hf C S K hC1 hC hS hK => ?_; simp (disch := first | omega | assumption) only [go_sem]; (repeat ((first | refine hC1 _ (bad_x _) (by simp (disch := first | omega | assumption) only [go_sem]) ?_); simp (disch := first | omega | assumption) only [go_sem])); refine hK ?_; clear hK hS hC hC1 K S C hf) | ((first | refine zk ?_ | refine zn ?_ | refine ze ?_); with_reducible (constructor; repeat constructor); try refine zl ?_)))
    exact K_ret (done_plain (by simp (disch := first | omega | assumption) only [go_sem, Res.av, badR]))
  · have hz : (f = [45, 102]) = False := eq_false h
    have hs : ((s.length : Int) = 1) = True := eq_true (by omega)
    refine fnOK (n := 93) (rs := [.cell 4 32, .tmp 5]) Tryz.func35 rfl rfl (by decide) rfl rfl rfl ?_; rintro x rfl hrd hng
    (try ((first | refine zk ?_ | refine zn ?_ | refine ze ?_); with_reducible (constructor; repeat constructor)); try refine zl ?_)
    refine K_ev nmd [] hng (by kernel_rfl) fun hf C S K hC1 hC hS hK => ?_; simp (disch := first | omega | assumption) only [go_sem]
    refine hK ?_; clear hK hS hC hC1 K S C hf
    (try ((first | refine zk ?_ | refine zn ?_ | refine ze ?_); with_reducible (constructor; repeat constructor)); try refine zl ?_)
    refine K_ev nmd [(3, 15), (9, 21), (16, 28)] hng (by kernel_rfl) fun hf C S K hC1 hC hS hK => ?_; simp (disch := first | omega | assumption) only [go_sem, hz, hs, decide_true, decide_false, ne_eq, not_true_eq_false, not_false_eq_true]
    (repeat' (first | (refine evG_split (fun hv => ?_) (fun hv => ?_) <;> (try simp only [zb1, zb2, zb3, zb4, zb5] at hv) <;> simp (disch := first | omega | assumption) only [go_sem, hv, hz, hs, decide_true, decide_false, ne_eq, not_true_eq_false, not_false_eq_true]) | (refine hK ?_; clear hK hS hC hC1 K S C hf)))
    all_goals first | contradiction | (exact absurd rfl hv) | (exact absurd hv (by omega)) | skip
    (repeat (first | (refine K_ifT rfl rfl ?_) | (refine K_ifF rfl rfl ?_) | (refine K_ev nmd [] hng (by kernel_rfl) fun hf C S K hC1 hC hS hK => ?_; simp (disch := first | omega | assumption) only [go_sem]; (repeat ((first | refine hC1 _ (bad_x _) (by simp (disch := first | omega | assumption) only [go_sem]) ?_); simp (disch := first | omega | assumption) only [go_sem])); refine hK ?_; clear hK hS hC hC1 K S C hf) | ((first | refine zk ?_ | refine zn ?_ | refine ze ?_); with_reducible (constructor; repeat constructor); try refine zl ?_)))
    exact K_ret (done_plain (by simp (disch := first | omega | assumption) only [go_sem, Res.av, badR]))
theorem cutRef_bad (args : List Str) (t : Str) (h : ¬ args.length = 4 ∨ ∃ a s f b, args = [a, s, f, b] ∧ (¬ a = [45, 100] ∨ (a = [45, 100] ∧ ¬ s.length = 1) ∨ (a = [45, 100] ∧ s.length = 1 ∧ ¬ f = [45, 102]))) (p : Oid) :
    CallOK Tryz.prog 46 [.list 1 (args.map AV.str), .str t] (Oid.under p) ⟨[], (usageR [99, 117, 116]).av, []⟩ := by
  have hu := fun p => usageR_ok [99, 117, 116] (by decide) p
  simp only [Res.av, usageR] at hu
  rcases h with h | ⟨a, s, f, b, rfl, h | ⟨rfl, h⟩ | ⟨rfl, h1, h⟩⟩
  · have hz : ((args.length : Int) = 4) = False := eq_false (by omega)
    refine fnOK (n := 100) (rs := [.cell 4 32]) Tryz.func46 rfl rfl (by decide) rfl rfl rfl ?_; rintro x rfl hrd hng
    (try ((first | refine zk ?_ | refine zn ?_ | refine ze ?_); with_reducible (constructor; repeat constructor)); try refine zl ?_)
    refine K_ev nmd [] hng (by kernel_rfl) fun hf C S K hC1 hC hS hK => ?_; simp (disch := first | omega | assumption) only [go_sem]
    refine hK ?_; clear hK hS hC hC1 K S C hf
    (try ((first | refine zk ?_ | refine zn ?_ | refine ze ?_); with_reducible (constructor; repeat constructor)); try refine zl ?_)
    refine K_ev nmd [(3, 15), (9, 21), (16, 28), (22, 34)] hng (by kernel_rfl) fun hf C S K hC1 hC hS hK => ?_; simp (disch := first | omega | assumption) only [go_sem, List.length_map, hz, decide_true, decide_false, ne_eq, not_true_eq_false, not_false_eq_true]
    (repeat' (first | (refine evG_split (fun hv => ?_) (fun hv => ?_) <;> (try simp only [zb1, zb2, zb3, zb4, zb5] at hv) <;> simp (disch := first | omega | assumption) only [go_sem, hv, List.length_map, hz, decide_true, decide_false, ne_eq, not_true_eq_false, not_false_eq_true]) | (refine hK ?_; clear hK hS hC hC1 K S C hf)))
    all_goals first | contradiction | (exact absurd rfl hv) | (exact absurd hv (by omega)) | skip
    (repeat (first | (refine K_ifT rfl rfl ?_) | (refine K_ifF rfl rfl ?_) | (refine K_ev nmd [] hng (by kernel_rfl) fun hf C S K hC1 hC hS hK => ?_; simp (disch := first | omega | assumption) only [go_sem]; (repeat ((first | refine hC1 _ (hu _) (by simp (disch := first | omega | assumption) only [go_sem]) ?_); simp (disch := first | omega | assumption) only [go_sem])); refine hK ?_; clear hK hS hC hC1 K S C hf) | ((first | refine zk ?_ | refine zn ?_ | refine ze ?_); with_reducible (constructor; repeat constructor); try refine zl ?_)))
    exact K_ret (done_plain (by simp (disch := first | omega | assumption) only [go_sem, Res.av, toldR, badR, usageR]))
  · have hz : (a = [45, 100]) = False := eq_false h
    refine fnOK (n := 100) (rs := [.cell 4 32]) Tryz.func46 rfl rfl (by decide) rfl rfl rfl ?_; rintro x rfl hrd hng
    (try ((first | refine zk ?_ | refine zn ?_ | refine ze ?_); with_reducible (constructor; repeat constructor)); try refine zl ?_)
    refine K_ev nmd [] hng (by kernel_rfl) fun hf C S K hC1 hC hS hK => ?_; simp (disch := first | omega | assumption) only [go_sem]
    refine hK ?_; clear hK hS hC hC1 K S C hf
    (try ((first | refine zk ?_ | refine zn ?_ | refine ze ?_); with_reducible (constructor; repeat constructor)); try refine zl ?_)
    refine K_ev nmd [(3, 15), (9, 21), (16, 28), (22, 34)] hng (by kernel_rfl) fun hf C S K hC1 hC hS hK => ?_; simp (disch := first | omega | assumption) only [go_sem, hz, decide_true, decide_false, ne_eq, not_true_eq_false, not_false_eq_true]
    (repeat' (first | (refine evG_split (fun hv => ?_) (fun hv => ?_) <;> (try simp only [zb1, zb2, zb3, zb4, zb5] at hv) <;> simp (disch := first | omega | assumption) only [go_sem, hv, hz, decide_true, decide_false, ne_eq, not_true_eq_false, not_false_eq_true]) | (refine hK ?_; clear hK hS hC hC1 K S C hf)))
    all_goals first | contradiction | (exact absurd rfl hv) | (exact absurd hv (by omega)) | skip
    (repeat (first | (refine K_ifT rfl rfl ?_) | (refine K_ifF rfl rfl ?_) | (refine K_ev nmd [] hng (by kernel_rfl) fun hf C S K hC1 hC hS hK => ?_; simp (disch := first | omega | assumption) only [go_sem]; (repeat ((first | refine hC1 _ (hu _) (by simp (disch := first | omega | assumption) only [go_sem]) ?_); simp (disch := first | omega | assumption) only [go_sem])); refine hK ?_; clear hK hS hC hC1 K S C hf) | ((first | refine zk ?_ | refine zn ?_ | refine ze ?_); with_reducible (constructor; repeat constructor); try refine zl ?_)))
    exact K_ret (done_plain (by simp (disch := first | omega | assumption) only [go_sem, Res.av, toldR, badR, usageR]))
  · have hz : ((s.length : Int) = 1) = False := eq_false (by omega)
    refine fnOK (n := 100) (rs := [.cell 4 32]) Tryz.func46 rfl rfl (by decide) rfl rfl rfl ?_; rintro x rfl hrd hng
    (try ((first | refine zk ?_ | refine zn ?_ | refine ze ?_); with_reducible (constructor; repeat constructor)); try refine zl ?_)
    refine K_ev nmd [] hng (by kernel_rfl) fun hf C S K hC1 hC hS hK => ?_; simp (disch := first | omega | assumption) only [go_sem]
    refine hK ?_; clear hK hS hC hC1 K S C hf
    (try ((first | refine zk ?_ | refine zn ?_ | refine ze ?_); with_reducible (constructor; repeat constructor)); try refine zl ?_)
    refine K_ev nmd [(3, 15), (9, 21), (16, 28), (22, 34)] hng (by kernel_rfl) fun hf C S K hC1 hC hS hK => ?_; simp (disch := first | omega | assumption) only [go_sem, hz, decide_true, decide_false, ne_eq, not_true_eq_false, not_false_eq_true]
    (repeat' (first | (refine evG_split (fun hv => ?_) (fun hv => ?_) <;> (try simp only [zb1, zb2, zb3, zb4, zb5] at hv) <;> simp (disch := first | omega | assumption) only [go_sem, hv, hz, decide_true, decide_false, ne_eq, not_true_eq_false, not_false_eq_true]) | (refine hK ?_; clear hK hS hC hC1 K S C hf)))
    all_goals first | contradiction | (exact absurd rfl hv) | (exact absurd hv (by omega)) | skip
    (repeat (first | (refine K_ifT rfl rfl ?_) | (refine K_ifF rfl rfl ?_) | (refine K_ev nmd [] hng (by kernel_rfl) fun hf C S K hC1 hC hS hK => ?_; simp (disch := first | omega | assumption) only [go_sem]; (repeat ((first | refine hC1 _ (hu _) (by simp (disch := first | omega | assumption) only [go_sem]) ?_); simp (disch := first | omega | assumption) only [go_sem])); refine hK ?_; clear hK hS hC hC1 K S C hf) | ((first | refine zk ?_ | refine zn ?_ | refine ze ?_); with_reducible (constructor; repeat constructor); try refine zl ?_)))
    exact K_ret (done_plain (by simp (disch := first | omega | assumption) only [go_sem, Res.av, toldR, badR, usageR]))
  · have hz : (f = [45, 102]) = False := eq_false h
    have hs : ((s.length : Int) = 1) = True := eq_true (by omega)
    refine fnOK (n := 100) (rs := [.cell 4 32]) Tryz.func46 rfl rfl (by decide) rfl rfl rfl ?_; rintro x rfl hrd hng
    (try ((first | refine zk ?_ | refine zn ?_ | refine ze ?_); with_reducible (constructor; repeat constructor)); try refine zl ?_)
    refine K_ev nmd [] hng (by kernel_rfl) fun hf C S K hC1 hC hS hK => ?_; simp (disch := first | omega | assumption) only [go_sem]
    refine hK ?_; clear hK hS hC hC1 K S C hf
    (try ((first | refine zk ?_ | refine zn ?_ | refine ze ?_); with_reducible (constructor; repeat constructor)); try refine zl ?_)
    refine K_ev nmd [(3, 15), (9, 21), (16, 28), (22, 34)] hng (by kernel_rfl) fun hf C S K hC1 hC hS hK => ?_; simp (disch := first | omega | assumption) only [go_sem, hz, hs, decide_true, decide_false, ne_eq, not_true_eq_false, not_false_eq_true]
    (repeat' (first | (refine evG_split (fun hv => ?_) (fun hv => ?_) <;> (try simp only [zb1, zb2, zb3, zb4, zb5] at hv) <;> simp (disch := first | omega | assumption) only [go_sem, hv, hz, hs, decide_true, decide_false, ne_eq, not_true_eq_false, not_false_eq_true]) | (refine hK ?_; clear hK hS hC hC1 K S C hf)))
    all_goals first | contradiction | (exact absurd rfl hv) | (exact absurd hv (by omega)) | skip
    (repeat (first | (refine K_ifT rfl rfl ?_) | (refine K_ifF rfl rfl ?_) | (refine K_ev nmd [] hng (by kernel_rfl) fun hf C S K hC1 hC hS hK => ?_; simp (disch := first | omega | assumption) only [go_sem]; (repeat ((first | refine hC1 _ (hu _) (by simp (disch := first | omega | assumption) only [go_sem]) ?_); simp (disch := first | omega | assumption) only [go_sem])); refine hK ?_; clear hK hS hC hC1 K S C hf) | ((first | refine zk ?_ | refine zn ?_ | refine ze ?_); with_reducible (constructor; repeat constructor); try refine zl ?_)))
    exact K_ret (done_plain (by simp (disch := first | omega | assumption) only [go_sem, Res.av, toldR, badR, usageR]))
theorem cut_few (c : UInt8) (b t : Str) (hbl : b.length ≤ 4000000) (h : ¬ 1 ≤ refN b) (p : Oid) (hp : p.mono = false) :
    CallOK Tryz.prog 35 [.list 1 [.str [45, 100], .str [c], .str [45, 102], .str b], .str t] (Oid.under p) ⟨[], .tuple [badR.av, .bool false], []⟩ := by
  have hnum := fun p hp => number_ok b (by omega) p hp
  have hz : (refN b < 1) = True := eq_true (by omega)
  cases hg : numG b with
  | false =>
    rw [hg] at hnum
    refine fnOK (n := 93) (rs := [.cell 4 32, .tmp 5]) Tryz.func35 rfl rfl (by decide) rfl rfl rfl ?_; rintro x rfl hrd hng
    (try ((first | refine zk ?_ | refine zn ?_ | refine ze ?_); with_reducible (constructor; repeat constructor)); try refine zl ?_)
    refine K_ev nmd [] hng (by kernel_rfl) fun hf C S K hC1 hC hS hK => ?_; simp (disch := first | omega | assumption) only [go_sem]
    refine hK ?_; clear hK hS hC hC1 K S C hf
    (try ((first | refine zk ?_ | refine zn ?_ | refine ze ?_); with_reducible (constructor; repeat constructor)); try refine zl ?_)
    refine K_ev nmd [(3, 15), (9, 21), (16, 28)] hng (by kernel_rfl) fun hf C S K hC1 hC hS hK => ?_; simp (disch := first | omega | assumption) only [go_sem, decide_true, decide_false, ne_eq, not_true_eq_false, not_false_eq_true]
    (repeat' (first | (refine evG_split (fun hv => ?_) (fun hv => ?_) <;> (try simp only [zb1, zb2, zb3, zb4, zb5] at hv) <;> simp (disch := first | omega | assumption) only [go_sem, hv, decide_true, decide_false, ne_eq, not_true_eq_false, not_false_eq_true]) | (refine hK ?_; clear hK hS hC hC1 K S C hf)))
    all_goals first | exact absurd rfl hv | skip
    (repeat (first | (refine K_ifT rfl rfl ?_) | (refine K_ifF rfl rfl ?_) | (refine K_ev nmd [] hng (by kernel_rfl) fun hf C S K hC1 hC hS hK => ?_; simp (disch := first | omega | assumption) only [go_sem]; (repeat ((first | refine hC1 _ (hnum _ (mono_sub' rfl hp)) (by simp (disch := first | omega | assumption) only [go_sem]) ?_); simp (disch := first | omega | assumption) only [go_sem])); refine hK ?_; clear hK hS hC hC1 K S C hf) | ((first | refine zk ?_ | refine zn ?_ | refine ze ?_); with_reducible (constructor; repeat constructor); try refine zl ?_)))
    refine K_ev nmd [(2, 46)] hng (by kernel_rfl) fun hf C S K hC1 hC hS hK => ?_; simp (disch := first | omega | assumption) only [go_sem, decide_true, decide_false, ne_eq, not_true_eq_false, not_false_eq_true]
    (repeat' (first | (refine evG_split (fun hv => ?_) (fun hv => ?_) <;> (try simp only [zb1, zb2, zb3, zb4, zb5] at hv) <;> simp (disch := first | omega | assumption) only [go_sem, hv, decide_true, decide_false, ne_eq, not_true_eq_false, not_false_eq_true]) | (refine hK ?_; clear hK hS hC hC1 K S C hf)))
    all_goals first | contradiction | skip
    (repeat (first | (refine K_ifT rfl rfl ?_) | (refine K_ifF rfl rfl ?_) | (refine K_ev nmd [] hng (by kernel_rfl) fun hf C S K hC1 hC hS hK => ?_; simp (disch := first | omega | assumption) only [go_sem]; (repeat ((first | refine hC1 _ (bad_x _) (by simp (disch := first | omega | assumption) only [go_sem]) ?_); simp (disch := first | omega | assumption) only [go_sem])); refine hK ?_; clear hK hS hC hC1 K S C hf) | ((first | refine zk ?_ | refine zn ?_ | refine ze ?_); with_reducible (constructor; repeat constructor); try refine zl ?_)))
    exact K_ret (done_plain (by simp (disch := first | omega | assumption) only [go_sem, Res.av, badR]))
  | true =>
    rw [(num_ref b).2 hg, hg] at hnum
    refine fnOK (n := 93) (rs := [.cell 4 32, .tmp 5]) Tryz.func35 rfl rfl (by decide) rfl rfl rfl ?_; rintro x rfl hrd hng
    (try ((first | refine zk ?_ | refine zn ?_ | refine ze ?_); with_reducible (constructor; repeat constructor)); try refine zl ?_)
    refine K_ev nmd [] hng (by kernel_rfl) fun hf C S K hC1 hC hS hK => ?_; simp (disch := first | omega | assumption) only [go_sem]
    refine hK ?_; clear hK hS hC hC1 K S C hf
    (try ((first | refine zk ?_ | refine zn ?_ | refine ze ?_); with_reducible (constructor; repeat constructor)); try refine zl ?_)
    refine K_ev nmd [(3, 15), (9, 21), (16, 28)] hng (by kernel_rfl) fun hf C S K hC1 hC hS hK => ?_; simp (disch := first | omega | assumption) only [go_sem, decide_true, decide_false, ne_eq, not_true_eq_false, not_false_eq_true]
    (repeat' (first | (refine evG_split (fun hv => ?_) (fun hv => ?_) <;> (try simp only [zb1, zb2, zb3, zb4, zb5] at hv) <;> simp (disch := first | omega | assumption) only [go_sem, hv, decide_true, decide_false, ne_eq, not_true_eq_false, not_false_eq_true]) | (refine hK ?_; clear hK hS hC hC1 K S C hf)))
    all_goals first | exact absurd rfl hv | skip
    (repeat (first | (refine K_ifT rfl rfl ?_) | (refine K_ifF rfl rfl ?_) | (refine K_ev nmd [] hng (by kernel_rfl) fun hf C S K hC1 hC hS hK => ?_; simp (disch := first | omega | assumption) only [go_sem]; (repeat ((first | refine hC1 _ (hnum _ (mono_sub' rfl hp)) (by simp (disch := first | omega | assumption) only [go_sem]) ?_); simp (disch := first | omega | assumption) only [go_sem])); refine hK ?_; clear hK hS hC hC1 K S C hf) | ((first | refine zk ?_ | refine zn ?_ | refine ze ?_); with_reducible (constructor; repeat constructor); try refine zl ?_)))
    refine K_ev nmd [(2, 46)] hng (by kernel_rfl) fun hf C S K hC1 hC hS hK => ?_; simp (disch := first | omega | assumption) only [go_sem, hz, decide_true, decide_false, ne_eq, not_true_eq_false, not_false_eq_true]
    (repeat' (first | (refine evG_split (fun hv => ?_) (fun hv => ?_) <;> (try simp only [zb1, zb2, zb3, zb4, zb5] at hv) <;> simp (disch := first | omega | assumption) only [go_sem, hv, hz, decide_true, decide_false, ne_eq, not_true_eq_false, not_false_eq_true]) | (refine hK ?_; clear hK hS hC hC1 K S C hf)))
    all_goals first | contradiction | skip
    (repeat (first | (refine K_ifT rfl rfl ?_) | (refine K_ifF rfl rfl ?_) | (refine K_ev nmd [] hng (by kernel_rfl) fun hf C S K hC1 hC hS hK => ?_; simp (disch := first | omega | assumption) only [go_sem]; (repeat ((first | refine hC1 _ (bad_x _) (by simp (disch := first | omega | assumption) only [go_sem]) ?_); simp (disch := first | omega | assumption) only [go_sem])); refine hK ?_; clear hK hS hC hC1 K S C hf) | ((first | refine zk ?_ | refine zn ?_ | refine ze ?_); with_reducible (constructor; repeat constructor); try refine zl ?_)))
    exact K_ret (done_plain (by simp (disch := first | omega | assumption) only [go_sem, Res.av, badR]))
theorem cutRef_few (c : UInt8) (b t : Str) (hbl : b.length ≤ 4000000) (h : ¬ 1 ≤ refN b) (p : Oid) :
    CallOK Tryz.prog 46 [.list 1 [.str [45, 100], .str [c], .str [45, 102], .str b], .str t] (Oid.under p) ⟨[], (usageR [99, 117, 116]).av, []⟩ := by
  have hnum := fun p => numberR_ok b (by omega) p
  have hz : (refN b < 1) = True := eq_true (by omega)
  have hu := fun p => usageR_ok [99, 117, 116] (by decide) p
  simp only [Res.av, usageR] at hu
  refine fnOK (n := 100) (rs := [.cell 4 32]) Tryz.func46 rfl rfl (by decide) rfl rfl rfl ?_; rintro x rfl hrd hng
  (try ((first | refine zk ?_ | refine zn ?_ | refine ze ?_); with_reducible (constructor; repeat constructor)); try refine zl ?_)
  refine K_ev nmd [] hng (by kernel_rfl) fun hf C S K hC1 hC hS hK => ?_; simp (disch := first | omega | assumption) only [go_sem]
  refine hK ?_; clear hK hS hC hC1 K S C hf
  (try ((first | refine zk ?_ | refine zn ?_ | refine ze ?_); with_reducible (constructor; repeat constructor)); try refine zl ?_)
  refine K_ev nmd [(3, 15), (9, 21), (16, 28), (22, 34)] hng (by kernel_rfl) fun hf C S K hC1 hC hS hK => ?_; simp (disch := first | omega | assumption) only [go_sem, decide_true, decide_false, ne_eq, not_true_eq_false, not_false_eq_true]
  (repeat' (first | (refine evG_split (fun hv => ?_) (fun hv => ?_) <;> (try simp only [zb1, zb2, zb3, zb4, zb5] at hv) <;> simp (disch := first | omega | assumption) only [go_sem, hv, hz, decide_true, decide_false, ne_eq, not_true_eq_false, not_false_eq_true]) | (refine hC1 _ (hnum _) (by simp (disch := first | omega | assumption) only [go_sem, hz, decide_true, decide_false, ne_eq, not_true_eq_false, not_false_eq_true]) ?_; simp (disch := first | omega | assumption) only [go_sem, hz, decide_true, decide_false, ne_eq, not_true_eq_false, not_false_eq_true]) | (refine hK ?_; clear hK hS hC hC1 K S C hf)))
  all_goals first | exact absurd rfl hv | skip
  (repeat (first | (refine K_ifT rfl rfl ?_) | (refine K_ifF rfl rfl ?_) | (refine K_ev nmd [] hng (by kernel_rfl) fun hf C S K hC1 hC hS hK => ?_; simp (disch := first | omega | assumption) only [go_sem]; (repeat ((first | refine hC1 _ (hu _) (by simp (disch := first | omega | assumption) only [go_sem]) ?_); simp (disch := first | omega | assumption) only [go_sem])); refine hK ?_; clear hK hS hC hC1 K S C hf) | ((first | refine zk ?_ | refine zn ?_ | refine ze ?_); with_reducible (constructor; repeat constructor); try refine zl ?_)))
  exact K_ret (done_plain (by simp (disch := first | omega | assumption) only [go_sem, Res.av, toldR, badR, usageR]))
end Go.Proofs.YtiaiggbimlbkfaaGreatDoor
namespace Go.Proofs.YtiaiggbimlbkfaaGreatDoor
open Go Go.Ab
set_option maxRecDepth 20000
set_option maxHeartbeats 4000000
theorem runR_cut (args : List Str) (t : Str) (r : Res) (hU : ∀ p, CallOK Tryz.prog 46 [.list 1 (args.map AV.str), .str t] (Oid.under p) ⟨[], r.av, []⟩) (p : Oid) :
    CallOK Tryz.prog 26 [.list 1 ((([99, 117, 116] : Str) :: args).map AV.str), .str t] (Oid.under p) ⟨[], .tuple [r.av, .bool true], []⟩ := by
  obtain ⟨st, out, err⟩ := r
  simp only [Res.av] at hU
  refine fnOK (n := 90) (rs := [.cell 4 32, .tmp 5]) Tryz.func26 rfl rfl (by decide) rfl rfl rfl ?_; rintro x rfl hrd hng
  (repeat (first | (refine K_ifT rfl rfl ?_) | (refine K_ifF rfl rfl ?_) | (refine K_ev nmd [] hng (by kernel_rfl) fun hf C S K hC1 hC hS hK => ?_; simp (disch := first | omega | assumption) only [go_sem]; refine hK ?_; clear hK hS hC hC1 K S C hf) | ((first | refine zk ?_ | refine zn ?_ | refine ze ?_); with_reducible (constructor; repeat constructor); try refine zl ?_)))
  refine K_evd nmd [] [] mixed hng (by kernel_rfl) [1, 4, 6, 7] fun hf C S K hC hS hK => ?_; simp (disch := first | omega | assumption) only [go_sem]
  (first | refine hK (dynN_quiet rfl) ?_ | refine hK (by simp (disch := first | omega | assumption) only [go_sem, List.reverse_cons, List.reverse_nil, ne_eq, not_false_eq_true, implies_true]) ?_); clear hK hS hC K S C hf
  (repeat (first | (refine K_ifT rfl rfl ?_) | (refine K_ifF rfl rfl ?_) | (refine K_ev nmd [] hng (by kernel_rfl) fun hf C S K hC1 hC hS hK => ?_; simp (disch := first | omega | assumption) only [go_sem]; (repeat ((first | refine hC1 _ (hU _) (by simp (disch := first | omega | assumption) only [go_sem]) ?_); simp (disch := first | omega | assumption) only [go_sem])); refine hK ?_; clear hK hS hC hC1 K S C hf) | ((first | refine zk ?_ | refine zn ?_ | refine ze ?_); with_reducible (constructor; repeat constructor); try refine zl ?_)))
  exact K_ret (done_plain (by simp (disch := first | omega | assumption) only [go_sem, Res.av, toldR, badR, usageR]))
theorem same_cut (args : List Str) (t : Str) (ha : ∀ s ∈ args, s.length ≤ 4000000) (ht : t.length ≤ 4000000) (p : Oid) (hp : p.mono = false) :
    CallOK Tryz.prog 17 [.list 1 ((([99, 117, 116] : Str) :: args).map AV.str), .str t] (Oid.under p) ⟨[], .bool true, []⟩ := by
  rcases cut_cases args with ⟨c, b, rfl⟩ | h
  · have hb := ha b (by simp)
    by_cases hn : 1 ≤ refN b
    · exact same_of _ t _ true (fun p hp => run_any ([99, 117, 116] : Str) (by decide) [[45, 100], [c], [45, 102], b] t 35 (by kernel_rfl) (by kernel_rfl) (toldR (joinN ((linesL t).map (fieldC c (refN b).toNat)))) true p (fun p hp => cut_ok c b t hb ht hn p hp) hp)
        (fun p => runR_cut [[45, 100], [c], [45, 102], b] t _ (fun p => cutRef_ok c b t hb ht hn p) p) p hp
    · exact same_of _ t _ true (fun p hp => run_any ([99, 117, 116] : Str) (by decide) [[45, 100], [c], [45, 102], b] t 35 (by kernel_rfl) (by kernel_rfl) badR false p (fun p hp => cut_few c b t hb hn p hp) hp)
        (fun p => runR_cut [[45, 100], [c], [45, 102], b] t _ (fun p => cutRef_few c b t hb hn p) p) p hp
  · exact same_of _ t _ true (fun p hp => run_any ([99, 117, 116] : Str) (by decide) args t 35 (by kernel_rfl) (by kernel_rfl) badR false p (fun p _ => cut_bad args t h p) hp)
      (fun p => runR_cut args t _ (fun p => cutRef_bad args t h p) p) p hp
end Go.Proofs.YtiaiggbimlbkfaaGreatDoor
namespace Go.Proofs.YtiaiggbimlbkfaaGreatDoor
open Go Go.Ab
set_option maxRecDepth 20000
set_option maxHeartbeats 4000000
theorem tail13_ok (n : Nat) (hn : (n : Int) ≤ 9223372036854775807) : ∀ p : Oid, CallOK Tryz.prog 99 [.int .i64 n] (Oid.under p) ⟨[], .str (Lib.decDigits n), []⟩ := by
  induction n using Nat.strongRecOn with
  | ind n ih =>
    intro p
    have h10 : (n : Int).tmod 10 = ((n % 10 : Nat) : Int) := tmod_nat n 10
    have h11 : (n : Int).tdiv 10 = ((n / 10 : Nat) : Int) := tdiv_nat n 10
    have hd : IntKind.u8.wrap (48 + ((n % 10 : Nat) : Int)) = ((UInt8.ofNat (48 + n % 10)).toNat : Int) := by
      rw [w8 (by omega) (by omega), UInt8.toNat_ofNat']; omega
    have hz : (((n % 10 : Nat) : Int) < 0) = False := eq_false (by omega)
    have hlen := decDigits_len (n / 10) (by omega)
    refine fnOK (n := 25) (rs := [.tmp 2]) Tryz.func99 rfl rfl (by decide) rfl rfl rfl ?_; rintro x rfl hrd hng
    (repeat (first | (refine K_ifT rfl rfl ?_) | (refine K_ifF rfl rfl ?_) | (refine K_ev nmd [] hng (by kernel_rfl) fun hf C S K hC1 hC hS hK => ?_; simp (disch := first | omega | assumption) only [go_sem, h10, hz, decide_true, decide_false, ne_eq, not_true_eq_false, not_false_eq_true]; (repeat ((first | refine hC1 _ () (by simp (disch := first | omega | assumption) only [go_sem]) ?_); simp (disch := first | omega | assumption) only [go_sem])); refine hK ?_; clear hK hS hC hC1 K S C hf) | ((first | refine zk ?_ | refine zn ?_ | refine ze ?_); with_reducible (constructor; repeat constructor); try refine zl ?_)))
    refine K_ev nmd [] hng (by kernel_rfl) fun hf C S K hC1 hC hS hK => ?_; simp (disch := first | omega | assumption) only [go_sem, hd, byteOK_int]
    refine hK ?_; clear hK hS hC hC1 K S C hf
    (repeat (first | (refine K_ifT rfl rfl ?_) | (refine K_ifF rfl rfl ?_) | (refine K_ev nmd [] hng (by kernel_rfl) fun hf C S K hC1 hC hS hK => ?_; simp (disch := first | omega | assumption) only [go_sem, h11]; (repeat ((first | refine hC1 _ () (by simp (disch := first | omega | assumption) only [go_sem]) ?_); simp (disch := first | omega | assumption) only [go_sem])); refine hK ?_; clear hK hS hC hC1 K S C hf) | ((first | refine zk ?_ | refine zn ?_ | refine ze ?_); with_reducible (constructor; repeat constructor); try refine zl ?_)))
    refine K_ifd rfl rfl (fun hb => ?_) (fun hb => ?_)
    · (repeat (first | (refine K_ifT rfl rfl ?_) | (refine K_ifF rfl rfl ?_) | (refine K_ev nmd [] hng (by kernel_rfl) fun hf C S K hC1 hC hS hK => ?_; simp (disch := first | omega | assumption) only [go_sem]; refine hK ?_; clear hK hS hC hC1 K S C hf) | ((first | refine zk ?_ | refine zn ?_ | refine ze ?_); with_reducible (constructor; repeat constructor); try refine zl ?_)))
      exact K_ret (done1 (congrArg AV.str (by rw [Lib.decDigits, dif_pos (by omega)]; congr 2; rw [Nat.mod_eq_of_lt (by omega)])))
    · (try ((first | refine zk ?_ | refine zn ?_ | refine ze ?_); with_reducible (constructor; repeat constructor)); try refine zl ?_)
      refine K_ev nmd [] hng (by kernel_rfl) fun hf C S K hC1 hC hS hK => ?_; simp (disch := first | omega | assumption) only [go_sem, h11]
      refine hC1 _ (ih (n / 10) (by omega) (by omega) _) (by simp (disch := first | omega | assumption) only [go_sem]) ?_
      simp (disch := first | omega | assumption) only [go_sem]
      refine hK ?_; clear hK hS hC hC1 K S C hf
      (repeat (first | (refine K_ifT rfl rfl ?_) | (refine K_ifF rfl rfl ?_) | (refine K_ev nmd [] hng (by kernel_rfl) fun hf C S K hC1 hC hS hK => ?_; simp (disch := first | omega | assumption) only [go_sem]; refine hK ?_; clear hK hS hC hC1 K S C hf) | ((first | refine zk ?_ | refine zn ?_ | refine ze ?_); with_reducible (constructor; repeat constructor); try refine zl ?_)))
      exact K_ret (done1 (congrArg AV.str (by rw [Lib.decDigits.eq_def n, dif_neg (by omega)])))
theorem digits13_ok (n : Nat) (hn : (n : Int) ≤ 9223372036854775807) (p : Oid) : CallOK Tryz.prog 81 [.int .i64 n] (Oid.under p) ⟨[], .str (Lib.decDigits n), []⟩ := by
  have hz : ((n : Int) < 0) = False := eq_false (by omega)
  refine fnOK (n := 10) (rs := [.tmp 2]) Tryz.func81 rfl rfl (by decide) rfl rfl rfl ?_; rintro x rfl hrd hng
  (repeat (first | (refine K_ifT rfl rfl ?_) | (refine K_ifF rfl rfl ?_) | (refine K_ev nmd [] hng (by kernel_rfl) fun hf C S K hC1 hC hS hK => ?_; simp (disch := first | omega | assumption) only [go_sem, hz, decide_true, decide_false, ne_eq, not_true_eq_false, not_false_eq_true]; (repeat ((first | refine hC1 _ (tail13_ok n hn _) (by simp (disch := first | omega | assumption) only [go_sem]) ?_); simp (disch := first | omega | assumption) only [go_sem])); refine hK ?_; clear hK hS hC hC1 K S C hf) | ((first | refine zk ?_ | refine zn ?_ | refine ze ?_); with_reducible (constructor; repeat constructor); try refine zl ?_)))
  exact K_ret (done1 rfl)
theorem itoaN_ok (n : Nat) (hn : (n : Int) ≤ 9223372036854775807) (p : Oid) (hp : p.mono = false) : CallOK Tryz.prog 58 [.int .i64 n] (Oid.under p) ⟨[], .str (Lib.decDigits n), []⟩ := by
  have := itoa_ok (n : Int) (by omega) hn p hp
  rwa [Lib.itoa_nonneg] at this
theorem equal_ok (l1 l2 : List Str) (h1 : l1.length ≤ 4000000000) (p : Oid) :
    CallOK Tryz.prog 68 [.list 1 (l1.map AV.str), .list 1 (l2.map AV.str)] (Oid.under p) ⟨[], .bool (decide (l1 = l2)), []⟩ := by
  refine fnOK (n := 26) (rs := [.tmp 4]) Tryz.func68 rfl rfl (by decide) rfl rfl rfl ?_; rintro x rfl hrd hng
  (repeat (first | (refine K_ifT rfl rfl ?_) | (refine K_ifF rfl rfl ?_) | (refine K_ev nmd [] hng (by kernel_rfl) fun hf C S K hC1 hC hS hK => ?_; simp (disch := first | omega | assumption) only [go_sem, List.length_map]; (repeat ((first | refine hC1 _ () (by simp (disch := first | omega | assumption) only [go_sem]) ?_); simp (disch := first | omega | assumption) only [go_sem])); refine hK ?_; clear hK hS hC hC1 K S C hf) | ((first | refine zk ?_ | refine zn ?_ | refine ze ?_); with_reducible (constructor; repeat constructor); try refine zl ?_)))
  refine K_ifd rfl rfl (fun hb => ?_) (fun hb => ?_)
  · have hne : ¬ l1 = l2 := fun e => hb (by rw [e])
    rw [decide_eq_false hne]
    (repeat (first | (refine K_ifT rfl rfl ?_) | (refine K_ifF rfl rfl ?_) | (refine K_ev nmd [] hng (by kernel_rfl) fun hf C S K hC1 hC hS hK => ?_; simp (disch := first | omega | assumption) only [go_sem]; refine hK ?_; clear hK hS hC hC1 K S C hf) | ((first | refine zk ?_ | refine zn ?_ | refine ze ?_); with_reducible (constructor; repeat constructor); try refine zl ?_)))
    exact K_ret (done1 rfl)
  · have hlen : l1.length = l2.length := by omega
    (repeat (first | (refine K_ifT rfl rfl ?_) | (refine K_ifF rfl rfl ?_) | (refine K_ev nmd [] hng (by kernel_rfl) fun hf C S K hC1 hC hS hK => ?_; simp (disch := first | omega | assumption) only [go_sem, List.length_map]; (repeat ((first | refine hC1 _ () (by simp (disch := first | omega | assumption) only [go_sem]) ?_); simp (disch := first | omega | assumption) only [go_sem])); refine hK ?_; clear hK hS hC hC1 K S C hf) | ((first | refine zk ?_ | refine zn ?_ | refine ze ?_); with_reducible (constructor; repeat constructor); try refine zl ?_)))
    refine K_loop [0, 1, 12, 13] (fun k s' => ∃ i c : Nat, k = l1.length - i ∧ i ≤ l1.length ∧ l1.take i = l2.take i ∧
      s' = ⟨[(0, .list 1 (l1.map AV.str)), (1, .list 1 (l2.map AV.str)), (12, .int .i64 l1.length), (13, .int .i64 i)], Mem.of [], c, []⟩) _ ⟨0, _, rfl, Nat.zero_le _, by simp, rfl⟩ ?_
    rintro k s' ⟨i, c, rfl, hi, heq, rfl⟩
    (repeat (first | (refine K_ifT rfl rfl ?_) | (refine K_ifF rfl rfl ?_) | (refine K_ev nmd [] hng (by kernel_rfl) fun hf C S K hC1 hC hS hK => ?_; simp (disch := first | omega | assumption) only [go_sem]; refine hK ?_; clear hK hS hC hC1 K S C hf) | ((first | refine zk ?_ | refine zn ?_ | refine ze ?_); with_reducible (constructor; repeat constructor); try refine zl ?_)))
    refine K_ifd rfl rfl (fun hb => ?_) (fun hb => ?_)
    · have hlt : i < l1.length := by omega
      have hlt2 : i < l2.length := by omega
      (repeat (first | (refine K_ifT rfl rfl ?_) | (refine K_ifF rfl rfl ?_) | (refine K_ev nmd [] hng (by kernel_rfl) fun hf C S K hC1 hC hS hK => ?_; simp (disch := first | omega | assumption) only [go_sem]; refine hK ?_; clear hK hS hC hC1 K S C hf) | ((first | refine zk ?_ | refine zn ?_ | refine ze ?_); with_reducible (constructor; repeat constructor); try refine zl ?_)))
      refine K_evd nmd [] [] mixed hng (by kernel_rfl) [0, 1, 12, 13, 24] fun hf C S K hC hS hK => ?_; simp (disch := first | omega | assumption) only [go_sem, List.length_map, decide_true, decide_false, ne_eq, not_true_eq_false, not_false_eq_true]
      (repeat' (first | (refine evG_split (fun hv => ?_) (fun hv => ?_) <;> (try simp only [zb1, zb2, zb3, zb4, zb5] at hv) <;> simp (disch := first | omega | assumption) only [go_sem, hv, List.length_map, decide_true, decide_false, ne_eq, not_true_eq_false, not_false_eq_true]) | ((first | refine hK (dynN_quiet rfl) ?_ | refine hK (by simp (disch := first | omega | assumption) only [go_sem, List.reverse_cons, List.reverse_nil, ne_eq, not_false_eq_true, implies_true]) ?_); clear hK hS hC K S C hf)))
      (try ((first | refine zk ?_ | refine zn ?_ | refine ze ?_); with_reducible (constructor; repeat constructor)); try refine zl ?_)
      refine K_ifd rfl rfl (fun hb => ?_) (fun hb => ?_)
      · have hne : ¬ l1 = l2 := fun e => hb (by rw [e])
        rw [decide_eq_false hne]
        (repeat (first | (refine K_ifT rfl rfl ?_) | (refine K_ifF rfl rfl ?_) | (refine K_ev nmd [] hng (by kernel_rfl) fun hf C S K hC1 hC hS hK => ?_; simp (disch := first | omega | assumption) only [go_sem]; refine hK ?_; clear hK hS hC hC1 K S C hf) | ((first | refine zk ?_ | refine zn ?_ | refine ze ?_); with_reducible (constructor; repeat constructor); try refine zl ?_)))
        exact K_ret (done1 rfl)
      · have he : l1.getD i default = l2.getD i default := Classical.not_not.1 hb
        (repeat (first | (refine K_ifT rfl rfl ?_) | (refine K_ifF rfl rfl ?_) | (refine K_ev nmd [] hng (by kernel_rfl) fun hf C S K hC1 hC hS hK => ?_; simp (disch := first | omega | assumption) only [go_sem]; refine hK ?_; clear hK hS hC hC1 K S C hf) | ((first | refine zk ?_ | refine zn ?_ | refine ze ?_); with_reducible (constructor; repeat constructor); try refine zl ?_)))
        refine ⟨_, _, ?_, fun _ _ h => h, i + 1, _, rfl, by omega, ?_, rfl⟩
        · omega
        · rw [List.take_add_one, List.take_add_one, heq, List.getElem?_eq_getElem hlt, List.getElem?_eq_getElem hlt2]
          rw [List.getD_eq_getElem?_getD, List.getD_eq_getElem?_getD, List.getElem?_eq_getElem hlt, List.getElem?_eq_getElem hlt2] at he
          simp only [Option.getD_some] at he
          rw [he]
    · obtain rfl : i = l1.length := by omega
      have he : l1 = l2 := by rwa [List.take_length, hlen, List.take_length] at heq
      rw [decide_eq_true he]
      (repeat (first | (refine K_ifT rfl rfl ?_) | (refine K_ifF rfl rfl ?_) | (refine K_ev nmd [] hng (by kernel_rfl) fun hf C S K hC1 hC hS hK => ?_; simp (disch := first | omega | assumption) only [go_sem]; refine hK ?_; clear hK hS hC hC1 K S C hf) | ((first | refine zk ?_ | refine zn ?_ | refine ze ?_); with_reducible (constructor; repeat constructor); try refine zl ?_)))
      exact K_ret (done1 rfl)
end Go.Proofs.YtiaiggbimlbkfaaGreatDoor
namespace Go.Proofs.YtiaiggbimlbkfaaGreatDoor
open Go Go.Ab
set_option maxRecDepth 20000
set_option maxHeartbeats 4000000
/-- n more of the first. -/
def addN (n : Nat) : List (Nat × Str) → List (Nat × Str)
  | [] => []
  | q :: g => (q.1 + n, q.2) :: g
theorem addN_addX (n m : Nat) (x : Str) (g : List (Nat × Str)) : addN n (addX m x g) = addX (m + n) x g := by
  cases g with
  | nil => rfl
  | cons q g =>
    by_cases he : q.2 = x
    · rw [addX, if_pos he, addX, if_pos he, addN, Nat.add_assoc]
    · rw [addX, if_neg he, addX, if_neg he, addN]
theorem addN_zero (g : List (Nat × Str)) : addN 0 g = g := by cases g <;> rfl
def UniqV (args : List Str) (cnt : Bool) : Prop := (args = [] ∧ cnt = false) ∨ (args = [[45, 99]] ∧ cnt = true)
theorem uniq_cases (args : List Str) : (∃ cnt, UniqV args cnt) ∨ (¬ args.length = 0 ∧ ¬ args = [[45, 99]]) := by
  by_cases h0 : args = []
  · exact .inl ⟨false, .inl ⟨h0, rfl⟩⟩
  · by_cases h1 : args = [[45, 99]]
    · exact .inl ⟨true, .inr ⟨h1, rfl⟩⟩
    · exact .inr ⟨fun e => h0 (List.eq_nil_of_length_eq_zero e), h1⟩
theorem str_drop_cons {l : List Str} {i : Nat} (h : i < l.length) : l.drop i = l.getD i default :: l.drop (i + 1) := by
  rw [List.drop_eq_getElem_cons h, List.getD_eq_getElem?_getD, List.getElem?_eq_getElem h]; rfl
theorem unique_ok (args : List Str) (cnt : Bool) (h : UniqV args cnt) (t : Str) (htl : t.length ≤ 4000000) (p : Oid) :
    CallOK Tryz.prog 45 [.list 1 (args.map AV.str), .str t] (Oid.under p) ⟨[], (toldR (runsT cnt (grp (linesL t)))).av, []⟩ := by
  have hjl := joinN_lines t
  have hjn := joinN_len (linesL t)
  have hrl := runsT_len cnt (linesL t)
  generalize hL : linesL t = L at hjl hjn hrl ⊢
  generalize hT : runsT cnt (grp L) = tot at hrl ⊢
  refine fnOK (n := 69) (rs := [.cell 4 32]) Tryz.func45 rfl rfl (by decide) rfl rfl rfl ?_; rintro x rfl hrd hng
  (try ((first | refine zk ?_ | refine zn ?_ | refine ze ?_); with_reducible (constructor; repeat constructor)); try refine zl ?_)
  refine K_ev nmd [] hng (by kernel_rfl) fun hf C S K hC1 hC hS hK => ?_; simp (disch := first | omega | assumption) only [go_sem]
  refine hK ?_; clear hK hS hC hC1 K S C hf
  (try ((first | refine zk ?_ | refine zn ?_ | refine ze ?_); with_reducible (constructor; repeat constructor)); try refine zl ?_)
  refine K_cut [0, 1, 4, 5] (fun s' => ∃ c : Nat, s' = ⟨[(0, .list 1 (args.map AV.str)), (1, .str t), (4, .ptr (.sub 0 0 x.p) 0), (5, .bool cnt)], Mem.of [(.sub 0 0 x.p, .cells [.int .i64 0, .str [], .str []])], c, []⟩) ?_ ?_
  · rcases h with ⟨rfl, rfl⟩ | ⟨rfl, rfl⟩
    · refine K_ev nmd [(3, 13)] hng (by kernel_rfl) fun hf C S K hC1 hC hS hK => ?_; simp (disch := first | omega | assumption) only [go_sem, decide_true, decide_false, ne_eq, not_true_eq_false, not_false_eq_true]
      (repeat' (first | (refine evG_split (fun hv => ?_) (fun hv => ?_) <;> (try simp only [zb1, zb2, zb3, zb4, zb5] at hv) <;> simp (disch := first | omega | assumption) only [go_sem, hv, decide_true, decide_false, ne_eq, not_true_eq_false, not_false_eq_true]) | (refine hK ?_; clear hK hS hC hC1 K S C hf)))
      all_goals first | contradiction | exact K_cutN ⟨_, rfl⟩
    · refine K_ev nmd [(3, 13)] hng (by kernel_rfl) fun hf C S K hC1 hC hS hK => ?_; simp (disch := first | omega | assumption) only [go_sem, decide_true, decide_false, ne_eq, not_true_eq_false, not_false_eq_true]
      (repeat' (first | (refine evG_split (fun hv => ?_) (fun hv => ?_) <;> (try simp only [zb1, zb2, zb3, zb4, zb5] at hv) <;> simp (disch := first | omega | assumption) only [go_sem, hv, decide_true, decide_false, ne_eq, not_true_eq_false, not_false_eq_true]) | (refine hK ?_; clear hK hS hC hC1 K S C hf)))
      all_goals first | contradiction | exact absurd rfl hv | exact K_cutN ⟨_, rfl⟩
  rintro s' ⟨c, rfl⟩
  (try ((first | refine zk ?_ | refine zn ?_ | refine ze ?_); with_reducible (constructor; repeat constructor)); try refine zl ?_)
  refine K_cut [1, 4, 5, 25] (fun s' => ∃ c : Nat, s' = ⟨[(1, .str t), (4, .ptr (.sub 0 0 x.p) 0), (5, .bool cnt), (25, .bool false)], Mem.of [(.sub 0 0 x.p, .cells [.int .i64 0, .str [], .str []])], c, []⟩) ?_ ?_
  · rcases h with ⟨rfl, rfl⟩ | ⟨rfl, rfl⟩
    · refine K_ev nmd [(3, 22)] hng (by kernel_rfl) fun hf C S K hC1 hC hS hK => ?_; simp (disch := first | omega | assumption) only [go_sem, decide_true, decide_false, ne_eq, not_true_eq_false, not_false_eq_true]
      (repeat' (first | (refine evG_split (fun hv => ?_) (fun hv => ?_) <;> (try simp only [zb1, zb2, zb3, zb4, zb5] at hv) <;> simp (disch := first | omega | assumption) only [go_sem, hv, decide_true, decide_false, ne_eq, not_true_eq_false, not_false_eq_true]) | (refine hK ?_; clear hK hS hC hC1 K S C hf)))
      all_goals first | contradiction | exact K_cutN ⟨_, rfl⟩
    · refine K_ev nmd [(3, 22)] hng (by kernel_rfl) fun hf C S K hC1 hC hS hK => ?_; simp (disch := first | omega | assumption) only [go_sem, decide_true, decide_false, ne_eq, not_true_eq_false, not_false_eq_true]
      (repeat' (first | (refine evG_split (fun hv => ?_) (fun hv => ?_) <;> (try simp only [zb1, zb2, zb3, zb4, zb5] at hv) <;> simp (disch := first | omega | assumption) only [go_sem, hv, decide_true, decide_false, ne_eq, not_true_eq_false, not_false_eq_true]) | (refine hK ?_; clear hK hS hC hC1 K S C hf)))
      all_goals first | contradiction | exact absurd rfl hv | exact K_cutN ⟨_, rfl⟩
  rintro s' ⟨c, rfl⟩
  have hlr := fun p => linesR_ok t (by omega) p
  rw [hL] at hlr
  (repeat (first | (refine K_ifT rfl rfl ?_) | (refine K_ifF rfl rfl ?_) | (refine K_ev nmd [] hng (by kernel_rfl) fun hf C S K hC1 hC hS hK => ?_; simp (disch := first | omega | assumption) only [go_sem]; (repeat ((first | refine hC1 _ (hlr _) (by simp (disch := first | omega | assumption) only [go_sem]) ?_); simp (disch := first | omega | assumption) only [go_sem])); refine hK ?_; clear hK hS hC hC1 K S C hf) | ((first | refine zk ?_ | refine zn ?_ | refine ze ?_); with_reducible (constructor; repeat constructor); try refine zl ?_)))
  refine K_loop [4, 5, 6, 7, 8, 9] (fun k s' => ∃ (i nn c : Nat) (out : Str), k = L.length - i ∧ i ≤ L.length ∧ nn ≤ i ∧ tot = out ++ runsT cnt (addN nn (grp (L.drop i))) ∧
    s' = ⟨[(4, .ptr (.sub 0 0 x.p) 0), (5, .bool cnt), (6, .list 1 (L.map AV.str)), (7, .str out), (8, .int .i64 (nn : Int)), (9, .int .i64 i)], Mem.of [(.sub 0 0 x.p, .cells [.int .i64 0, .str [], .str []])], c, []⟩) _ ⟨0, 0, _, [], rfl, Nat.zero_le _, Nat.le_refl _, by rw [addN_zero, List.drop_zero, hT]; rfl, rfl⟩ ?_
  rintro k s' ⟨i, nn, c, out, rfl, hi, hnn, htot, rfl⟩
  (repeat (first | (refine K_ifT rfl rfl ?_) | (refine K_ifF rfl rfl ?_) | (refine K_ev nmd [] hng (by kernel_rfl) fun hf C S K hC1 hC hS hK => ?_; simp (disch := first | omega | assumption) only [go_sem, List.length_map]; (repeat ((first | refine hC1 _ () (by simp (disch := first | omega | assumption) only [go_sem]) ?_); simp (disch := first | omega | assumption) only [go_sem])); refine hK ?_; clear hK hS hC hC1 K S C hf) | ((first | refine zk ?_ | refine zn ?_ | refine ze ?_); with_reducible (constructor; repeat constructor); try refine zl ?_)))
  refine K_ifd rfl rfl (fun hb => ?_) (fun hb => ?_)
  · have hlt : i < L.length := by omega
    have hdr := str_drop_cons hlt
    rw [hdr, grp, addN_addX] at htot
    generalize hq : L.getD i default = q at hdr htot
    (repeat (first | (refine K_ifT rfl rfl ?_) | (refine K_ifF rfl rfl ?_) | (refine K_ev nmd [] hng (by kernel_rfl) fun hf C S K hC1 hC hS hK => ?_; simp (disch := first | omega | assumption) only [go_sem]; refine hK ?_; clear hK hS hC hC1 K S C hf) | ((first | refine zk ?_ | refine zn ?_ | refine ze ?_); with_reducible (constructor; repeat constructor); try refine zl ?_)))
    refine K_cut [4, 5, 6, 7, 8, 9, 53] (fun s' => ∃ (b : Bool) (c' : Nat), s' = ⟨[(4, .ptr (.sub 0 0 x.p) 0), (5, .bool cnt), (6, .list 1 (L.map AV.str)), (7, .str out), (8, .int .i64 ((nn : Int) + 1)), (9, .int .i64 i), (53, .bool b)], Mem.of [(.sub 0 0 x.p, .cells [.int .i64 0, .str [], .str []])], c', []⟩ ∧ (b = true ↔ (i + 1 < L.length ∧ L.getD (i + 1) default = q))) ?_ ?_
    · have hi1 : ((i : Int) + 1).toNat = i + 1 := by omega
      refine K_evd nmd [(5, 42)] [] mixed hng (by kernel_rfl) [4, 5, 6, 7, 8, 9, 53] fun hf C S K hC hS hK => ?_; simp (disch := first | omega | assumption) only [go_sem, List.length_map, hi1, hq, decide_true, decide_false, ne_eq, not_true_eq_false, not_false_eq_true]
      (repeat' (first | (refine evG_split (fun hv => ?_) (fun hv => ?_) <;> (try simp only [zb1, zb2, zb3, zb4, zb5] at hv) <;> simp (disch := first | omega | assumption) only [go_sem, hv, List.length_map, hi1, hq, decide_true, decide_false, ne_eq, not_true_eq_false, not_false_eq_true]) | ((first | refine hK (dynN_quiet rfl) ?_ | refine hK (by simp (disch := first | omega | assumption) only [go_sem, List.reverse_cons, List.reverse_nil, ne_eq, not_false_eq_true, implies_true]) ?_); clear hK hS hC K S C hf)))
      all_goals first
        | contradiction
        | exact K_cutN ⟨_, _, rfl, by simp only [decide_eq_true_eq]; exact ⟨fun h => ⟨by omega, h⟩, fun h => h.2⟩⟩
        | exact K_cutN ⟨_, _, rfl, by simp only [Bool.false_eq_true, false_iff]; omega⟩
    rintro s' ⟨b, c', rfl, hiff⟩
    refine K_if rfl rfl (fun hb => ?_) (fun hb => ?_)
    · obtain ⟨h1, h2⟩ := hiff.1 hb
      have hd2 := str_drop_cons h1
      rw [h2] at hd2
      (repeat (first | (refine K_ifT rfl rfl ?_) | (refine K_ifF rfl rfl ?_) | (refine K_ev nmd [] hng (by kernel_rfl) fun hf C S K hC1 hC hS hK => ?_; simp (disch := first | omega | assumption) only [go_sem]; refine hK ?_; clear hK hS hC hC1 K S C hf) | ((first | refine zk ?_ | refine zn ?_ | refine ze ?_); with_reducible (constructor; repeat constructor); try refine zl ?_)))
      refine ⟨_, _, ?_, fun _ _ h => h, i + 1, nn + 1, c' + 1, out, rfl, by omega, by omega, ?_, ?_⟩
      · omega
      · rw [htot, hd2, grp, addX_add, addN_addX]; congr 3
      · rfl
    · have hne : ∀ y r, L.drop (i + 1) = y :: r → ¬ y = q := fun y r hy e => by
        have h1 : i + 1 < L.length := by
          have := congrArg List.length hy
          rw [List.length_drop, List.length_cons] at this; omega
        rw [str_drop_cons h1, List.cons.injEq] at hy
        rw [hiff.2 ⟨h1, by rw [hy.1, e]⟩] at hb; cases hb
      rw [addX_new hne] at htot
      have hlen := congrArg List.length htot
      cases cnt with
      | true =>
        simp only [runsT, if_true] at htot hlen
        simp only [List.length_append, List.length_singleton] at hlen
        have hc1 : ((nn : Int) + 1) = ((1 + nn : Nat) : Int) := by omega
        rw [hc1]
        (repeat (first | (refine K_ifT rfl rfl ?_) | (refine K_ifF rfl rfl ?_) | (refine K_ev nmd [] hng (by kernel_rfl) fun hf C S K hC1 hC hS hK => ?_; simp (disch := first | omega | assumption) only [go_sem, List.length_map, hq]; (repeat ((first | refine hC1 _ (digits13_ok (1 + nn) (by omega) _) (by simp (disch := first | omega | assumption) only [go_sem]) ?_); simp (disch := first | omega | assumption) only [go_sem])); refine hK ?_; clear hK hS hC hC1 K S C hf) | ((first | refine zk ?_ | refine zn ?_ | refine ze ?_); with_reducible (constructor; repeat constructor); try refine zl ?_)))
        refine ⟨_, _, ?_, fun _ _ h => h, i + 1, 0, c' + 1 + 1 + 1 + 1 + 1, out ++ Lib.decDigits (1 + nn) ++ [32] ++ q ++ [10], rfl, by omega, by omega, ?_, ?_⟩
        · omega
        · rw [addN_zero, htot]; simp
        · rfl
      | false =>
        simp only [runsT, Bool.false_eq_true, if_false, List.nil_append] at htot hlen
        simp only [List.length_append, List.length_singleton] at hlen
        (repeat (first | (refine K_ifT rfl rfl ?_) | (refine K_ifF rfl rfl ?_) | (refine K_ev nmd [] hng (by kernel_rfl) fun hf C S K hC1 hC hS hK => ?_; simp (disch := first | omega | assumption) only [go_sem, List.length_map, hq]; (repeat ((first | refine hC1 _ () (by simp (disch := first | omega | assumption) only [go_sem]) ?_); simp (disch := first | omega | assumption) only [go_sem])); refine hK ?_; clear hK hS hC hC1 K S C hf) | ((first | refine zk ?_ | refine zn ?_ | refine ze ?_); with_reducible (constructor; repeat constructor); try refine zl ?_)))
        refine ⟨_, _, ?_, fun _ _ h => h, i + 1, 0, c' + 1 + 1 + 1 + 1, out ++ q ++ [10], rfl, by omega, by omega, ?_, ?_⟩
        · omega
        · rw [addN_zero, htot]; simp
        · rfl
  · obtain rfl : i = L.length := by omega
    rw [List.drop_length] at htot
    simp only [grp, addN, runsT, List.append_nil] at htot
    subst htot
    (repeat (first | (refine K_ifT rfl rfl ?_) | (refine K_ifF rfl rfl ?_) | (refine K_ev nmd [] hng (by kernel_rfl) fun hf C S K hC1 hC hS hK => ?_; simp (disch := first | omega | assumption) only [go_sem]; refine hK ?_; clear hK hS hC hC1 K S C hf) | ((first | refine zk ?_ | refine zn ?_ | refine ze ?_); with_reducible (constructor; repeat constructor); try refine zl ?_)))
    exact K_ret (done_plain (by simp (disch := first | omega | assumption) only [go_sem, Res.av, toldR, badR, usageR]))
theorem unique_bad (args : List Str) (h : ¬ args.length = 0 ∧ ¬ args = [[45, 99]]) (t : Str) (p : Oid) :
    CallOK Tryz.prog 45 [.list 1 (args.map AV.str), .str t] (Oid.under p) ⟨[], (usageR [117, 110, 105, 113]).av, []⟩ := by
  have hu := fun p => usageR_ok [117, 110, 105, 113] (by decide) p
  simp only [Res.av, usageR] at hu
  have hz0 : (0 < (args.length : Int)) = True := eq_true (by omega)
  refine fnOK (n := 69) (rs := [.cell 4 32]) Tryz.func45 rfl rfl (by decide) rfl rfl rfl ?_; rintro x rfl hrd hng
  (try ((first | refine zk ?_ | refine zn ?_ | refine ze ?_); with_reducible (constructor; repeat constructor)); try refine zl ?_)
  refine K_ev nmd [] hng (by kernel_rfl) fun hf C S K hC1 hC hS hK => ?_; simp (disch := first | omega | assumption) only [go_sem]
  refine hK ?_; clear hK hS hC hC1 K S C hf
  (try ((first | refine zk ?_ | refine zn ?_ | refine ze ?_); with_reducible (constructor; repeat constructor)); try refine zl ?_)
  refine K_cut [0, 1, 4, 5] (fun s' => ∃ c : Nat, s' = ⟨[(0, .list 1 (args.map AV.str)), (1, .str t), (4, .ptr (.sub 0 0 x.p) 0), (5, .bool false)], Mem.of [(.sub 0 0 x.p, .cells [.int .i64 0, .str [], .str []])], c, []⟩) ?_ ?_
  · by_cases h1 : args.length = 1
    · match args, h1, h with
      | [a], _, h =>
        have ha : (a = [45, 99]) = False := eq_false fun e => h.2 (by rw [e])
        refine K_ev nmd [(3, 13)] hng (by kernel_rfl) fun hf C S K hC1 hC hS hK => ?_; simp (disch := first | omega | assumption) only [go_sem, ha, decide_true, decide_false, ne_eq, not_true_eq_false, not_false_eq_true]
        (repeat' (first | (refine evG_split (fun hv => ?_) (fun hv => ?_) <;> (try simp only [zb1, zb2, zb3, zb4, zb5] at hv) <;> simp (disch := first | omega | assumption) only [go_sem, hv, ha, decide_true, decide_false, ne_eq, not_true_eq_false, not_false_eq_true]) | (refine hK ?_; clear hK hS hC hC1 K S C hf)))
        all_goals first | contradiction | exact absurd rfl hv | exact K_cutN ⟨_, rfl⟩
    · have hz1 : ((args.length : Int) = 1) = False := eq_false (by omega)
      refine K_ev nmd [(3, 13)] hng (by kernel_rfl) fun hf C S K hC1 hC hS hK => ?_; simp (disch := first | omega | assumption) only [go_sem, List.length_map, hz1, decide_true, decide_false, ne_eq, not_true_eq_false, not_false_eq_true]
      (repeat' (first | (refine evG_split (fun hv => ?_) (fun hv => ?_) <;> (try simp only [zb1, zb2, zb3, zb4, zb5] at hv) <;> simp (disch := first | omega | assumption) only [go_sem, hv, List.length_map, hz1, decide_true, decide_false, ne_eq, not_true_eq_false, not_false_eq_true]) | (refine hK ?_; clear hK hS hC hC1 K S C hf)))
      all_goals first | contradiction | exact absurd rfl hv | exact K_cutN ⟨_, rfl⟩
  rintro s' ⟨c, rfl⟩
  (try ((first | refine zk ?_ | refine zn ?_ | refine ze ?_); with_reducible (constructor; repeat constructor)); try refine zl ?_)
  refine K_ev nmd [(3, 22)] hng (by kernel_rfl) fun hf C S K hC1 hC hS hK => ?_; simp (disch := first | omega | assumption) only [go_sem, List.length_map, hz0, decide_true, decide_false, ne_eq, not_true_eq_false, not_false_eq_true]
  (repeat' (first | (refine evG_split (fun hv => ?_) (fun hv => ?_) <;> (try simp only [zb1, zb2, zb3, zb4, zb5] at hv) <;> simp (disch := first | omega | assumption) only [go_sem, hv, List.length_map, hz0, decide_true, decide_false, ne_eq, not_true_eq_false, not_false_eq_true]) | (refine hK ?_; clear hK hS hC hC1 K S C hf)))
  all_goals first | contradiction | skip
  (repeat (first | (refine K_ifT rfl rfl ?_) | (refine K_ifF rfl rfl ?_) | (refine K_ev nmd [] hng (by kernel_rfl) fun hf C S K hC1 hC hS hK => ?_; simp (disch := first | omega | assumption) only [go_sem]; (repeat ((first | refine hC1 _ (hu _) (by simp (disch := first | omega | assumption) only [go_sem]) ?_); simp (disch := first | omega | assumption) only [go_sem])); refine hK ?_; clear hK hS hC hC1 K S C hf) | ((first | refine zk ?_ | refine zn ?_ | refine ze ?_); with_reducible (constructor; repeat constructor); try refine zl ?_)))
  exact K_ret (done_plain (by simp (disch := first | omega | assumption) only [go_sem, Res.av, toldR, badR, usageR]))
end Go.Proofs.YtiaiggbimlbkfaaGreatDoor
namespace Go.Proofs.YtiaiggbimlbkfaaGreatDoor
open Go Go.Ab
set_option maxRecDepth 20000
set_option maxHeartbeats 4000000
theorem any_take_succ {q : Str → Bool} {l : List Str} {i : Nat} (h : i < l.length) : (l.take (i + 1)).any q = ((l.take i).any q || q (l.getD i default)) := by
  rw [List.take_add_one, List.any_append, List.getElem?_eq_getElem h, List.getD_eq_getElem?_getD, List.getElem?_eq_getElem h]
  simp
theorem any_hit {q : Str → Bool} {l : List Str} {i : Nat} (h : i < l.length) (hq : q (l.getD i default) = true) : l.any q = true := by
  rw [List.any_eq_true]
  refine ⟨_, ?_, hq⟩
  rw [List.getD_eq_getElem?_getD, List.getElem?_eq_getElem h]
  exact List.getElem_mem _
theorem sortRow_len (args : List Str) (t : Str) : (joinN (sortRow args t)).length ≤ t.length + 1 := by
  have hcs := compact_sub (sortS (linesL t))
  have hjl : ∀ r : List Str, r.Sublist (sortS (linesL t)) → (joinN r).length ≤ t.length + 1 := fun r hr => by
    have h1 := joinN_sub hr
    have h2 := joinN_perm (sortS_perm (linesL t))
    have h3 := joinN_lines t
    omega
  have hjr : ∀ r : List Str, r.Sublist (sortS (linesL t)) → (joinN r.reverse).length ≤ t.length + 1 := fun r hr => by
    rw [joinN_perm (List.reverse_perm r)]; exact hjl r hr
  unfold sortRow
  split
  · split
    · exact hjr _ hcs
    · exact hjr _ (List.Sublist.refl _)
  · split
    · exact hjl _ hcs
    · exact hjl _ (List.Sublist.refl _)
theorem kI_go {rv : Bool} {x : Str} {o : List Str} {k : Nat} (h : k < o.length) (hp : pB rv x (o.getD k default) = true) : k + kI rv x (o.drop k) = (k + 1) + kI rv x (o.drop (k + 1)) := by
  rw [str_drop_cons h]
  unfold kI
  rw [List.takeWhile_cons, if_pos hp, List.length_cons]; omega
theorem kI_stop {rv : Bool} {x : Str} {o : List Str} {k : Nat} (h : ¬ (k < o.length ∧ pB rv x (o.getD k default) = true)) : kI rv x (o.drop k) = 0 := by
  by_cases hk : k < o.length
  · rw [str_drop_cons hk]
    unfold kI
    rw [List.takeWhile_cons, if_neg (fun hp => h ⟨hk, hp⟩)]; rfl
  · rw [List.drop_eq_nil_of_le (by omega)]; rfl
theorem ins_len (rv on : Bool) (x : Str) (o : List Str) : (ins rv on x o).length ≤ o.length + 1 := by
  unfold ins
  split
  · omega
  · simp only [List.length_append, List.length_take, List.length_cons, List.length_drop]; omega
theorem pB_lt (rv : Bool) (x y : Str) : pB rv x y = ((ltS y x != rv) || decide (y = x)) := by
  unfold pB
  rw [show ltS y x = decide (y < x) from Go.Proofs.bytesLess_eq y x]
theorem sortedRef_ok (args : List Str) (hal : args.length ≤ 4000000) (t : Str) (htl : t.length ≤ 4000000) (p : Oid) :
    CallOK Tryz.prog 44 [.list 1 (args.map AV.str), .str t] (Oid.under p) ⟨[], (if args.any oddS = true then usageR [115, 111, 114, 116] else toldR (joinN (sortRow args t))).av, []⟩ := by
  have hu := fun p => usageR_ok [115, 111, 114, 116] (by decide) p
  simp only [Res.av, usageR] at hu
  have hjl := joinN_lines t
  have hjn := joinN_len (linesL t)
  have hsl := sortRow_len args t
  refine fnOK (n := 103) (rs := [.cell 4 32]) Tryz.func44 rfl rfl (by decide) rfl rfl rfl ?_; rintro x rfl hrd hng
  (repeat (first | (refine K_ifT rfl rfl ?_) | (refine K_ifF rfl rfl ?_) | (refine K_ev nmd [] hng (by kernel_rfl) fun hf C S K hC1 hC hS hK => ?_; simp (disch := first | omega | assumption) only [go_sem]; refine hK ?_; clear hK hS hC hC1 K S C hf) | ((first | refine zk ?_ | refine zn ?_ | refine ze ?_); with_reducible (constructor; repeat constructor); try refine zl ?_)))
  refine K_loop [0, 1, 4, 5, 6, 7] (fun k s' => ∃ i c : Nat, k = args.length - i ∧ i ≤ args.length ∧ (args.take i).any oddS = false ∧
    s' = ⟨[(0, .list 1 (args.map AV.str)), (1, .str t), (4, .ptr (.sub 0 0 x.p) 0), (5, .bool (hasR (args.take i))), (6, .bool (hasU (args.take i))), (7, .int .i64 i)], Mem.of [(.sub 0 0 x.p, .cells [.int .i64 0, .str [], .str []])], c, []⟩) _ ⟨0, _, rfl, Nat.zero_le _, rfl, rfl⟩ ?_
  rintro k s' ⟨i, c, rfl, hi, hno, rfl⟩
  (repeat (first | (refine K_ifT rfl rfl ?_) | (refine K_ifF rfl rfl ?_) | (refine K_ev nmd [] hng (by kernel_rfl) fun hf C S K hC1 hC hS hK => ?_; simp (disch := first | omega | assumption) only [go_sem, List.length_map]; (repeat ((first | refine hC1 _ () (by simp (disch := first | omega | assumption) only [go_sem]) ?_); simp (disch := first | omega | assumption) only [go_sem])); refine hK ?_; clear hK hS hC hC1 K S C hf) | ((first | refine zk ?_ | refine zn ?_ | refine ze ?_); with_reducible (constructor; repeat constructor); try refine zl ?_)))
  refine K_ifd rfl rfl (fun hb => ?_) (fun hb => ?_)
  · have hlt : i < args.length := by omega
    have hR := any_take_succ (q := fun s => decide ([45, 114] = s)) hlt
    have hU := any_take_succ (q := fun s => decide ([45, 117] = s)) hlt
    have hO := any_take_succ (q := oddS) hlt
    have hH := any_hit (q := oddS) hlt
    change hasR (args.take (i + 1)) = (hasR (args.take i) || _) at hR
    change hasU (args.take (i + 1)) = (hasU (args.take i) || _) at hU
    generalize hq : args.getD i default = q at hR hU hO hH
    (repeat (first | (refine K_ifT rfl rfl ?_) | (refine K_ifF rfl rfl ?_) | (refine K_ev nmd [] hng (by kernel_rfl) fun hf C S K hC1 hC hS hK => ?_; simp (disch := first | omega | assumption) only [go_sem, List.length_map, hq]; (repeat ((first | refine hC1 _ () (by simp (disch := first | omega | assumption) only [go_sem]) ?_); simp (disch := first | omega | assumption) only [go_sem])); refine hK ?_; clear hK hS hC hC1 K S C hf) | ((first | refine zk ?_ | refine zn ?_ | refine ze ?_); with_reducible (constructor; repeat constructor); try refine zl ?_)))
    refine K_ifd rfl rfl (fun hb => ?_) (fun hb => ?_)
    · subst hb
      rw [decide_eq_true rfl, Bool.or_true] at hR
      rw [decide_eq_false (by decide), Bool.or_false] at hU
      rw [hno, show oddS [45, 114] = false by decide] at hO
      (repeat (first | (refine K_ifT rfl rfl ?_) | (refine K_ifF rfl rfl ?_) | (refine K_ev nmd [] hng (by kernel_rfl) fun hf C S K hC1 hC hS hK => ?_; simp (disch := first | omega | assumption) only [go_sem]; refine hK ?_; clear hK hS hC hC1 K S C hf) | ((first | refine zk ?_ | refine zn ?_ | refine ze ?_); with_reducible (constructor; repeat constructor); try refine zl ?_)))
      refine ⟨_, _, ?_, fun _ _ h => h, i + 1, c + 1 + 1 + 1 + 1 + 1, rfl, by omega, hO, ?_⟩
      · omega
      · rw [hR, hU]; rfl
    · have hb1 := hb
      (repeat (first | (refine K_ifT rfl rfl ?_) | (refine K_ifF rfl rfl ?_) | (refine K_ev nmd [] hng (by kernel_rfl) fun hf C S K hC1 hC hS hK => ?_; simp (disch := first | omega | assumption) only [go_sem]; refine hK ?_; clear hK hS hC hC1 K S C hf) | ((first | refine zk ?_ | refine zn ?_ | refine ze ?_); with_reducible (constructor; repeat constructor); try refine zl ?_)))
      refine K_ifd rfl rfl (fun hb => ?_) (fun hb => ?_)
      · subst hb
        rw [decide_eq_true rfl, Bool.or_true] at hU
        rw [decide_eq_false (by decide), Bool.or_false] at hR
        rw [hno, show oddS [45, 117] = false by decide] at hO
        (repeat (first | (refine K_ifT rfl rfl ?_) | (refine K_ifF rfl rfl ?_) | (refine K_ev nmd [] hng (by kernel_rfl) fun hf C S K hC1 hC hS hK => ?_; simp (disch := first | omega | assumption) only [go_sem]; refine hK ?_; clear hK hS hC hC1 K S C hf) | ((first | refine zk ?_ | refine zn ?_ | refine ze ?_); with_reducible (constructor; repeat constructor); try refine zl ?_)))
        refine ⟨_, _, ?_, fun _ _ h => h, i + 1, c + 1 + 1 + 1 + 1 + 1 + 1, rfl, by omega, hO, ?_⟩
        · omega
        · rw [hR, hU]; rfl
      · rw [if_pos (hH (by simp only [oddS, decide_eq_false hb1, decide_eq_false hb, Bool.not_false, Bool.and_self]))]
        (repeat (first | (refine K_ifT rfl rfl ?_) | (refine K_ifF rfl rfl ?_) | (refine K_ev nmd [] hng (by kernel_rfl) fun hf C S K hC1 hC hS hK => ?_; simp (disch := first | omega | assumption) only [go_sem]; (repeat ((first | refine hC1 _ (hu _) (by simp (disch := first | omega | assumption) only [go_sem]) ?_); simp (disch := first | omega | assumption) only [go_sem])); refine hK ?_; clear hK hS hC hC1 K S C hf) | ((first | refine zk ?_ | refine zn ?_ | refine ze ?_); with_reducible (constructor; repeat constructor); try refine zl ?_)))
        exact K_ret (done_plain (by simp (disch := first | omega | assumption) only [go_sem, Res.av, toldR, badR, usageR]))
  · obtain rfl : i = args.length := by omega
    rw [List.take_length] at hno
    rw [List.take_length, if_neg (by rw [hno]; exact Bool.false_ne_true)]
    have hrow : insAll (hasR args) (hasU args) (linesL t) = sortRow args t := by rw [insAll_row]; rfl
    generalize hT : sortRow args t = tot at hsl hrow ⊢
    generalize hasR args = rv at hrow ⊢
    generalize hasU args = on at hrow ⊢
    have hlr := fun p => linesR_ok t (by omega) p
    generalize hL : linesL t = L at hjl hjn hrow hlr
    (repeat (first | (refine K_ifT rfl rfl ?_) | (refine K_ifF rfl rfl ?_) | (refine K_ev nmd [] hng (by kernel_rfl) fun hf C S K hC1 hC hS hK => ?_; simp (disch := first | omega | assumption) only [go_sem]; (repeat ((first | refine hC1 _ (hlr _) (by simp (disch := first | omega | assumption) only [go_sem]) ?_); simp (disch := first | omega | assumption) only [go_sem])); refine hK ?_; clear hK hS hC hC1 K S C hf) | ((first | refine zk ?_ | refine zn ?_ | refine ze ?_); with_reducible (constructor; repeat constructor); try refine zl ?_)))
    refine K_void 9 1 rfl ?_
    simp (disch := first | omega | assumption) only [go_sem]
    refine K_freeze (.sub (c + 1 + 1 + 1 + 1) 0 x.p) 1 [] (by simp (disch := first | omega | assumption) only [go_sem]) ?_
    simp (disch := first | omega | assumption) only [go_sem]
    refine K_loop [4, 5, 6, 8, 9, 10] (fun k s' => ∃ (i c : Nat) (o : List Str), k = L.length - i ∧ i ≤ L.length ∧ o.length ≤ i ∧ (L.drop i).foldl (fun o x => ins rv on x o) o = tot ∧
      s' = ⟨[(4, .ptr (.sub 0 0 x.p) 0), (5, .bool rv), (6, .bool on), (8, .list 1 (L.map AV.str)), (9, .list 1 (o.map AV.str)), (10, .int .i64 i)], Mem.of [(.sub 0 0 x.p, .cells [.int .i64 0, .str [], .str []])], c, []⟩) _ ⟨0, _, [], rfl, Nat.zero_le _, Nat.le_refl _, hrow, rfl⟩ ?_
    rintro k s' ⟨i, c, o, rfl, hi, hol, hfold, rfl⟩
    (repeat (first | (refine K_ifT rfl rfl ?_) | (refine K_ifF rfl rfl ?_) | (refine K_ev nmd [] hng (by kernel_rfl) fun hf C S K hC1 hC hS hK => ?_; simp (disch := first | omega | assumption) only [go_sem, List.length_map]; (repeat ((first | refine hC1 _ () (by simp (disch := first | omega | assumption) only [go_sem]) ?_); simp (disch := first | omega | assumption) only [go_sem])); refine hK ?_; clear hK hS hC hC1 K S C hf) | ((first | refine zk ?_ | refine zn ?_ | refine ze ?_); with_reducible (constructor; repeat constructor); try refine zl ?_)))
    refine K_ifd rfl rfl (fun hb => ?_) (fun hb => ?_)
    · have hlt : i < L.length := by omega
      rw [str_drop_cons hlt, List.foldl_cons] at hfold
      have hil := ins_len rv on (L.getD i default) o
      generalize hq : L.getD i default = q at hfold hil
      (repeat (first | (refine K_ifT rfl rfl ?_) | (refine K_ifF rfl rfl ?_) | (refine K_ev nmd [] hng (by kernel_rfl) fun hf C S K hC1 hC hS hK => ?_; simp (disch := first | omega | assumption) only [go_sem]; refine hK ?_; clear hK hS hC hC1 K S C hf) | ((first | refine zk ?_ | refine zn ?_ | refine ze ?_); with_reducible (constructor; repeat constructor); try refine zl ?_)))
      refine K_loop [4, 5, 6, 8, 9, 10, 11] (fun k s' => ∃ m c : Nat, k = o.length - m ∧ m ≤ o.length ∧ kI rv q o = m + kI rv q (o.drop m) ∧
        s' = ⟨[(4, .ptr (.sub 0 0 x.p) 0), (5, .bool rv), (6, .bool on), (8, .list 1 (L.map AV.str)), (9, .list 1 (o.map AV.str)), (10, .int .i64 i), (11, .int .i64 (m : Int))], Mem.of [(.sub 0 0 x.p, .cells [.int .i64 0, .str [], .str []])], c, []⟩) _ ⟨0, _, rfl, Nat.zero_le _, by rw [List.drop_zero, Nat.zero_add], rfl⟩ ?_
      rintro k s' ⟨m, c, rfl, hm, hk, rfl⟩
      generalize hy : o.getD m default = y
      (try ((first | refine zk ?_ | refine zn ?_ | refine ze ?_); with_reducible (constructor; repeat constructor)); try refine zl ?_)
      refine K_cut [4, 5, 6, 8, 9, 10, 11, 63] (fun s' => ∃ (b : Bool) (d : Nat), s' = ⟨[(4, .ptr (.sub 0 0 x.p) 0), (5, .bool rv), (6, .bool on), (8, .list 1 (L.map AV.str)), (9, .list 1 (o.map AV.str)), (10, .int .i64 i), (11, .int .i64 (m : Int)), (63, .bool b)], Mem.of [(.sub 0 0 x.p, .cells [.int .i64 0, .str [], .str []])], d, []⟩ ∧ (b = true ↔ (m < o.length ∧ pB rv q y = true))) ?_ ?_
      · refine K_evd nmd [(4, 40), (16, 52)] [] mixed hng (by kernel_rfl) [4, 5, 6, 8, 9, 10, 11, 63] fun hf C S K hC hS hK => ?_; simp (disch := first | omega | assumption) only [go_sem, List.length_map, hq, hy, decide_true, decide_false, ne_eq, not_true_eq_false, not_false_eq_true]
        (repeat' (first | (refine evG_split (fun hv => ?_) (fun hv => ?_) <;> (try simp only [zb1, zb2, zb3, zb4, zb5] at hv) <;> simp (disch := first | omega | assumption) only [go_sem, hv, List.length_map, hq, hy, decide_true, decide_false, ne_eq, not_true_eq_false, not_false_eq_true]) | ((first | refine hK (dynN_quiet rfl) ?_ | refine hK (by simp (disch := first | omega | assumption) only [go_sem, List.reverse_cons, List.reverse_nil, ne_eq, not_false_eq_true, implies_true]) ?_); clear hK hS hC K S C hf)))
        · refine K_cutN ⟨_, _, rfl, ?_⟩
          rw [pB_lt, hv, Bool.false_or]
          exact ⟨fun h => ⟨by omega, h⟩, fun h => h.2⟩
        · refine K_cutN ⟨_, _, rfl, ?_⟩
          rw [pB_lt, hv, Bool.true_or]
          exact ⟨fun _ => ⟨by omega, rfl⟩, fun _ => rfl⟩
        · exact K_cutN ⟨_, _, rfl, by simp only [Bool.false_eq_true, false_iff]; omega⟩
      rintro s' ⟨b, d, rfl, hiff⟩
      refine K_if rfl rfl (fun hb => ?_) (fun hb => ?_)
      · obtain ⟨h1, h2⟩ := hiff.1 hb
        rw [← hy] at h2
        rw [kI_go h1 h2] at hk
        (repeat (first | (refine K_ifT rfl rfl ?_) | (refine K_ifF rfl rfl ?_) | (refine K_ev nmd [] hng (by kernel_rfl) fun hf C S K hC1 hC hS hK => ?_; simp (disch := first | omega | assumption) only [go_sem]; refine hK ?_; clear hK hS hC hC1 K S C hf) | ((first | refine zk ?_ | refine zn ?_ | refine ze ?_); with_reducible (constructor; repeat constructor); try refine zl ?_)))
        exact ⟨_, _, by omega, fun _ _ h => h, m + 1, d + 1, rfl, by omega, hk, rfl⟩
      · have hst : ¬ (m < o.length ∧ pB rv q (o.getD m default) = true) := fun h => by rw [hy] at h; rw [hiff.2 h] at hb; cases hb
        rw [kI_stop hst, Nat.add_zero] at hk
        have hm1 : ((m : Int) - 1).toNat = m - 1 := by omega
        generalize hz : o.getD (m - 1) default = z
        (try ((first | refine zk ?_ | refine zn ?_ | refine ze ?_); with_reducible (constructor; repeat constructor)); try refine zl ?_)
        refine K_cut [4, 5, 6, 8, 9, 10, 11, 82] (fun s' => ∃ (b : Bool) (d : Nat), s' = ⟨[(4, .ptr (.sub 0 0 x.p) 0), (5, .bool rv), (6, .bool on), (8, .list 1 (L.map AV.str)), (9, .list 1 (o.map AV.str)), (10, .int .i64 i), (11, .int .i64 (m : Int)), (82, .bool b)], Mem.of [(.sub 0 0 x.p, .cells [.int .i64 0, .str [], .str []])], d, []⟩ ∧ (b = true ↔ (on = true ∧ 0 < m ∧ z = q))) ?_ ?_
        · cases on with
          | true =>
            refine K_evd nmd [(1, 67), (5, 71)] [] mixed hng (by kernel_rfl) [4, 5, 6, 8, 9, 10, 11, 82] fun hf C S K hC hS hK => ?_; simp (disch := first | omega | assumption) only [go_sem, List.length_map, hq, hz, hm1, decide_true, decide_false, ne_eq, not_true_eq_false, not_false_eq_true]
            (repeat' (first | (refine evG_split (fun hv => ?_) (fun hv => ?_) <;> (try simp only [zb1, zb2, zb3, zb4, zb5] at hv) <;> simp (disch := first | omega | assumption) only [go_sem, hv, List.length_map, hq, hz, hm1, decide_true, decide_false, ne_eq, not_true_eq_false, not_false_eq_true]) | ((first | refine hK (dynN_quiet rfl) ?_ | refine hK (by simp (disch := first | omega | assumption) only [go_sem, List.reverse_cons, List.reverse_nil, ne_eq, not_false_eq_true, implies_true]) ?_); clear hK hS hC K S C hf)))
            · exact K_cutN ⟨_, _, rfl, by simp only [decide_eq_true_eq]; exact ⟨fun h => ⟨trivial, by omega, h⟩, fun h => h.2.2⟩⟩
            · exact K_cutN ⟨_, _, rfl, by simp only [Bool.false_eq_true, false_iff]; exact fun h => by omega⟩
          | false =>
            refine K_evd nmd [(1, 67), (5, 71)] [] mixed hng (by kernel_rfl) [4, 5, 6, 8, 9, 10, 11, 82] fun hf C S K hC hS hK => ?_; simp (disch := first | omega | assumption) only [go_sem, List.length_map, hq, hz, hm1, decide_true, decide_false, ne_eq, not_true_eq_false, not_false_eq_true]
            (repeat' (first | (refine evG_split (fun hv => ?_) (fun hv => ?_) <;> (try simp only [zb1, zb2, zb3, zb4, zb5] at hv) <;> simp (disch := first | omega | assumption) only [go_sem, hv, List.length_map, hq, hz, hm1, decide_true, decide_false, ne_eq, not_true_eq_false, not_false_eq_true]) | ((first | refine hK (dynN_quiet rfl) ?_ | refine hK (by simp (disch := first | omega | assumption) only [go_sem, List.reverse_cons, List.reverse_nil, ne_eq, not_false_eq_true, implies_true]) ?_); clear hK hS hC K S C hf)))
            all_goals exact K_cutN ⟨_, _, rfl, by simp only [Bool.false_eq_true, false_iff]; exact fun h => h.1⟩
        rintro s' ⟨b, d, rfl, hif⟩
        refine K_if rfl rfl (fun hb => ?_) (fun hb => ?_)
        · have hins : ins rv on q o = o := by
            have h3 := hif.1 hb
            rw [ins, hk, hz, if_pos h3]
          rw [hins] at hfold
          (repeat (first | (refine K_ifT rfl rfl ?_) | (refine K_ifF rfl rfl ?_) | (refine K_ev nmd [] hng (by kernel_rfl) fun hf C S K hC1 hC hS hK => ?_; simp (disch := first | omega | assumption) only [go_sem]; refine hK ?_; clear hK hS hC hC1 K S C hf) | ((first | refine zk ?_ | refine zn ?_ | refine ze ?_); with_reducible (constructor; repeat constructor); try refine zl ?_)))
          exact ⟨_, _, by omega, fun _ _ h => h, i + 1, _, o, rfl, by omega, by omega, hfold, rfl⟩
        · have hins : ins rv on q o = o.take m ++ q :: o.drop m := by
            rw [ins, hk, hz, if_neg (fun h => by rw [hif.2 h] at hb; cases hb)]
          rw [hins] at hfold hil
          (try ((first | refine zk ?_ | refine zn ?_ | refine ze ?_); with_reducible (constructor; repeat constructor)); try refine zl ?_)
          refine K_ev nmd [] hng (by kernel_rfl) fun hf C S K hC1 hC hS hK => ?_; simp (disch := first | omega | assumption) only [go_sem]
          refine hK ?_; clear hK hS hC hC1 K S C hf
          refine K_void 12 1 rfl ?_
          simp (disch := first | omega | assumption) only [go_sem]
          (try ((first | refine zk ?_ | refine zn ?_ | refine ze ?_); with_reducible (constructor; repeat constructor)); try refine zl ?_)
          refine K_ev nmd [] hng (by kernel_rfl) fun hf C S K hC1 hC hS hK => ?_; simp (disch := first | omega | assumption) only [go_sem, List.length_map, ← List.map_take]
          refine hK ?_; clear hK hS hC hC1 K S C hf
          (try ((first | refine zk ?_ | refine zn ?_ | refine ze ?_); with_reducible (constructor; repeat constructor)); try refine zl ?_)
          refine K_ev nmd [] hng (by kernel_rfl) fun hf C S K hC1 hC hS hK => ?_; simp (disch := first | omega | assumption) only [go_sem, List.length_map, hq]
          refine hK ?_; clear hK hS hC hC1 K S C hf
          (try ((first | refine zk ?_ | refine zn ?_ | refine ze ?_); with_reducible (constructor; repeat constructor)); try refine zl ?_)
          refine K_ev nmd [] hng (by kernel_rfl) fun hf C S K hC1 hC hS hK => ?_; simp (disch := first | omega | assumption) only [go_sem, List.length_map, ← List.map_drop]
          refine hK ?_; clear hK hS hC hC1 K S C hf
          have hrw : (o.take m).map AV.str ++ [AV.str q] ++ (o.drop m).map AV.str = (o.take m ++ q :: o.drop m).map AV.str := by simp
          rw [hrw]
          refine K_freeze (.sub (d + 1 + 1 + 1 + 1) 4 x.p) 1 ((o.take m ++ q :: o.drop m).map AV.str) (by simp (disch := first | omega | assumption) only [go_sem]) ?_
          have hlen : (0 + min m o.length + 1 + (o.length - m) = min m o.length + (o.length - m + 1)) = True := eq_true (by omega)
          simp (disch := first | omega | assumption) only [go_sem, List.length_append, List.length_map, List.length_take, List.length_cons, List.length_drop, hlen, if_true]
          (repeat (first | (refine K_ifT rfl rfl ?_) | (refine K_ifF rfl rfl ?_) | (refine K_ev nmd [] hng (by kernel_rfl) fun hf C S K hC1 hC hS hK => ?_; simp (disch := first | omega | assumption) only [go_sem]; refine hK ?_; clear hK hS hC hC1 K S C hf) | ((first | refine zk ?_ | refine zn ?_ | refine ze ?_); with_reducible (constructor; repeat constructor); try refine zl ?_)))
          exact ⟨_, _, by omega, fun _ _ h => h, i + 1, _, _, rfl, by omega, by omega, hfold, rfl⟩
    · obtain rfl : i = L.length := by omega
      rw [List.drop_length] at hfold
      change o = tot at hfold
      subst hfold
      (repeat (first | (refine K_ifT rfl rfl ?_) | (refine K_ifF rfl rfl ?_) | (refine K_ev nmd [] hng (by kernel_rfl) fun hf C S K hC1 hC hS hK => ?_; simp (disch := first | omega | assumption) only [go_sem]; (repeat ((first | refine hC1 _ (joinedR_ok o (by omega) _) (by simp (disch := first | omega | assumption) only [go_sem]) ?_); simp (disch := first | omega | assumption) only [go_sem])); refine hK ?_; clear hK hS hC hC1 K S C hf) | ((first | refine zk ?_ | refine zn ?_ | refine ze ?_); with_reducible (constructor; repeat constructor); try refine zl ?_)))
      exact K_ret (done_plain (by simp (disch := first | omega | assumption) only [go_sem, Res.av, toldR, badR, usageR]))
end Go.Proofs.YtiaiggbimlbkfaaGreatDoor
namespace Go.Proofs.YtiaiggbimlbkfaaGreatDoor
open Go Go.Ab
set_option maxRecDepth 20000
set_option maxHeartbeats 4000000
theorem row_young2 {c e j k : Nat} {t : Nat} {p : Oid} (h : ¬ c = e) : ¬ Oid.under (.sub c k p) (.ty t (.sub 2 6 (.sub e j p))) := by
  have hself : ¬ Oid.under (.sub c k p) p := fun h => by have := Oid.under_depth h; simp [Oid.depth] at this; omega
  have h' : ¬ e = c := fun e => h e.symm
  simp only [Oid.under, reduceCtorEq, false_or, Oid.sub.injEq, h, h', false_and, and_false, hself, or_false, not_false_eq_true]
  intro hh
  have := congrArg Oid.depth hh.2.2
  simp [Oid.depth] at this
theorem uniq_ok (args : List Str) (cnt : Bool) (h : UniqV args cnt) (t : Str) (htl : t.length ≤ 4000000) (p : Oid) (hp : p.mono = false) :
    CallOK Tryz.prog 34 [.list 1 (args.map AV.str), .str t] (Oid.under p) ⟨[], .tuple [(toldR (runsT cnt (grp (linesL t)))).av, .bool true], []⟩ := by
  have hjl := joinN_lines t
  have hjn := joinN_len (linesL t)
  have hrl := runsT_len cnt (linesL t)
  have hal : args.length ≤ 4000000000 := by rcases h with ⟨rfl, _⟩ | ⟨rfl, _⟩ <;> simp
  have heq := fun p => equal_ok args [[45, 99]] hal p
  have hcnt : decide (args = [[45, 99]]) = cnt := by rcases h with ⟨rfl, rfl⟩ | ⟨rfl, rfl⟩ <;> rfl
  rw [hcnt] at heq
  have hlr := fun p => lines_ok t (by omega) p
  generalize hL : linesL t = L at hjl hjn hrl hlr ⊢
  generalize hT : runsT cnt (grp L) = tot at hrl ⊢
  simp only [List.map_cons, List.map_nil] at heq
  refine fnOK (n := 61) (rs := [.cell 4 32, .tmp 5]) Tryz.func34 rfl rfl (by decide) rfl rfl rfl ?_; rintro x rfl hrd hng
  (repeat (first | (refine K_ifT rfl rfl ?_) | (refine K_ifF rfl rfl ?_) | (refine K_ev nmd [] hng (by kernel_rfl) fun hf C S K hC1 hC hS hK => ?_; simp (disch := first | omega | assumption) only [go_sem]; (repeat ((first | refine hC1 _ (heq _) (by simp (disch := first | omega | assumption) only [go_sem]) ?_); simp (disch := first | omega | assumption) only [go_sem])); refine hK ?_; clear hK hS hC hC1 K S C hf) | ((first | refine zk ?_ | refine zn ?_ | refine ze ?_); with_reducible (constructor; repeat constructor); try refine zl ?_)))
  refine K_cut [1, 4, 6, 19] (fun s' => ∃ c : Nat, s' = ⟨[(1, .str t), (4, .ptr (.sub 0 0 x.p) 0), (6, .bool cnt), (19, .bool false)], Mem.of [(.sub 0 0 x.p, .cells [.int .i64 0, .str [], .str []])], c, []⟩ ∧ 1 < c) ?_ ?_
  · rcases h with ⟨rfl, rfl⟩ | ⟨rfl, rfl⟩
    · refine K_ev nmd [(3, 16)] hng (by kernel_rfl) fun hf C S K hC1 hC hS hK => ?_; simp (disch := first | omega | assumption) only [go_sem, decide_true, decide_false, ne_eq, not_true_eq_false, not_false_eq_true]
      (repeat' (first | (refine evG_split (fun hv => ?_) (fun hv => ?_) <;> (try simp only [zb1, zb2, zb3, zb4, zb5] at hv) <;> simp (disch := first | omega | assumption) only [go_sem, hv, decide_true, decide_false, ne_eq, not_true_eq_false, not_false_eq_true]) | (refine hK ?_; clear hK hS hC hC1 K S C hf)))
      all_goals first | contradiction | exact K_cutN ⟨_, rfl, by omega⟩
    · refine K_ev nmd [(3, 16)] hng (by kernel_rfl) fun hf C S K hC1 hC hS hK => ?_; simp (disch := first | omega | assumption) only [go_sem, decide_true, decide_false, ne_eq, not_true_eq_false, not_false_eq_true]
      (repeat' (first | (refine evG_split (fun hv => ?_) (fun hv => ?_) <;> (try simp only [zb1, zb2, zb3, zb4, zb5] at hv) <;> simp (disch := first | omega | assumption) only [go_sem, hv, decide_true, decide_false, ne_eq, not_true_eq_false, not_false_eq_true]) | (refine hK ?_; clear hK hS hC hC1 K S C hf)))
      all_goals first | contradiction | exact absurd rfl hv | exact K_cutN ⟨_, rfl, by omega⟩
  rintro s' ⟨c0, rfl, hc0⟩
  (repeat (first | (refine K_ifT rfl rfl ?_) | (refine K_ifF rfl rfl ?_) | (refine K_ev nmd [] hng (by kernel_rfl) fun hf C S K hC1 hC hS hK => ?_; simp (disch := first | omega | assumption) only [go_sem]; (repeat ((first | refine hC1 _ (hlr _) (by simp (disch := first | omega | assumption) only [go_sem]) ?_); simp (disch := first | omega | assumption) only [go_sem])); refine hK ?_; clear hK hS hC hC1 K S C hf) | ((first | refine zk ?_ | refine zn ?_ | refine ze ?_); with_reducible (constructor; repeat constructor); try refine zl ?_)))
  refine K_loop [4, 6, 7, 8] (fun k s' => ∃ (R : List Str) (u : Str) (M : List (Oid × AObj)) (c : Nat), R.length = k ∧ c0 + 1 < c ∧ R.length ≤ 4000001 ∧ tot = u ++ runsT cnt (grp R) ∧
    ((u = [] ∧ M = [(.sub 0 0 x.p, .cells [.int .i64 0, .str [], .str []]), (.ty 67 (.sub c0 0 x.p), .cells [.nilPtr, .nilSl])]) ∨ (¬ u = [] ∧ ∃ e j, c0 < e ∧ e < c ∧ M = [(.sub 0 0 x.p, .cells [.int .i64 0, .str [], .str []]), (.ty 67 (.sub c0 0 x.p), .cells [.ptr (.ty 67 (.sub c0 0 x.p)) 0, .sl (.ty 5 (.sub 2 6 (.sub e j x.p))) 1 u.length]), (.ty 5 (.sub 2 6 (.sub e j x.p)), .arr 1 (u.map byA))])) ∧
    s' = ⟨[(4, .ptr (.sub 0 0 x.p) 0), (6, .bool cnt), (7, .ptr (.ty 67 (.sub c0 0 x.p)) 0), (8, .list 1 (R.map AV.str))], Mem.of M, c, []⟩) _ ⟨L, [], _, _, rfl, by omega, by omega, hT.symm, .inl ⟨rfl, rfl⟩, rfl⟩ ?_
  rintro k s' ⟨R, u, M, c, rfl, hcc, hRl, htot, hM, rfl⟩
  have hul : u.length ≤ 12000003 := by have := congrArg List.length htot; rw [List.length_append] at this; omega
  (repeat (first | (refine K_ifT rfl rfl ?_) | (refine K_ifF rfl rfl ?_) | (refine K_ev nmd [] hng (by kernel_rfl) fun hf C S K hC1 hC hS hK => ?_; simp (disch := first | omega | assumption) only [go_sem, List.length_map]; (repeat ((first | refine hC1 _ () (by simp (disch := first | omega | assumption) only [go_sem]) ?_); simp (disch := first | omega | assumption) only [go_sem])); refine hK ?_; clear hK hS hC hC1 K S C hf) | ((first | refine zk ?_ | refine zn ?_ | refine ze ?_); with_reducible (constructor; repeat constructor); try refine zl ?_)))
  refine K_ifd rfl rfl (fun hb => ?_) (fun hb => ?_)
  · have hR0 : 0 < R.length := by omega
    generalize hq : R.getD 0 default = q
    (repeat (first | (refine K_ifT rfl rfl ?_) | (refine K_ifF rfl rfl ?_) | (refine K_ev nmd [] hng (by kernel_rfl) fun hf C S K hC1 hC hS hK => ?_; simp (disch := first | omega | assumption) only [go_sem]; refine hK ?_; clear hK hS hC hC1 K S C hf) | ((first | refine zk ?_ | refine zn ?_ | refine ze ?_); with_reducible (constructor; repeat constructor); try refine zl ?_)))
    refine K_loop [4, 6, 7, 8, 9] (fun k s' => ∃ (m c' : Nat), k = R.length - m ∧ 1 ≤ m ∧ m ≤ R.length ∧ c < c' ∧ grp R = addX m q (grp (R.drop m)) ∧
      s' = ⟨[(4, .ptr (.sub 0 0 x.p) 0), (6, .bool cnt), (7, .ptr (.ty 67 (.sub c0 0 x.p)) 0), (8, .list 1 (R.map AV.str)), (9, .int .i64 (m : Int))], Mem.of M, c', []⟩) _ ⟨1, _, rfl, Nat.le_refl _, hR0, by omega, by
        have h1 := str_drop_cons (l := R) (i := 0) hR0
        rw [List.drop_zero, hq] at h1
        conv => lhs; rw [h1]
        rw [grp], rfl⟩ ?_
    rintro k s' ⟨m, c', rfl, hm1, hmR, hc', hg, rfl⟩
    (try ((first | refine zk ?_ | refine zn ?_ | refine ze ?_); with_reducible (constructor; repeat constructor)); try refine zl ?_)
    refine K_cut [4, 6, 7, 8, 9, 41] (fun s' => ∃ (b : Bool) (d : Nat), s' = ⟨[(4, .ptr (.sub 0 0 x.p) 0), (6, .bool cnt), (7, .ptr (.ty 67 (.sub c0 0 x.p)) 0), (8, .list 1 (R.map AV.str)), (9, .int .i64 (m : Int)), (41, .bool b)], Mem.of M, d, []⟩ ∧ c < d ∧ (b = true ↔ (m < R.length ∧ R.getD m default = q))) ?_ ?_
    · refine K_evd nmd [(4, 32)] [] mixed hng (by kernel_rfl) [4, 6, 7, 8, 9, 41] fun hf C S K hC hS hK => ?_; simp (disch := first | omega | assumption) only [go_sem, List.length_map, hq, decide_true, decide_false, ne_eq, not_true_eq_false, not_false_eq_true]
      (repeat' (first | (refine evG_split (fun hv => ?_) (fun hv => ?_) <;> (try simp only [zb1, zb2, zb3, zb4, zb5] at hv) <;> simp (disch := first | omega | assumption) only [go_sem, hv, List.length_map, hq, decide_true, decide_false, ne_eq, not_true_eq_false, not_false_eq_true]) | ((first | refine hK (dynN_quiet rfl) ?_ | refine hK (by simp (disch := first | omega | assumption) only [go_sem, List.reverse_cons, List.reverse_nil, ne_eq, not_false_eq_true, implies_true]) ?_); clear hK hS hC K S C hf)))
      all_goals first
        | contradiction
        | exact K_cutN ⟨_, _, rfl, by omega, by simp only [decide_eq_true_eq]; exact ⟨fun h => ⟨by omega, h⟩, fun h => h.2⟩⟩
        | exact K_cutN ⟨_, _, rfl, by omega, by simp only [Bool.false_eq_true, false_iff]; omega⟩
    rintro s' ⟨b, d, rfl, hcd, hiff⟩
    refine K_if rfl rfl (fun hb => ?_) (fun hb => ?_)
    · obtain ⟨h1, h2⟩ := hiff.1 hb
      have hd2 := str_drop_cons h1
      rw [h2] at hd2
      rw [hd2, grp, addX_add] at hg
      (repeat (first | (refine K_ifT rfl rfl ?_) | (refine K_ifF rfl rfl ?_) | (refine K_ev nmd [] hng (by kernel_rfl) fun hf C S K hC1 hC hS hK => ?_; simp (disch := first | omega | assumption) only [go_sem]; refine hK ?_; clear hK hS hC hC1 K S C hf) | ((first | refine zk ?_ | refine zn ?_ | refine ze ?_); with_reducible (constructor; repeat constructor); try refine zl ?_)))
      refine ⟨_, _, ?_, fun _ _ h => h, m + 1, d + 1, rfl, by omega, by omega, by omega, hg, rfl⟩
      omega
    · have hne : ∀ y r, R.drop m = y :: r → ¬ y = q := fun y r hy e => by
        have h1 : m < R.length := by
          have := congrArg List.length hy
          rw [List.length_drop, List.length_cons] at this; omega
        rw [str_drop_cons h1, List.cons.injEq] at hy
        rw [hiff.2 ⟨h1, by rw [hy.1, e]⟩] at hb; cases hb
      rw [addX_new hne] at hg
      rw [hg] at htot
      have hlen := congrArg List.length htot
      have hdm : (R.drop m).length < R.length := by rw [List.length_drop]; omega
      have hdl : (R.drop m).length ≤ 4000001 := by omega
      cases cnt with
      | true =>
        simp only [runsT, if_true] at htot hlen
        simp only [List.length_append, List.length_singleton] at hlen
        have htot2 : tot = (u ++ (Lib.decDigits m ++ [32])) ++ (q ++ [10]) ++ runsT true (grp (R.drop m)) := by rw [htot]; simp
        have hw1 : (Lib.decDigits m ++ [32]).length ≤ 140737488355328 := by rw [List.length_append, List.length_singleton]; omega
        have hw2 : u.length + (Lib.decDigits m ++ [32]).length ≤ 140737488355328 := by rw [List.length_append, List.length_singleton]; omega
        have hw3 : (u ++ (Lib.decDigits m ++ [32])).length + (q ++ [10]).length ≤ 140737488355328 := by simp only [List.length_append, List.length_singleton]; omega
        rcases hM with ⟨rfl, rfl⟩ | ⟨hu0, e, j, he1, he2, rfl⟩
        · (repeat (first | (refine K_ifT rfl rfl ?_) | (refine K_ifF rfl rfl ?_) | (refine K_ev nmd [] hng (by kernel_rfl) fun hf C S K hC1 hC hS hK => ?_; simp (disch := first | omega | assumption) only [go_sem, List.length_map, hq, ← List.map_drop]; (repeat ((first | refine hC1 _ (itoaN_ok m (by omega) _ (mono_sub' rfl hp)) (by simp (disch := first | omega | assumption) only [go_sem]) ?_ | refine hC1 _ (ws_fresh (.sub c0 0 x.p) (Lib.decDigits m ++ [32]) hw1 _ (under_next2 (by omega))) (by simp (disch := first | omega | assumption) only [go_sem]) ?_ | refine hC1 _ (ws_used (.sub c0 0 x.p) (.sub 2 6 (.sub (d + 1) 3 x.p)) (Lib.decDigits m ++ [32]) (q ++ [10]) hw3 _ (under_next2 (by omega)) (row_young2 (by omega))) (by simp (disch := first | omega | assumption) only [go_sem]) ?_); simp (disch := first | omega | assumption) only [go_sem])); refine hK ?_; clear hK hS hC hC1 K S C hf) | ((first | refine zk ?_ | refine zn ?_ | refine ze ?_); with_reducible (constructor; repeat constructor); try refine zl ?_)))
          refine ⟨_, _, ?_, fun _ _ h => h, R.drop m, Lib.decDigits m ++ [32] ++ (q ++ [10]), [(.sub 0 0 x.p, .cells [.int .i64 0, .str [], .str []]), (.ty 67 (.sub c0 0 x.p), .cells [.ptr (.ty 67 (.sub c0 0 x.p)) 0, .sl (.ty 5 (.sub 2 6 (.sub (d + 1 + 1) 4 x.p))) 1 (Lib.decDigits m ++ [32] ++ (q ++ [10])).length]), ((.ty 5 (.sub 2 6 (.sub (d + 1 + 1) 4 x.p))), .arr 1 ((Lib.decDigits m ++ [32] ++ (q ++ [10])).map byA))], d + 1 + 1 + 1 + 1, rfl, by omega, hdl, by rw [htot]; simp, .inr ⟨by simp, d + 1 + 1, 4, by omega, by omega, rfl⟩, ?_⟩
          · exact hdm
          · first | rfl | (simp only [List.length_append, List.length_singleton, List.length_cons, List.length_nil, Nat.zero_add, ← Nat.add_assoc]; rfl)
        · (repeat (first | (refine K_ifT rfl rfl ?_) | (refine K_ifF rfl rfl ?_) | (refine K_ev nmd [] hng (by kernel_rfl) fun hf C S K hC1 hC hS hK => ?_; simp (disch := first | omega | assumption) only [go_sem, List.length_map, hq, ← List.map_drop]; (repeat ((first | refine hC1 _ (itoaN_ok m (by omega) _ (mono_sub' rfl hp)) (by simp (disch := first | omega | assumption) only [go_sem]) ?_ | refine hC1 _ (ws_used (.sub c0 0 x.p) (.sub 2 6 (.sub e j x.p)) u (Lib.decDigits m ++ [32]) hw2 _ (under_next2 (by omega)) (row_young2 (by omega))) (by simp (disch := first | omega | assumption) only [go_sem]) ?_ | refine hC1 _ (ws_used (.sub c0 0 x.p) (.sub 2 6 (.sub (d + 1) 3 x.p)) (u ++ (Lib.decDigits m ++ [32])) (q ++ [10]) hw3 _ (under_next2 (by omega)) (row_young2 (by omega))) (by simp (disch := first | omega | assumption) only [go_sem]) ?_); simp (disch := first | omega | assumption) only [go_sem])); refine hK ?_; clear hK hS hC hC1 K S C hf) | ((first | refine zk ?_ | refine zn ?_ | refine ze ?_); with_reducible (constructor; repeat constructor); try refine zl ?_)))
          refine ⟨_, _, ?_, fun _ _ h => h, R.drop m, u ++ (Lib.decDigits m ++ [32]) ++ (q ++ [10]), [(.sub 0 0 x.p, .cells [.int .i64 0, .str [], .str []]), (.ty 67 (.sub c0 0 x.p), .cells [.ptr (.ty 67 (.sub c0 0 x.p)) 0, .sl (.ty 5 (.sub 2 6 (.sub (d + 1 + 1) 4 x.p))) 1 (u ++ (Lib.decDigits m ++ [32]) ++ (q ++ [10])).length]), ((.ty 5 (.sub 2 6 (.sub (d + 1 + 1) 4 x.p))), .arr 1 ((u ++ (Lib.decDigits m ++ [32]) ++ (q ++ [10])).map byA))], d + 1 + 1 + 1 + 1, rfl, by omega, hdl, by rw [htot]; simp, .inr ⟨by simp, d + 1 + 1, 4, by omega, by omega, rfl⟩, ?_⟩
          · exact hdm
          · first | rfl | (simp only [List.length_append, List.length_singleton, List.length_cons, List.length_nil, Nat.zero_add, ← Nat.add_assoc]; rfl)
      | false =>
        simp only [runsT, Bool.false_eq_true, if_false, List.nil_append] at htot hlen
        simp only [List.length_append, List.length_singleton] at hlen
        have hw2 : u.length + (q ++ [10]).length ≤ 140737488355328 := by simp only [List.length_append, List.length_singleton]; omega
        rcases hM with ⟨rfl, rfl⟩ | ⟨hu0, e, j, he1, he2, rfl⟩
        · (repeat (first | (refine K_ifT rfl rfl ?_) | (refine K_ifF rfl rfl ?_) | (refine K_ev nmd [] hng (by kernel_rfl) fun hf C S K hC1 hC hS hK => ?_; simp (disch := first | omega | assumption) only [go_sem, List.length_map, hq, ← List.map_drop]; (repeat ((first | refine hC1 _ (ws_fresh (.sub c0 0 x.p) (q ++ [10]) (by simp only [List.length_append, List.length_singleton]; omega) _ (under_next2 (by omega))) (by simp (disch := first | omega | assumption) only [go_sem]) ?_); simp (disch := first | omega | assumption) only [go_sem])); refine hK ?_; clear hK hS hC hC1 K S C hf) | ((first | refine zk ?_ | refine zn ?_ | refine ze ?_); with_reducible (constructor; repeat constructor); try refine zl ?_)))
          refine ⟨_, _, ?_, fun _ _ h => h, R.drop m, q ++ [10], [(.sub 0 0 x.p, .cells [.int .i64 0, .str [], .str []]), (.ty 67 (.sub c0 0 x.p), .cells [.ptr (.ty 67 (.sub c0 0 x.p)) 0, .sl (.ty 5 (.sub 2 6 (.sub (d + 1) 4 x.p))) 1 (q ++ [10]).length]), ((.ty 5 (.sub 2 6 (.sub (d + 1) 4 x.p))), .arr 1 ((q ++ [10]).map byA))], d + 1 + 1 + 1, rfl, by omega, hdl, by rw [htot]; simp, .inr ⟨by simp, d + 1, 4, by omega, by omega, rfl⟩, ?_⟩
          · exact hdm
          · first | rfl | (simp only [List.length_append, List.length_singleton, List.length_cons, List.length_nil, Nat.zero_add, ← Nat.add_assoc]; rfl)
        · (repeat (first | (refine K_ifT rfl rfl ?_) | (refine K_ifF rfl rfl ?_) | (refine K_ev nmd [] hng (by kernel_rfl) fun hf C S K hC1 hC hS hK => ?_; simp (disch := first | omega | assumption) only [go_sem, List.length_map, hq, ← List.map_drop]; (repeat ((first | refine hC1 _ (ws_used (.sub c0 0 x.p) (.sub 2 6 (.sub e j x.p)) u (q ++ [10]) hw2 _ (under_next2 (by omega)) (row_young2 (by omega))) (by simp (disch := first | omega | assumption) only [go_sem]) ?_); simp (disch := first | omega | assumption) only [go_sem])); refine hK ?_; clear hK hS hC hC1 K S C hf) | ((first | refine zk ?_ | refine zn ?_ | refine ze ?_); with_reducible (constructor; repeat constructor); try refine zl ?_)))
          refine ⟨_, _, ?_, fun _ _ h => h, R.drop m, u ++ (q ++ [10]), [(.sub 0 0 x.p, .cells [.int .i64 0, .str [], .str []]), (.ty 67 (.sub c0 0 x.p), .cells [.ptr (.ty 67 (.sub c0 0 x.p)) 0, .sl (.ty 5 (.sub 2 6 (.sub (d + 1) 4 x.p))) 1 (u ++ (q ++ [10])).length]), ((.ty 5 (.sub 2 6 (.sub (d + 1) 4 x.p))), .arr 1 ((u ++ (q ++ [10])).map byA))], d + 1 + 1 + 1, rfl, by omega, hdl, by rw [htot]; simp, .inr ⟨by simp, d + 1, 4, by omega, by omega, rfl⟩, ?_⟩
          · exact hdm
          · first | rfl | (simp only [List.length_append, List.length_singleton, List.length_cons, List.length_nil, Nat.zero_add, ← Nat.add_assoc]; rfl)
  · have hR : R = [] := List.eq_nil_of_length_eq_zero (by omega)
    subst hR
    simp only [grp, runsT, List.append_nil] at htot
    subst htot
    rcases hM with ⟨rfl, rfl⟩ | ⟨hu0, e, j, he1, he2, rfl⟩
    · (repeat (first | (refine K_ifT rfl rfl ?_) | (refine K_ifF rfl rfl ?_) | (refine K_ev nmd [] hng (by kernel_rfl) fun hf C S K hC1 hC hS hK => ?_; simp (disch := first | omega | assumption) only [go_sem]; (repeat ((first | refine hC1 _ (string_nil (.sub c0 0 _) _) (by simp (disch := first | omega | assumption) only [go_sem]) ?_ | refine hC1 _ (told_x [] _) (by simp (disch := first | omega | assumption) only [go_sem]) ?_); simp (disch := first | omega | assumption) only [go_sem])); refine hK ?_; clear hK hS hC hC1 K S C hf) | ((first | refine zk ?_ | refine zn ?_ | refine ze ?_); with_reducible (constructor; repeat constructor); try refine zl ?_)))
      exact K_ret (done_plain (by simp (disch := first | omega | assumption) only [go_sem, Res.av, toldR, badR, usageR]))
    · have hup := List.length_pos_iff.2 hu0
      (repeat (first | (refine K_ifT rfl rfl ?_) | (refine K_ifF rfl rfl ?_) | (refine K_ev nmd [] hng (by kernel_rfl) fun hf C S K hC1 hC hS hK => ?_; simp (disch := first | omega | assumption) only [go_sem]; (repeat ((first | refine hC1 _ (string_ok (.sub c0 0 _) (.sub 2 6 (.sub e j x.p)) tot hup (by omega) _) (by simp (disch := first | omega | assumption) only [go_sem]) ?_ | refine hC1 _ (told_x tot _) (by simp (disch := first | omega | assumption) only [go_sem]) ?_); simp (disch := first | omega | assumption) only [go_sem])); refine hK ?_; clear hK hS hC hC1 K S C hf) | ((first | refine zk ?_ | refine zn ?_ | refine ze ?_); with_reducible (constructor; repeat constructor); try refine zl ?_)))
      exact K_ret (done_plain (by simp (disch := first | omega | assumption) only [go_sem, Res.av, toldR, badR, usageR]))
theorem uniq_bad (args : List Str) (h : ¬ args.length = 0 ∧ ¬ args = [[45, 99]]) (hal : args.length ≤ 4000000000) (t : Str) (p : Oid) :
    CallOK Tryz.prog 34 [.list 1 (args.map AV.str), .str t] (Oid.under p) ⟨[], .tuple [badR.av, .bool false], []⟩ := by
  have heq := fun p => equal_ok args [[45, 99]] hal p
  rw [decide_eq_false h.2] at heq
  simp only [List.map_cons, List.map_nil] at heq
  have hz0 : (0 < (args.length : Int)) = True := eq_true (by omega)
  refine fnOK (n := 61) (rs := [.cell 4 32, .tmp 5]) Tryz.func34 rfl rfl (by decide) rfl rfl rfl ?_; rintro x rfl hrd hng
  (repeat (first | (refine K_ifT rfl rfl ?_) | (refine K_ifF rfl rfl ?_) | (refine K_ev nmd [] hng (by kernel_rfl) fun hf C S K hC1 hC hS hK => ?_; simp (disch := first | omega | assumption) only [go_sem]; (repeat ((first | refine hC1 _ (heq _) (by simp (disch := first | omega | assumption) only [go_sem]) ?_); simp (disch := first | omega | assumption) only [go_sem])); refine hK ?_; clear hK hS hC hC1 K S C hf) | ((first | refine zk ?_ | refine zn ?_ | refine ze ?_); with_reducible (constructor; repeat constructor); try refine zl ?_)))
  refine K_ev nmd [(3, 16)] hng (by kernel_rfl) fun hf C S K hC1 hC hS hK => ?_; simp (disch := first | omega | assumption) only [go_sem, List.length_map, hz0, decide_true, decide_false, ne_eq, not_true_eq_false, not_false_eq_true]
  (repeat' (first | (refine evG_split (fun hv => ?_) (fun hv => ?_) <;> (try simp only [zb1, zb2, zb3, zb4, zb5] at hv) <;> simp (disch := first | omega | assumption) only [go_sem, hv, List.length_map, hz0, decide_true, decide_false, ne_eq, not_true_eq_false, not_false_eq_true]) | (refine hK ?_; clear hK hS hC hC1 K S C hf)))
  all_goals first | contradiction | skip
  (repeat (first | (refine K_ifT rfl rfl ?_) | (refine K_ifF rfl rfl ?_) | (refine K_ev nmd [] hng (by kernel_rfl) fun hf C S K hC1 hC hS hK => ?_; simp (disch := first | omega | assumption) only [go_sem]; (repeat ((first | refine hC1 _ (bad_x _) (by simp (disch := first | omega | assumption) only [go_sem]) ?_); simp (disch := first | omega | assumption) only [go_sem])); refine hK ?_; clear hK hS hC hC1 K S C hf) | ((first | refine zk ?_ | refine zn ?_ | refine ze ?_); with_reducible (constructor; repeat constructor); try refine zl ?_)))
  exact K_ret (done_plain (by simp (disch := first | omega | assumption) only [go_sem, Res.av, badR]))
end Go.Proofs.YtiaiggbimlbkfaaGreatDoor
namespace Go.Proofs.YtiaiggbimlbkfaaGreatDoor
open Go Go.Ab
set_option maxRecDepth 20000
set_option maxHeartbeats 4000000
/-- The text of the first i numbers. -/
def piecesN (ps : List Str) (l : List UInt8) (i : Nat) : Str := (l.take i).flatMap fun b => ps.getD (b.toNat % ps.length) default
def piecesX (ps : List Str) (l : List UInt8) : Str := piecesN ps l (min l.length 14)
theorem piecesN_succ {ps : List Str} {l : List UInt8} {i : Nat} (h : i < l.length) : piecesN ps l (i + 1) = piecesN ps l i ++ ps.getD ((l.getD i 0).toNat % ps.length) default := by
  unfold piecesN
  rw [List.take_add_one, List.flatMap_append, List.getElem?_eq_getElem h, List.getD_eq_getElem?_getD (l := l), List.getElem?_eq_getElem h]
  simp
theorem getD_small {ps : List Str} (hs : ∀ s ∈ ps, s.length ≤ 100) (k : Nat) : (ps.getD k default).length ≤ 100 := by
  rw [List.getD_eq_getElem?_getD]
  cases h : ps[k]? with
  | none => exact Nat.zero_le _
  | some s => exact hs s (List.mem_of_getElem? h)
theorem piecesN_len {ps : List Str} (hs : ∀ s ∈ ps, s.length ≤ 100) (l : List UInt8) : ∀ i, (piecesN ps l i).length ≤ 100 * i
  | 0 => by simp [piecesN]
  | i + 1 => by
    have ih := piecesN_len hs l i
    by_cases h : i < l.length
    · rw [piecesN_succ h, List.length_append]
      have := getD_small hs ((l.getD i 0).toNat % ps.length)
      omega
    · have : piecesN ps l (i + 1) = piecesN ps l i := by unfold piecesN; rw [List.take_of_length_le (by omega), List.take_of_length_le (by omega)]
      rw [this]; omega
theorem piecesX_len {ps : List Str} (hs : ∀ s ∈ ps, s.length ≤ 100) (l : List UInt8) : (piecesX ps l).length ≤ 1400 := by
  have := piecesN_len hs l (min l.length 14)
  unfold piecesX; omega
theorem pieces_ok (l : List UInt8) (ps : List Str) (hl : l.length ≤ 140737488355328) (hp0 : 0 < ps.length) (hp1 : ps.length ≤ 1000) (hs : ∀ s ∈ ps, s.length ≤ 100) (p : Oid) :
    CallOK Tryz.prog 25 [.list 1 (l.map byA), .list 1 (ps.map AV.str)] (Oid.under p) ⟨[], .str (piecesX ps l), []⟩ := by
  refine fnOK (n := 31) (rs := [.tmp 4]) Tryz.func25 rfl rfl (by decide) rfl rfl rfl ?_; rintro x rfl hrd hng
  (repeat (first | (refine K_ifT rfl rfl ?_) | (refine K_ifF rfl rfl ?_) | (refine K_ev nmd [] hng (by kernel_rfl) fun hf C S K hC1 hC hS hK => ?_; simp (disch := first | omega | assumption) only [go_sem]; refine hK ?_; clear hK hS hC hC1 K S C hf) | ((first | refine zk ?_ | refine zn ?_ | refine ze ?_); with_reducible (constructor; repeat constructor); try refine zl ?_)))
  refine K_loop [0, 1, 5, 6] (fun k s' => ∃ (i c : Nat), k = 14 - i ∧ i ≤ 14 ∧ i ≤ l.length ∧ s' = ⟨[(0, .list 1 (l.map byA)), (1, .list 1 (ps.map AV.str)), (5, .str (piecesN ps l i)), (6, .int .i64 (i : Int))], Mem.of [], c, []⟩) _ ⟨0, _, rfl, Nat.zero_le _, Nat.zero_le _, rfl⟩ ?_
  rintro k s' ⟨i, c, rfl, hi, hil, rfl⟩
  have hlen := piecesN_len hs l i
  (try ((first | refine zk ?_ | refine zn ?_ | refine ze ?_); with_reducible (constructor; repeat constructor)); try refine zl ?_)
  refine K_cut [0, 1, 5, 6, 14] (fun s' => ∃ (b : Bool) (c' : Nat), s' = ⟨[(0, .list 1 (l.map byA)), (1, .list 1 (ps.map AV.str)), (5, .str (piecesN ps l i)), (6, .int .i64 (i : Int)), (14, .bool b)], Mem.of [], c', []⟩ ∧ (b = true ↔ i < min l.length 14)) ?_ ?_
  · refine K_ev nmd [(4, 11)] hng (by kernel_rfl) fun hf C S K hC1 hC hS hK => ?_; simp (disch := first | omega | assumption) only [go_sem, List.length_map, decide_true, decide_false, ne_eq, not_true_eq_false, not_false_eq_true]
    (repeat' (first | (refine evG_split (fun hv => ?_) (fun hv => ?_) <;> (try simp only [zb1, zb2, zb3, zb4, zb5] at hv) <;> simp (disch := first | omega | assumption) only [go_sem, hv, List.length_map, decide_true, decide_false, ne_eq, not_true_eq_false, not_false_eq_true]) | (refine hK ?_; clear hK hS hC hC1 K S C hf)))
    all_goals first
      | contradiction
      | exact K_cutN ⟨_, _, rfl, by simp only [decide_eq_true_eq]; omega⟩
      | exact K_cutN ⟨_, _, rfl, by simp only [Bool.false_eq_true, false_iff]; omega⟩
  rintro s' ⟨b, c', rfl, hiff⟩
  refine K_if rfl rfl (fun hb => ?_) (fun hb => ?_)
  · have h1 := hiff.1 hb
    have hlt : i < l.length := by omega
    have hst := piecesN_succ (ps := ps) hlt
    have hy := (l.getD i 0).toNat_lt
    have e0 : (default : UInt8) = 0 := rfl
    have hsm := getD_small hs ((l.getD i 0).toNat % ps.length)
    have hmod : (l.getD i 0).toNat % ps.length < ps.length := Nat.mod_lt _ hp0
    have htm := tmod_nat (l.getD i 0).toNat ps.length
    generalize hq : (l.getD i 0).toNat % ps.length = q at hst hsm hmod htm
    (repeat (first | (refine K_ifT rfl rfl ?_) | (refine K_ifF rfl rfl ?_) | (refine K_ev nmd [] hng (by kernel_rfl) fun hf C S K hC1 hC hS hK => ?_; simp (disch := first | omega | assumption) only [go_sem, List.length_map, byA, e0, htm]; (repeat ((first | refine hC1 _ () (by simp (disch := first | omega | assumption) only [go_sem]) ?_); simp (disch := first | omega | assumption) only [go_sem])); refine hK ?_; clear hK hS hC hC1 K S C hf) | ((first | refine zk ?_ | refine zn ?_ | refine ze ?_); with_reducible (constructor; repeat constructor); try refine zl ?_)))
    exact ⟨_, _, by omega, fun _ _ h => h, i + 1, _, rfl, by omega, by omega, by rw [hst]; rfl⟩
  · obtain rfl : i = min l.length 14 := by
      have : ¬ i < min l.length 14 := fun h => by rw [hiff.2 h] at hb; cases hb
      omega
    (repeat (first | (refine K_ifT rfl rfl ?_) | (refine K_ifF rfl rfl ?_) | (refine K_ev nmd [] hng (by kernel_rfl) fun hf C S K hC1 hC hS hK => ?_; simp (disch := first | omega | assumption) only [go_sem]; refine hK ?_; clear hK hS hC hC1 K S C hf) | ((first | refine zk ?_ | refine zn ?_ | refine ze ?_); with_reducible (constructor; repeat constructor); try refine zl ?_)))
    exact K_ret (done1 rfl)
end Go.Proofs.YtiaiggbimlbkfaaGreatDoor
namespace Go.Proofs.YtiaiggbimlbkfaaGreatDoor
open Go Go.Ab
set_option maxRecDepth 20000
set_option maxHeartbeats 4000000
theorem runR_sort (args : List Str) (t : Str) (r : Res) (hU : ∀ p, CallOK Tryz.prog 44 [.list 1 (args.map AV.str), .str t] (Oid.under p) ⟨[], r.av, []⟩) (p : Oid) :
    CallOK Tryz.prog 26 [.list 1 ((([115, 111, 114, 116] : Str) :: args).map AV.str), .str t] (Oid.under p) ⟨[], .tuple [r.av, .bool true], []⟩ := by
  obtain ⟨st, out, err⟩ := r
  simp only [Res.av] at hU
  refine fnOK (n := 90) (rs := [.cell 4 32, .tmp 5]) Tryz.func26 rfl rfl (by decide) rfl rfl rfl ?_; rintro x rfl hrd hng
  (repeat (first | (refine K_ifT rfl rfl ?_) | (refine K_ifF rfl rfl ?_) | (refine K_ev nmd [] hng (by kernel_rfl) fun hf C S K hC1 hC hS hK => ?_; simp (disch := first | omega | assumption) only [go_sem]; refine hK ?_; clear hK hS hC hC1 K S C hf) | ((first | refine zk ?_ | refine zn ?_ | refine ze ?_); with_reducible (constructor; repeat constructor); try refine zl ?_)))
  refine K_evd nmd [] [] mixed hng (by kernel_rfl) [1, 4, 6, 7] fun hf C S K hC hS hK => ?_; simp (disch := first | omega | assumption) only [go_sem]
  (first | refine hK (dynN_quiet rfl) ?_ | refine hK (by simp (disch := first | omega | assumption) only [go_sem, List.reverse_cons, List.reverse_nil, ne_eq, not_false_eq_true, implies_true]) ?_); clear hK hS hC K S C hf
  (repeat (first | (refine K_ifT rfl rfl ?_) | (refine K_ifF rfl rfl ?_) | (refine K_ev nmd [] hng (by kernel_rfl) fun hf C S K hC1 hC hS hK => ?_; simp (disch := first | omega | assumption) only [go_sem]; (repeat ((first | refine hC1 _ (hU _) (by simp (disch := first | omega | assumption) only [go_sem]) ?_); simp (disch := first | omega | assumption) only [go_sem])); refine hK ?_; clear hK hS hC hC1 K S C hf) | ((first | refine zk ?_ | refine zn ?_ | refine ze ?_); with_reducible (constructor; repeat constructor); try refine zl ?_)))
  exact K_ret (done_plain (by simp (disch := first | omega | assumption) only [go_sem, Res.av, toldR, badR, usageR]))
theorem runR_uniq (args : List Str) (t : Str) (r : Res) (hU : ∀ p, CallOK Tryz.prog 45 [.list 1 (args.map AV.str), .str t] (Oid.under p) ⟨[], r.av, []⟩) (p : Oid) :
    CallOK Tryz.prog 26 [.list 1 ((([117, 110, 105, 113] : Str) :: args).map AV.str), .str t] (Oid.under p) ⟨[], .tuple [r.av, .bool true], []⟩ := by
  obtain ⟨st, out, err⟩ := r
  simp only [Res.av] at hU
  refine fnOK (n := 90) (rs := [.cell 4 32, .tmp 5]) Tryz.func26 rfl rfl (by decide) rfl rfl rfl ?_; rintro x rfl hrd hng
  (repeat (first | (refine K_ifT rfl rfl ?_) | (refine K_ifF rfl rfl ?_) | (refine K_ev nmd [] hng (by kernel_rfl) fun hf C S K hC1 hC hS hK => ?_; simp (disch := first | omega | assumption) only [go_sem]; refine hK ?_; clear hK hS hC hC1 K S C hf) | ((first | refine zk ?_ | refine zn ?_ | refine ze ?_); with_reducible (constructor; repeat constructor); try refine zl ?_)))
  refine K_evd nmd [] [] mixed hng (by kernel_rfl) [1, 4, 6, 7] fun hf C S K hC hS hK => ?_; simp (disch := first | omega | assumption) only [go_sem]
  (first | refine hK (dynN_quiet rfl) ?_ | refine hK (by simp (disch := first | omega | assumption) only [go_sem, List.reverse_cons, List.reverse_nil, ne_eq, not_false_eq_true, implies_true]) ?_); clear hK hS hC K S C hf
  (repeat (first | (refine K_ifT rfl rfl ?_) | (refine K_ifF rfl rfl ?_) | (refine K_ev nmd [] hng (by kernel_rfl) fun hf C S K hC1 hC hS hK => ?_; simp (disch := first | omega | assumption) only [go_sem]; (repeat ((first | refine hC1 _ (hU _) (by simp (disch := first | omega | assumption) only [go_sem]) ?_); simp (disch := first | omega | assumption) only [go_sem])); refine hK ?_; clear hK hS hC hC1 K S C hf) | ((first | refine zk ?_ | refine zn ?_ | refine ze ?_); with_reducible (constructor; repeat constructor); try refine zl ?_)))
  exact K_ret (done_plain (by simp (disch := first | omega | assumption) only [go_sem, Res.av, toldR, badR, usageR]))
theorem same_sort (args : List Str) (hal : args.length ≤ 4000000) (t : Str) (ht : t.length ≤ 4000000) (p : Oid) (hp : p.mono = false) :
    CallOK Tryz.prog 17 [.list 1 ((([115, 111, 114, 116] : Str) :: args).map AV.str), .str t] (Oid.under p) ⟨[], .bool true, []⟩ := by
  have hr := fun p => sortedRef_ok args hal t ht p
  by_cases h : args.any oddS = true
  · rw [if_pos h] at hr
    exact same_of _ t _ true (fun p hp => run_any ([115, 111, 114, 116] : Str) (by decide) args t 33 (by kernel_rfl) (by kernel_rfl) badR false p (fun p _ => sort_bad args (by omega) t h p) hp)
      (fun p => runR_sort args t _ hr p) p hp
  · rw [if_neg h] at hr
    exact same_of _ t _ true (fun p hp => run_any ([115, 111, 114, 116] : Str) (by decide) args t 33 (by kernel_rfl) (by kernel_rfl) (toldR (joinN (sortRow args t))) true p (fun p _ => sort_ok args (by omega) t (by omega) (by simpa using h) p) hp)
      (fun p => runR_sort args t _ hr p) p hp
theorem same_uniq (args : List Str) (hal : args.length ≤ 4000000) (t : Str) (ht : t.length ≤ 4000000) (p : Oid) (hp : p.mono = false) :
    CallOK Tryz.prog 17 [.list 1 ((([117, 110, 105, 113] : Str) :: args).map AV.str), .str t] (Oid.under p) ⟨[], .bool true, []⟩ := by
  rcases uniq_cases args with ⟨cnt, hc⟩ | h
  · exact same_of _ t _ true (fun p hp => run_any ([117, 110, 105, 113] : Str) (by decide) args t 34 (by kernel_rfl) (by kernel_rfl) (toldR (runsT cnt (grp (linesL t)))) true p (fun p hp => uniq_ok args cnt hc t ht p hp) hp)
      (fun p => runR_uniq args t _ (fun p => unique_ok args cnt hc t ht p) p) p hp
  · exact same_of _ t _ true (fun p hp => run_any ([117, 110, 105, 113] : Str) (by decide) args t 34 (by kernel_rfl) (by kernel_rfl) badR false p (fun p _ => uniq_bad args h (by omega) t p) hp)
      (fun p => runR_uniq args t _ (fun p => unique_bad args h t p) p) p hp
def signsT : List Str := [[97], [98], [10], [97, 32, 98], [10, 98], [58], [99, 58, 100], [47], [10, 10], [97, 97], [32], [9]]
theorem text_ok (l : List UInt8) (hl : l.length ≤ 140737488355328) (p : Oid) : CallOK Tryz.prog 18 [.list 1 (l.map byA)] (Oid.under p) ⟨[], .str (piecesX signsT l), []⟩ := by
  have hpc := fun p => pieces_ok l signsT hl (by decide) (by decide) (by decide) p
  generalize piecesX signsT l = u at hpc
  simp only [List.map_cons, List.map_nil, signsT] at hpc
  refine fnOK (n := 6) (rs := [.tmp 2]) Tryz.func18 rfl rfl (by decide) rfl rfl rfl ?_; rintro x rfl hrd hng
  (repeat (first | (refine K_ifT rfl rfl ?_) | (refine K_ifF rfl rfl ?_) | (refine K_ev nmd [] hng (by kernel_rfl) fun hf C S K hC1 hC hS hK => ?_; simp (disch := first | omega | assumption) only [go_sem]; (repeat ((first | refine hC1 _ (hpc _) (by simp (disch := first | omega | assumption) only [go_sem]) ?_); simp (disch := first | omega | assumption) only [go_sem])); refine hK ?_; clear hK hS hC hC1 K S C hf) | ((first | refine zk ?_ | refine zn ?_ | refine ze ?_); with_reducible (constructor; repeat constructor); try refine zl ?_)))
  exact K_ret (done1 rfl)
end Go.Proofs.YtiaiggbimlbkfaaGreatDoor
namespace Go.Proofs
open Go.Shelf
def Tryz.Del_ren : Go.Shelf.Ren := ⟨fun | 10 => 74 | 6 => 91 | n => n, fun | 22 => 22 | 23 => 9 | 25 => 37 | 3 => 3 | 4 => 4 | 0 => 0 | n => n, fun | n => n⟩
theorem Tryz.Del : Go.Proofs.SlLaysH.n10 Tryz.prog Tryz.Del_ren := {
  mixed := by kernel_rfl
  f6 := ⟨Tryz.f91.name, by decide, Tryz.func91.trans (congrArg some (by kernel_rfl))⟩
  f10 := ⟨Tryz.f74.name, by decide, Tryz.func74.trans (congrArg some (by kernel_rfl))⟩
  t0 := Tryz.underlying0
  a0 := Tryz.isAgg0
  z0 := Tryz.sizeOf0
  v0 := Tryz.zeroValue0
  t3 := Tryz.underlying3
  a3 := Tryz.isAgg3
  z3 := Tryz.sizeOf3
  v3 := Tryz.zeroValue3
  t4 := Tryz.underlying4
  a4 := Tryz.isAgg4
  z4 := Tryz.sizeOf4
  v4 := Tryz.zeroValue4
  t22 := Tryz.underlying22
  a22 := Tryz.isAgg22
  z22 := Tryz.sizeOf22
  v22 := Tryz.zeroValue22
  a23 := Tryz.isAgg9
  z23 := Tryz.sizeOf9
  t25 := Tryz.underlying37
  a25 := Tryz.isAgg37
  z25 := Tryz.sizeOf37
  v25 := Tryz.zeroValue37 }
end Go.Proofs
namespace Go.Proofs.YtiaiggbimlbkfaaGreatDoor
open Go Go.Ab Go.RowKit Go.Sort
set_option maxRecDepth 100000
theorem grep_gives (s t : ByteArray) (B1 B2 a o k cap : Nat) (no : Bool) (m : Int) (W : World) (hn : k ≤ 4000000) (hs : s.size < 4294967281)
    (h1 : W.cell? ⟨B1, 0, none⟩ = some (.slice (some ⟨a, o, none⟩) (k + 1) cap)) (h2 : W.cell? ⟨a, o + k, none⟩ = some (.string t)) (h3 : W.cell? ⟨B2, 0, none⟩ = some (.bool no)) (h4 : W.cell? ⟨0, 0, none⟩ = some (.int .i64 m)) :
    FnGives Tryz.prog 75 #[.pointer (some ⟨B1, 0, none⟩), .pointer (some ⟨B2, 0, none⟩)] #[.string s] (.bool (Lib.contains s.data.toList t.data.toList == no)) W := by
  show Calls Tryz.prog 75 #[.string s, .pointer (some ⟨B1, 0, none⟩), .pointer (some ⟨B2, 0, none⟩)] W _
  have hwr : IntKind.i64.wrap (k : Int) = (k : Int) := by rw [IntKind.wrap_i64]; omega
  have hix0 : (0 : Int) ≤ (k : Int) := by omega
  have hix1 : (k : Int) < (k : Int) + 1 := by omega
  have hix2 : (k : Int) < ((k + 1 : Nat) : Int) := by omega
  have hix3 : k < k + 1 := by omega
  go_enter Tryz.func75, Tryz.ntmps75
  go_wp2
  go_quiet ((go_at_call 76; exact Calls.quiet_of_same (Tryz.strings_Contains s t m _ hs h4)))
  go_wp2
  go_ret
  exact ⟨rfl, _, rfl⟩
/-- A contract of the shelf that turns a row of strings, with more arguments and needs. -/
theorem row_turn2 (l l' tl : List Str) (f : FuncId) (he : entersB Tryz.prog f = true) (hl : ¬ l = []) (ht : l'.length + tl.length = l.length) (id p : Oid) (av : AV) (val : Nat → Nat → Value) (xs : List AV) (need : List (Oid × AObj))
    (hval : ∀ (g : Gh) (b cap : Nat), g.loc id = some (some b) → l.length ≤ cap → g.row b = some (cap * 1) → VR g av (val b cap))
    (h : ∀ (x : Ctx) (g : Gh) (m : Mem) (args : Array Value) (b cap : Nat) (w : World), MemRel x g m w → Fit Tryz.prog x → (∀ q ∈ need, m q.1 = some q.2) → m id = some (.arr 1 (l.map .str)) → g.loc id = some (some b) → (∀ k, g.com b k = none) → VRs g (.sl id 1 l.length :: xs) args → args.getD 0 undef = .slice (some ⟨b, 0, none⟩) l.length cap →
      Holds encStr w b 0 l.toArray → b < w.heap.size → l.length ≤ cap → Calls Tryz.prog f args w fun e w' => e = .returned (val b cap) ∧ ∃ n os, w' = grow (putRow encStr (Sort.ahead w n) b 0 (l' ++ tl).toArray) os) :
    CallOK Tryz.prog f (.sl id 1 l.length :: xs) (Oid.under p) ⟨(id, .arr 1 (l.map .str)) :: need, av, [(id, some (.arr 1 (l'.map .str)))]⟩ := by
  refine ⟨he, fun x g args w m hm hn hargs hsp hng => ?_⟩
  have hmi := hn _ List.mem_cons_self
  have hmn : ∀ q ∈ need, m q.1 = some q.2 := fun q hq => hn q (List.mem_cons_of_mem _ hq)
  simp only at hmi
  obtain ⟨v, hva⟩ : ∃ v, args.getD 0 undef = v := ⟨_, rfl⟩
  have a0 := hargs.2 0 (by simp)
  rw [hva, List.getD_cons_zero] at a0
  have hne : l.length ≠ 0 := fun e => hl (List.eq_nil_of_length_eq_zero e)
  obtain ⟨b, cap, rfl, hloc, hcap, hrow⟩ := a0.sl_inv'.resolve_left fun h => hne h.1
  obtain ⟨b0, hb0, hcom, hmay, hobj⟩ := hm.objL hmi hloc
  rw [hloc] at hb0; simp only [Option.some.injEq] at hb0; subst hb0
  obtain ⟨c, t, fz, hh, hcs, hfz, hxl, hone, hv⟩ := hobj
  have hlt := (Array.getElem?_eq_some_iff.1 hh).1
  simp only [List.length_map, Nat.mul_one] at hcs hxl hone hv
  have hav : ∀ (l : List Str) i, i < l.length → (l.map AV.str).getD i .undef = .str (l.getD i []) := fun l i hi => by simp [List.getD_eq_getElem?_getD, List.getElem?_map, List.getElem?_eq_getElem hi]
  have hcell : ∀ i, i < l.length → c.getD i undef = encStr (l.getD i []) := fun i hi => by
    have := hv i 0 hi (by omega)
    rw [hav l i hi] at this
    simp only [AV.cells, List.getD_cons_zero, Nat.mul_one, Nat.add_zero] at this
    exact str_enc.1 this
  have hH : Holds encStr w b 0 l.toArray := by
    intro j hj
    have hj' : j < l.length := by simpa using hj
    have hjc : j < c.size := by omega
    constructor
    · have h3 := hcell j hj'
      simp only [World.cell?, hh, Nat.zero_add, Option.isSome_none, Bool.false_eq_true, if_false, Array.getElem?_eq_getElem hjc, Option.some.injEq]
      rw [Array.getD_eq_getD_getElem?, Array.getElem?_eq_getElem hjc, Option.getD_some] at h3
      rw [h3]
      have h5 : l.toArray[j]! = l.getD j [] := by simp [List.getElem?_eq_getElem hj', hj']
      rw [h5]
    · simp only [World.frozen?, hh, Nat.zero_add]
      have := hfz j hjc
      by_cases h : fz.1 ≤ j
      · have : ¬ j < fz.2 := fun h' => this ⟨h, h'⟩
        simp [this]
      · simp [h]
  refine (h x g m args b cap w hm hng hmn hmi hloc hcom hargs hva hH hlt hcap).mono ?_
  rintro en w' ⟨rfl, n, os, rfl⟩
  show ∃ _ _, _
  refine ⟨g, _, rfl, Gh.le_refl g, fun _ _ => rfl, hval g b cap hloc hcap hrow, ?_⟩
  refine hm.turn (o := .arr 1 (l'.map .str)) hmi hloc rfl rfl ⟨rfl, Nat.le_add_right _ _⟩ sr_size (fun b' hb' hlt' => sr_other hb' hlt') (fun r hr => ?_) ?_ ?_
  · obtain ⟨c', t', fz', h2, h3⟩ := hm.rows b r hr
    exact ⟨_, _, _, sr_same h2, by rw [pc_size]; exact h3⟩
  · intro c9 t9 fz9 h9; exact ⟨_, _, sr_same h9⟩
  · have hget : ∀ i, i < l'.length → (putCells encStr 0 (l' ++ tl).toArray c).getD i undef = encStr (l'.getD i []) := fun i hi => by
      have hc2 : i < c.size := by omega
      have hi2 : i < l'.length + tl.length := by omega
      simp only [putCells, Array.getD_eq_getD_getElem?, Array.getElem?_mapIdx, Array.getElem?_eq_getElem hc2, Option.map_some, Option.getD_some, Nat.zero_le, true_and, Nat.zero_add, Nat.sub_zero, List.size_toArray, List.length_append, hi2, if_true]
      congr 1
      simp [List.getElem?_eq_getElem hi, hi, hi2, List.getElem_append_left hi]
    refine ⟨_, t, fz, sr_same hh, ?_, ?_, ?_, ?_, ?_⟩
    · rw [pc_size, List.length_map, Nat.mul_one]; omega
    · rw [pc_size]; exact hfz
    · intro i hi
      rw [hav _ i (by simpa using hi)]; rfl
    · intro j hj
      have hj' : j < l'.length := by simpa using hj
      rw [hget j hj']; rfl
    · intro i j hi hj
      have hi' : i < l'.length := by simpa using hi
      obtain rfl : j = 0 := by omega
      rw [hav _ i hi', Nat.mul_one, Nat.add_zero, hget i hi']
      exact .str _ _ rfl
/-- A text that is short enough for the library's search. -/
abbrev ShortS := { s : Str // s.length < 4294967281 }
instance : Inhabited ShortS := ⟨⟨[], by decide⟩⟩
def encH (s : ShortS) : Value := encStr s.1
theorem short_of : ∀ l : List Str, (∀ s ∈ l, s.length < 4294967281) → ∃ ds : List ShortS, ds.map (·.1) = l
  | [], _ => ⟨[], rfl⟩
  | s :: l, h => by
    obtain ⟨ds, hd⟩ := short_of l fun t ht => h t (List.mem_cons_of_mem _ ht)
    exact ⟨⟨s, h s List.mem_cons_self⟩ :: ds, by rw [List.map_cons, hd]⟩
theorem short_get (ds : List ShortS) (j : Nat) (hj : j < ds.length) : encH ds.toArray[j]! = encStr (ds.map (·.1)).toArray[j]! := by
  have h2 : j < (ds.map (·.1)).length := by simpa using hj
  unfold encH
  rw [getElem!_pos ds.toArray j (by simpa using hj), getElem!_pos (ds.map (·.1)).toArray j (by simpa using hj)]
  simp
theorem short_cells (ds : List ShortS) (c : Array Value) : putCells encH 0 ds.toArray c = putCells encStr 0 (ds.map (·.1)).toArray c := by
  unfold putCells
  congr 1
  funext k v
  simp only [Nat.zero_le, true_and, Nat.zero_add, List.size_toArray, List.length_map, Nat.sub_zero]
  split
  · rename_i hk; exact short_get ds k hk
  · rfl
theorem short_row (w : World) (b : Nat) (ds : List ShortS) : putRow encH w b 0 ds.toArray = putRow encStr w b 0 (ds.map (·.1)).toArray := by
  unfold putRow
  congr 1
  funext c
  exact short_cells ds c
/-- What grep drops. -/
def grepQ (no : Bool) (u s : Str) : Bool := Lib.contains s u == no
theorem block_lt {w : World} {b o : Nat} {v : Value} (h : w.cell? ⟨b, o, none⟩ = some v) : b < w.heap.size := by
  simp only [World.cell?] at h
  cases hb : w.heap[b]? with
  | none => rw [hb] at h; simp at h
  | some ob => exact (Array.getElem?_eq_some_iff.1 hb).1
theorem del_ok (l : List Str) (hl : ¬ l = []) (hls : l.length ≤ 9223372036854775807) (hlm : ∀ s ∈ l, s.length < 4294967281) (args : List Str) (k : Nat) (hk : args.length = k + 1) (hk2 : k ≤ 4000000) (no : Bool) (id bx bn p : Oid) (hix : ¬ id = bx) (hin : ¬ id = bn) :
    CallOK Tryz.prog 74 [.sl id 1 l.length, .fn (.func 75) [] [.ptr bx 0, .ptr bn 0]] (Oid.under p)
      ⟨[(id, .arr 1 (l.map .str)), (bx, .cells [.list 1 (args.map .str)]), (bn, .cells [.bool no])], .sl id 1 (l.filter fun s => !grepQ no (args.getD k []) s).length, [(id, some (.arr 1 ((l.filter fun s => !grepQ no (args.getD k []) s).map .str)))]⟩ := by
  have hfl : (l.filter fun s => !grepQ no (args.getD k []) s).length ≤ l.length := List.length_filter_le _ _
  refine row_turn2 l (l.filter fun s => !grepQ no (args.getD k []) s) (List.replicate (l.length - (l.filter fun s => !grepQ no (args.getD k []) s).length) []) _ (by kernel_rfl) hl (by rw [List.length_replicate]; omega) id p _
    (fun b cap => .slice (some ⟨b, 0, none⟩) (l.filter fun s => !grepQ no (args.getD k []) s).length cap) _ _ (fun g b cap h1 h2 h3 => .sl _ _ _ _ _ h1 (Nat.le_trans hfl h2) h3) ?_
  intro x g m av b cap w hm hx hn hmi hloc hcom hargs hv0 hH hb hcap
  have ht := hm.told hx
  obtain ⟨mx, hmx⟩ := maxlen ht
  -- the closure
  have a1 := hargs.2 1 (by simp)
  simp only [List.getD_cons_succ, List.getD_cons_zero] at a1
  obtain ⟨fa, fb, hf, hfs, hbs, _, hfv⟩ := a1.fn_inv
  have hfa : fa = #[] := Array.eq_empty_of_size_eq_zero hfs
  have c0 := hfv 0 (by simp)
  have c1 := hfv 1 (by simp)
  simp only [List.getD_cons_succ, List.getD_cons_zero] at c0 c1
  obtain ⟨b1, hb1, l1⟩ := c0.ptr_inv
  obtain ⟨b2, hb2, l2⟩ := c1.ptr_inv
  have hfb : fb = #[.pointer (some ⟨b1, 0, none⟩), .pointer (some ⟨b2, 0, none⟩)] := by
    have h2 : fb.size = 2 := hbs
    apply Array.ext
    · rw [h2]; rfl
    · intro j h3 h4
      have h3' : j < 2 := by omega
      rw [Array.getD_eq_getD_getElem?, Array.getElem?_eq_getElem (by omega)] at hb1 hb2
      match j, h3' with
      | 0, _ => simpa using hb1
      | 1, _ => simpa using hb2
  have hav : av = #[.slice (some ⟨b, 0, none⟩) l.length cap, .func (.func 75) #[] #[.pointer (some ⟨b1, 0, none⟩), .pointer (some ⟨b2, 0, none⟩)]] := by
    have h2 : av.size = 2 := hargs.1
    apply Array.ext
    · rw [h2]; rfl
    · intro j h3 h4
      have h3' : j < 2 := by omega
      rw [Array.getD_eq_getD_getElem?, Array.getElem?_eq_getElem (by omega)] at hv0
      rw [Array.getD_eq_getD_getElem?, Array.getElem?_eq_getElem (by omega)] at hf
      match j, h3' with
      | 0, _ => simpa using hv0
      | 1, _ => rw [hfa, hfb] at hf; simpa using hf
  -- what it bears
  have n1 := hn (bx, .cells [.list 1 (args.map .str)]) (by simp)
  have n2 := hn (bn, .cells [.bool no]) (by simp)
  obtain ⟨b1', e1, cm1, _, ob1⟩ := hm.objL n1 l1
  rw [l1] at e1; simp only [Option.some.injEq] at e1; subst e1
  obtain ⟨b2', e2, cm2, _, ob2⟩ := hm.objL n2 l2
  rw [l2] at e2; simp only [Option.some.injEq] at e2; subst e2
  have d1 : b1 ≠ b := fun e => hix (hm.inj _ _ _ _ b hmi n1 hloc (e ▸ l1))
  have d2 : b2 ≠ b := fun e => hin (hm.inj _ _ _ _ b hmi n2 hloc (e ▸ l2))
  obtain ⟨q1, t1, f1, g1, s1, _, v1⟩ := ob1
  obtain ⟨q2, t2, f2, g2, s2, _, v2⟩ := ob2
  have w1 := v1 0 (by simp)
  have w2 := v2 0 (by simp)
  simp only [List.getD_cons_zero] at w1 w2
  have hq2 : w.cell? ⟨b2, 0, none⟩ = some (.bool no) := by
    have hs : q2.size = 1 := s2
    have e : q2.getD 0 undef = .bool no := by generalize q2.getD 0 undef = z at w2; cases w2; rfl
    rw [Array.getD_eq_getD_getElem?, Array.getElem?_eq_getElem (by omega), Option.getD_some] at e
    simp only [World.cell?, g2, Option.isSome_none, Bool.false_eq_true, if_false]
    rw [Array.getElem?_eq_getElem (by omega), e]
  rcases w1.list_inv with ⟨h0, _⟩ | ⟨a, o, cp, cs, e1, _, _, hc, hcv⟩
  · exact absurd (congrArg List.length h0) (by rw [List.length_map, hk]; simp)
  rw [List.length_map, hk] at e1 hc hcv
  have hq1 : w.cell? ⟨b1, 0, none⟩ = some (.slice (some ⟨a, o, none⟩) (k + 1) cp) := by
    have hs : q1.size = 1 := s1
    rw [Array.getD_eq_getD_getElem?, Array.getElem?_eq_getElem (by omega), Option.getD_some] at e1
    simp only [World.cell?, g1, Option.isSome_none, Bool.false_eq_true, if_false]
    rw [Array.getElem?_eq_getElem (by omega), e1]
  have hgk := hc k 0 (by omega) (by omega)
  have hvk := hcv k 0 (by omega) (by omega)
  have hgd : (args.map AV.str).getD k .undef = .str (args.getD k []) := by simp [List.getD_eq_getElem?_getD, List.getElem?_map, List.getElem?_eq_getElem (show k < args.length by omega)]
  rw [hgd] at hvk
  simp only [AV.cells, List.getD_cons_zero] at hvk
  rw [Nat.mul_one, Nat.add_zero] at hgk
  have hck := ht.com _ _ _ hgk
  rw [str_enc.1 hvk] at hck
  have da : a ≠ b := fun e => by rw [e, hcom] at hgk; cases hgk
  have dm : 0 ≠ b := fun e => by
    obtain ⟨_, _, _, _, m', h7⟩ := ht.facts
    rw [e, hcom] at h7; cases h7
  have gives : ∀ (W : World) (y : ShortS), W.cell? ⟨b1, 0, none⟩ = w.cell? ⟨b1, 0, none⟩ → W.cell? ⟨a, o + k, none⟩ = w.cell? ⟨a, o + k, none⟩ → W.cell? ⟨b2, 0, none⟩ = w.cell? ⟨b2, 0, none⟩ → W.cell? ⟨0, 0, none⟩ = w.cell? ⟨0, 0, none⟩ →
      FnGives Tryz.prog 75 #[.pointer (some ⟨b1, 0, none⟩), .pointer (some ⟨b2, 0, none⟩)] #[encH y] (.bool (grepQ no (args.getD k []) y.1)) W := fun W y h1 h2 h3 h4 =>
    grep_gives ⟨y.1.toArray⟩ ⟨(args.getD k []).toArray⟩ b1 b2 a o k cp no mx W hk2 (by show y.1.toArray.size < _; simpa using y.2) (h1.trans hq1) (h2.trans hck) (h3.trans hq2) (h4.trans hmx)
  obtain ⟨ds, rfl⟩ := short_of l hlm
  have eg : ∀ args w, (callFunc 75 args).run Tryz.prog w = .ok (.enter 75 args) w := enters_of Tryz.func75 (by kernel_rfl) rfl
  have hHs : Holds encH w b 0 ds.toArray := fun j hj => by
    have hj' : j < ds.length := by simpa using hj
    have := hH j (by simpa using hj)
    rwa [← short_get ds j hj'] at this
  have con := AnyE.slices_DeleteFunc Tryz.Del encH (fun _ => rfl) (fun y : ShortS => grepQ no (args.getD k []) y.1) 75 #[.pointer (some ⟨b1, 0, none⟩), .pointer (some ⟨b2, 0, none⟩)] eg default Tryz.zeroValue9 b 0 cap ds.toArray w
    (fun W y hb => gives W y (hb.cell (block_lt hq1)) (hb.cell (block_lt hck)) (hb.cell (block_lt hq2)) (hb.cell (block_lt hmx)))
    (fun n os dk y _ => by
      have same : ∀ b' o', b' ≠ b → b' < w.heap.size → (sortWorld encH w b 0 n dk os).cell? ⟨b', o', none⟩ = w.cell? ⟨b', o', none⟩ := fun b' o' h1 h2 => by
        unfold sortWorld
        rw [cell?_grow _ _ _ (by show b' < (putRow _ _ _ _ _).heap.size; rw [size_putRow]; exact h2), cell?_putRow_other _ _ b 0 _ _ (Or.inl h1)]
        rfl
      exact gives _ y (same _ _ d1 (block_lt hq1)) (same _ _ da (block_lt hck)) (same _ _ d2 (block_lt hq2)) (same _ _ dm (block_lt hmx)))
    hHs (by simpa using hls) (by simpa using hcap)
  change Calls Tryz.prog 74 _ _ _ at con
  rw [hav]
  have hsz : ds.toArray.size = (ds.map (·.1)).length := by simp
  rw [hsz] at con
  refine con.mono ?_
  rintro e w' ⟨rfl, q, rfl⟩
  have hfm : (ds.filter fun y : ShortS => !grepQ no (args.getD k []) y.1).map (·.1) = (ds.map (·.1)).filter fun s => !grepQ no (args.getD k []) s := by rw [List.filter_map]; rfl
  have hfl2 : (ds.filter fun y : ShortS => !grepQ no (args.getD k []) y.1).length = ((ds.map (·.1)).filter fun s => !grepQ no (args.getD k []) s).length := by rw [← hfm, List.length_map]
  refine ⟨by rw [← hfl2], q, #[], ?_⟩
  rw [short_row, grow_none, List.map_append, List.map_replicate]
  simp only [hfl2]
  rw [hfm]; rfl
end Go.Proofs.YtiaiggbimlbkfaaGreatDoor
namespace Go.Proofs.YtiaiggbimlbkfaaGreatDoor
open Go Go.Ab
set_option maxRecDepth 20000
set_option maxHeartbeats 4000000
def GrepV (args : List Str) (no : Bool) (u : Str) : Prop := (args = [u] ∧ no = false) ∨ (args = [[45, 118], u] ∧ no = true)
def grepRow (no : Bool) (u t : Str) : List Str := (linesL t).filter fun s => !grepQ no u s
def grepR (no : Bool) (u t : Str) : Res := if grepRow no u t = [] then ⟨1, [], []⟩ else toldR (joinN (grepRow no u t))
theorem grep_cases (args : List Str) : (∃ no u, GrepV args no u) ∨ (¬ args.length = 1 ∧ ∀ u, ¬ args = [[45, 118], u]) := by
  match args with
  | [] => exact .inr ⟨by simp, fun u h => by cases h⟩
  | [u] => exact .inl ⟨false, u, .inl ⟨rfl, rfl⟩⟩
  | [a, u] =>
    by_cases ha : a = [45, 118]
    · exact .inl ⟨true, u, .inr ⟨by rw [ha], rfl⟩⟩
    · exact .inr ⟨by simp, fun u h => ha (by rw [List.cons.injEq] at h; exact h.1)⟩
  | a :: b :: c :: r => exact .inr ⟨by simp, fun u h => by simp at h⟩
theorem ix_nil (f : AV) (p : Oid) : CallOK Tryz.prog 91 [.nilSl, f] (Oid.under p) ⟨[], .int .i64 (-1), []⟩ := by
  refine fnOK (n := 19) (rs := [.tmp 4]) Tryz.func91 rfl rfl (by decide) rfl rfl rfl ?_; rintro x rfl hrd hng
  (repeat (first | (refine K_ifT rfl rfl ?_) | (refine K_ifF rfl rfl ?_) | (refine K_ev nmd [] hng (by kernel_rfl) fun hf C S K hC1 hC hS hK => ?_; simp (disch := first | omega | assumption) only [go_sem]; refine hK ?_; clear hK hS hC hC1 K S C hf) | ((first | refine zk ?_ | refine zn ?_ | refine ze ?_); with_reducible (constructor; repeat constructor); try refine zl ?_)))
  refine K_loop [7, 8] (fun k s' => ∃ c : Nat, k = 0 ∧ s' = ⟨[(7, .int .i64 0), (8, .int .i64 0)], Mem.of [], c, []⟩) _ ⟨_, rfl, rfl⟩ ?_
  rintro k s' ⟨c, rfl, rfl⟩
  (repeat (first | (refine K_ifT rfl rfl ?_) | (refine K_ifF rfl rfl ?_) | (refine K_ev nmd [] hng (by kernel_rfl) fun hf C S K hC1 hC hS hK => ?_; simp (disch := first | omega | assumption) only [go_sem]; refine hK ?_; clear hK hS hC hC1 K S C hf) | ((first | refine zk ?_ | refine zn ?_ | refine ze ?_); with_reducible (constructor; repeat constructor); try refine zl ?_)))
  exact K_ret (done1 rfl)
theorem del_nil (f : AV) (p : Oid) : CallOK Tryz.prog 74 [.nilSl, f] (Oid.under p) ⟨[], .nilSl, []⟩ := by
  refine fnOK (n := 42) (rs := [.tmp 4]) Tryz.func74 rfl rfl (by decide) rfl rfl rfl ?_; rintro x rfl hrd hng
  (repeat (first | (refine K_ifT rfl rfl ?_) | (refine K_ifF rfl rfl ?_) | (refine K_ev nmd [] hng (by kernel_rfl) fun hf C S K hC1 hC hS hK => ?_; simp (disch := first | omega | assumption) only [go_sem]; (repeat ((first | refine hC1 _ (ix_nil _ _) (by simp (disch := first | omega | assumption) only [go_sem]) ?_); simp (disch := first | omega | assumption) only [go_sem])); refine hK ?_; clear hK hS hC hC1 K S C hf) | ((first | refine zk ?_ | refine zn ?_ | refine ze ?_); with_reducible (constructor; repeat constructor); try refine zl ?_)))
  exact K_ret (done1 rfl)
theorem joinN_mem0 (l : List Str) (i : Nat) : (l.getD i default).length ≤ (joinN l).length := by
  rw [List.getD_eq_getElem?_getD]
  induction l generalizing i with
  | nil => simp; exact Nat.zero_le _
  | cons s l ih =>
    cases i with
    | zero => simp only [List.getElem?_cons_zero, Option.getD_some, joinN, List.length_append]; omega
    | succ i => have := ih i; simp only [List.getElem?_cons_succ, joinN, List.length_append]; omega
theorem grep_ok (args : List Str) (no : Bool) (u : Str) (h : GrepV args no u) (t : Str) (htl : t.length ≤ 4000000) (p : Oid) :
    CallOK Tryz.prog 37 [.list 1 (args.map AV.str), .str t] (Oid.under p) ⟨[], .tuple [(grepR no u t).av, .bool true], []⟩ := by
  have hjl := joinN_lines t
  have hjn := joinN_len (linesL t)
  have hlm : ∀ s ∈ linesL t, s.length < 4294967281 := fun s hs => by
    obtain ⟨i, hi, he⟩ := List.mem_iff_getElem.1 hs
    have h1 := joinN_mem0 (linesL t) i
    rw [List.getD_eq_getElem?_getD, List.getElem?_eq_getElem hi, he] at h1
    simp only [Option.getD_some] at h1
    omega
  have hrw : (joinN (grepRow no u t)).length ≤ (joinN (linesL t)).length := joinN_sub List.filter_sublist
  rcases h with ⟨rfl, rfl⟩ | ⟨rfl, rfl⟩
  · by_cases h0 : t = []
    · subst h0
      rw [show grepR false u [] = ⟨1, [], []⟩ from rfl]
      refine fnOK (n := 40) (rs := [.cell 4 32, .tmp 5]) Tryz.func37 rfl rfl (by decide) rfl rfl rfl ?_; rintro x rfl hrd hng
      (try ((first | refine zk ?_ | refine zn ?_ | refine ze ?_); with_reducible (constructor; repeat constructor)); try refine zl ?_)
      refine K_ev nmd [] hng (by kernel_rfl) fun hf C S K hC1 hC hS hK => ?_; simp (disch := first | omega | assumption) only [go_sem]
      refine hK ?_; clear hK hS hC hC1 K S C hf
      (try ((first | refine zk ?_ | refine zn ?_ | refine ze ?_); with_reducible (constructor; repeat constructor)); try refine zl ?_)
      refine K_ev nmd [(3, 11)] hng (by kernel_rfl) fun hf C S K hC1 hC hS hK => ?_; simp (disch := first | omega | assumption) only [go_sem, decide_true, decide_false, ne_eq, not_true_eq_false, not_false_eq_true]
      (repeat' (first | (refine evG_split (fun hv => ?_) (fun hv => ?_) <;> (try simp only [zb1, zb2, zb3, zb4, zb5] at hv) <;> simp (disch := first | omega | assumption) only [go_sem, hv, decide_true, decide_false, ne_eq, not_true_eq_false, not_false_eq_true]) | (refine hK ?_; clear hK hS hC hC1 K S C hf)))
      all_goals first | contradiction | exact absurd rfl hv | skip
      (try ((first | refine zk ?_ | refine zn ?_ | refine ze ?_); with_reducible (constructor; repeat constructor)); try refine zl ?_)
      refine K_ev nmd [(3, 20)] hng (by kernel_rfl) fun hf C S K hC1 hC hS hK => ?_; simp (disch := first | omega | assumption) only [go_sem, decide_true, decide_false, ne_eq, not_true_eq_false, not_false_eq_true]
      (repeat' (first | (refine evG_split (fun hv => ?_) (fun hv => ?_) <;> (try simp only [zb1, zb2, zb3, zb4, zb5] at hv) <;> simp (disch := first | omega | assumption) only [go_sem, hv, decide_true, decide_false, ne_eq, not_true_eq_false, not_false_eq_true]) | (refine hK ?_; clear hK hS hC hC1 K S C hf)))
      all_goals first | contradiction | exact absurd rfl hv | skip
      (repeat (first | (refine K_ifT rfl rfl ?_) | (refine K_ifF rfl rfl ?_) | (refine K_ev nmd [] hng (by kernel_rfl) fun hf C S K hC1 hC hS hK => ?_; simp (disch := first | omega | assumption) only [go_sem]; (repeat ((first | refine hC1 _ (lines_nil _) (by simp (disch := first | omega | assumption) only [go_sem]) ?_ | refine hC1 _ (del_nil _ _) (by simp (disch := first | omega | assumption) only [go_sem]) ?_); simp (disch := first | omega | assumption) only [go_sem])); refine hK ?_; clear hK hS hC hC1 K S C hf) | ((first | refine zk ?_ | refine zn ?_ | refine ze ?_); with_reducible (constructor; repeat constructor); try refine zl ?_)))
      exact K_ret (done_plain (by simp (disch := first | omega | assumption) only [go_sem, Res.av, toldR, badR, usageR]))
    · have hne := linesL_ne h0
      have hD : ∀ id bx bn p, ¬ id = bx → ¬ id = bn → CallOK Tryz.prog 74 [.sl id 1 (linesL t).length, .fn (.func 75) [] [.ptr bx 0, .ptr bn 0]] (Oid.under p)
          ⟨[(id, .arr 1 ((linesL t).map .str)), (bx, .cells [.list 1 [.str u]]), (bn, .cells [.bool false])], .sl id 1 (grepRow false u t).length, [(id, some (.arr 1 ((grepRow false u t).map .str)))]⟩ :=
        fun id bx bn p h1 h2 => del_ok (linesL t) hne (by omega) hlm [u] 0 rfl (by omega) false id bx bn p h1 h2
      unfold grepR
      generalize grepRow false u t = row at hD hrw
      refine fnOK (n := 40) (rs := [.cell 4 32, .tmp 5]) Tryz.func37 rfl rfl (by decide) rfl rfl rfl ?_; rintro x rfl hrd hng
      (try ((first | refine zk ?_ | refine zn ?_ | refine ze ?_); with_reducible (constructor; repeat constructor)); try refine zl ?_)
      refine K_ev nmd [] hng (by kernel_rfl) fun hf C S K hC1 hC hS hK => ?_; simp (disch := first | omega | assumption) only [go_sem]
      refine hK ?_; clear hK hS hC hC1 K S C hf
      (try ((first | refine zk ?_ | refine zn ?_ | refine ze ?_); with_reducible (constructor; repeat constructor)); try refine zl ?_)
      refine K_ev nmd [(3, 11)] hng (by kernel_rfl) fun hf C S K hC1 hC hS hK => ?_; simp (disch := first | omega | assumption) only [go_sem, decide_true, decide_false, ne_eq, not_true_eq_false, not_false_eq_true]
      (repeat' (first | (refine evG_split (fun hv => ?_) (fun hv => ?_) <;> (try simp only [zb1, zb2, zb3, zb4, zb5] at hv) <;> simp (disch := first | omega | assumption) only [go_sem, hv, decide_true, decide_false, ne_eq, not_true_eq_false, not_false_eq_true]) | (refine hK ?_; clear hK hS hC hC1 K S C hf)))
      all_goals first | contradiction | exact absurd rfl hv | skip
      (try ((first | refine zk ?_ | refine zn ?_ | refine ze ?_); with_reducible (constructor; repeat constructor)); try refine zl ?_)
      refine K_ev nmd [(3, 20)] hng (by kernel_rfl) fun hf C S K hC1 hC hS hK => ?_; simp (disch := first | omega | assumption) only [go_sem, decide_true, decide_false, ne_eq, not_true_eq_false, not_false_eq_true]
      (repeat' (first | (refine evG_split (fun hv => ?_) (fun hv => ?_) <;> (try simp only [zb1, zb2, zb3, zb4, zb5] at hv) <;> simp (disch := first | omega | assumption) only [go_sem, hv, decide_true, decide_false, ne_eq, not_true_eq_false, not_false_eq_true]) | (refine hK ?_; clear hK hS hC hC1 K S C hf)))
      all_goals first | contradiction | exact absurd rfl hv | skip
      (repeat (first | (refine K_ifT rfl rfl ?_) | (refine K_ifF rfl rfl ?_) | (refine K_ev nmd [] hng (by kernel_rfl) fun hf C S K hC1 hC hS hK => ?_; simp (disch := first | omega | assumption) only [go_sem]; (repeat ((first | refine hC1 _ (lines_sl t h0 (by omega) _) (by simp (disch := first | omega | assumption) only [go_sem]) ?_ | refine hC1 _ (hD _ _ _ _ (by simp [sub2_ne]) (by simp [sub2_ne])) (by simp (disch := first | omega | assumption) only [go_sem]) ?_); simp (disch := first | omega | assumption) only [go_sem])); refine hK ?_; clear hK hS hC hC1 K S C hf) | ((first | refine zk ?_ | refine zn ?_ | refine ze ?_); with_reducible (constructor; repeat constructor); try refine zl ?_)))
      refine K_ifd rfl rfl (fun hb => ?_) (fun hb => ?_)
      · have hr : row = [] := List.eq_nil_of_length_eq_zero (by omega)
        subst hr
        rw [if_pos rfl]
        (repeat (first | (refine K_ifT rfl rfl ?_) | (refine K_ifF rfl rfl ?_) | (refine K_ev nmd [] hng (by kernel_rfl) fun hf C S K hC1 hC hS hK => ?_; simp (disch := first | omega | assumption) only [go_sem]; refine hK ?_; clear hK hS hC hC1 K S C hf) | ((first | refine zk ?_ | refine zn ?_ | refine ze ?_); with_reducible (constructor; repeat constructor); try refine zl ?_)))
        exact K_ret (done_plain (by simp (disch := first | omega | assumption) only [go_sem, Res.av, toldR, badR, usageR]))
      · have hr : ¬ row = [] := fun e => hb (by rw [e]; rfl)
        rw [if_neg hr]
        (try ((first | refine zk ?_ | refine zn ?_ | refine ze ?_); with_reducible (constructor; repeat constructor)); try refine zl ?_)
        refine K_freeze (rowL (.sub 3 1 x.p)) 1 (row.map AV.str) (by simp (disch := first | omega | assumption) only [go_sem]) ?_
        simp (disch := first | omega | assumption) only [go_sem, List.length_map]
        (repeat (first | (refine K_ifT rfl rfl ?_) | (refine K_ifF rfl rfl ?_) | (refine K_ev nmd [] hng (by kernel_rfl) fun hf C S K hC1 hC hS hK => ?_; simp (disch := first | omega | assumption) only [go_sem]; (repeat ((first | refine hC1 _ (joined_ok row (by omega) _) (by simp (disch := first | omega | assumption) only [go_sem]) ?_ | refine hC1 _ (told_x (joinN row) _) (by simp (disch := first | omega | assumption) only [go_sem]) ?_); simp (disch := first | omega | assumption) only [go_sem])); refine hK ?_; clear hK hS hC hC1 K S C hf) | ((first | refine zk ?_ | refine zn ?_ | refine ze ?_); with_reducible (constructor; repeat constructor); try refine zl ?_)))
        exact K_ret (done_plain (by simp (disch := first | omega | assumption) only [go_sem, Res.av, toldR, badR, usageR]))
  · by_cases h0 : t = []
    · subst h0
      rw [show grepR true u [] = ⟨1, [], []⟩ from rfl]
      refine fnOK (n := 40) (rs := [.cell 4 32, .tmp 5]) Tryz.func37 rfl rfl (by decide) rfl rfl rfl ?_; rintro x rfl hrd hng
      (try ((first | refine zk ?_ | refine zn ?_ | refine ze ?_); with_reducible (constructor; repeat constructor)); try refine zl ?_)
      refine K_ev nmd [] hng (by kernel_rfl) fun hf C S K hC1 hC hS hK => ?_; simp (disch := first | omega | assumption) only [go_sem]
      refine hK ?_; clear hK hS hC hC1 K S C hf
      (try ((first | refine zk ?_ | refine zn ?_ | refine ze ?_); with_reducible (constructor; repeat constructor)); try refine zl ?_)
      refine K_ev nmd [(3, 11)] hng (by kernel_rfl) fun hf C S K hC1 hC hS hK => ?_; simp (disch := first | omega | assumption) only [go_sem, decide_true, decide_false, ne_eq, not_true_eq_false, not_false_eq_true]
      (repeat' (first | (refine evG_split (fun hv => ?_) (fun hv => ?_) <;> (try simp only [zb1, zb2, zb3, zb4, zb5] at hv) <;> simp (disch := first | omega | assumption) only [go_sem, hv, decide_true, decide_false, ne_eq, not_true_eq_false, not_false_eq_true]) | (refine hK ?_; clear hK hS hC hC1 K S C hf)))
      all_goals first | contradiction | exact absurd rfl hv | skip
      (try ((first | refine zk ?_ | refine zn ?_ | refine ze ?_); with_reducible (constructor; repeat constructor)); try refine zl ?_)
      refine K_ev nmd [(3, 20)] hng (by kernel_rfl) fun hf C S K hC1 hC hS hK => ?_; simp (disch := first | omega | assumption) only [go_sem, decide_true, decide_false, ne_eq, not_true_eq_false, not_false_eq_true]
      (repeat' (first | (refine evG_split (fun hv => ?_) (fun hv => ?_) <;> (try simp only [zb1, zb2, zb3, zb4, zb5] at hv) <;> simp (disch := first | omega | assumption) only [go_sem, hv, decide_true, decide_false, ne_eq, not_true_eq_false, not_false_eq_true]) | (refine hK ?_; clear hK hS hC hC1 K S C hf)))
      all_goals first | contradiction | exact absurd rfl hv | skip
      (repeat (first | (refine K_ifT rfl rfl ?_) | (refine K_ifF rfl rfl ?_) | (refine K_ev nmd [] hng (by kernel_rfl) fun hf C S K hC1 hC hS hK => ?_; simp (disch := first | omega | assumption) only [go_sem]; (repeat ((first | refine hC1 _ (lines_nil _) (by simp (disch := first | omega | assumption) only [go_sem]) ?_ | refine hC1 _ (del_nil _ _) (by simp (disch := first | omega | assumption) only [go_sem]) ?_); simp (disch := first | omega | assumption) only [go_sem])); refine hK ?_; clear hK hS hC hC1 K S C hf) | ((first | refine zk ?_ | refine zn ?_ | refine ze ?_); with_reducible (constructor; repeat constructor); try refine zl ?_)))
      exact K_ret (done_plain (by simp (disch := first | omega | assumption) only [go_sem, Res.av, toldR, badR, usageR]))
    · have hne := linesL_ne h0
      have hD : ∀ id bx bn p, ¬ id = bx → ¬ id = bn → CallOK Tryz.prog 74 [.sl id 1 (linesL t).length, .fn (.func 75) [] [.ptr bx 0, .ptr bn 0]] (Oid.under p)
          ⟨[(id, .arr 1 ((linesL t).map .str)), (bx, .cells [.list 1 [.str [45, 118], .str u]]), (bn, .cells [.bool true])], .sl id 1 (grepRow true u t).length, [(id, some (.arr 1 ((grepRow true u t).map .str)))]⟩ :=
        fun id bx bn p h1 h2 => del_ok (linesL t) hne (by omega) hlm [[45, 118], u] 1 rfl (by omega) true id bx bn p h1 h2
      unfold grepR
      generalize grepRow true u t = row at hD hrw
      refine fnOK (n := 40) (rs := [.cell 4 32, .tmp 5]) Tryz.func37 rfl rfl (by decide) rfl rfl rfl ?_; rintro x rfl hrd hng
      (try ((first | refine zk ?_ | refine zn ?_ | refine ze ?_); with_reducible (constructor; repeat constructor)); try refine zl ?_)
      refine K_ev nmd [] hng (by kernel_rfl) fun hf C S K hC1 hC hS hK => ?_; simp (disch := first | omega | assumption) only [go_sem]
      refine hK ?_; clear hK hS hC hC1 K S C hf
      (try ((first | refine zk ?_ | refine zn ?_ | refine ze ?_); with_reducible (constructor; repeat constructor)); try refine zl ?_)
      refine K_ev nmd [(3, 11)] hng (by kernel_rfl) fun hf C S K hC1 hC hS hK => ?_; simp (disch := first | omega | assumption) only [go_sem, decide_true, decide_false, ne_eq, not_true_eq_false, not_false_eq_true]
      (repeat' (first | (refine evG_split (fun hv => ?_) (fun hv => ?_) <;> (try simp only [zb1, zb2, zb3, zb4, zb5] at hv) <;> simp (disch := first | omega | assumption) only [go_sem, hv, decide_true, decide_false, ne_eq, not_true_eq_false, not_false_eq_true]) | (refine hK ?_; clear hK hS hC hC1 K S C hf)))
      all_goals first | contradiction | exact absurd rfl hv | skip
      (try ((first | refine zk ?_ | refine zn ?_ | refine ze ?_); with_reducible (constructor; repeat constructor)); try refine zl ?_)
      refine K_ev nmd [(3, 20)] hng (by kernel_rfl) fun hf C S K hC1 hC hS hK => ?_; simp (disch := first | omega | assumption) only [go_sem, decide_true, decide_false, ne_eq, not_true_eq_false, not_false_eq_true]
      (repeat' (first | (refine evG_split (fun hv => ?_) (fun hv => ?_) <;> (try simp only [zb1, zb2, zb3, zb4, zb5] at hv) <;> simp (disch := first | omega | assumption) only [go_sem, hv, decide_true, decide_false, ne_eq, not_true_eq_false, not_false_eq_true]) | (refine hK ?_; clear hK hS hC hC1 K S C hf)))
      all_goals first | contradiction | exact absurd rfl hv | skip
      (repeat (first | (refine K_ifT rfl rfl ?_) | (refine K_ifF rfl rfl ?_) | (refine K_ev nmd [] hng (by kernel_rfl) fun hf C S K hC1 hC hS hK => ?_; simp (disch := first | omega | assumption) only [go_sem]; (repeat ((first | refine hC1 _ (lines_sl t h0 (by omega) _) (by simp (disch := first | omega | assumption) only [go_sem]) ?_ | refine hC1 _ (hD _ _ _ _ (by simp [sub2_ne]) (by simp [sub2_ne])) (by simp (disch := first | omega | assumption) only [go_sem]) ?_); simp (disch := first | omega | assumption) only [go_sem])); refine hK ?_; clear hK hS hC hC1 K S C hf) | ((first | refine zk ?_ | refine zn ?_ | refine ze ?_); with_reducible (constructor; repeat constructor); try refine zl ?_)))
      refine K_ifd rfl rfl (fun hb => ?_) (fun hb => ?_)
      · have hr : row = [] := List.eq_nil_of_length_eq_zero (by omega)
        subst hr
        rw [if_pos rfl]
        (repeat (first | (refine K_ifT rfl rfl ?_) | (refine K_ifF rfl rfl ?_) | (refine K_ev nmd [] hng (by kernel_rfl) fun hf C S K hC1 hC hS hK => ?_; simp (disch := first | omega | assumption) only [go_sem]; refine hK ?_; clear hK hS hC hC1 K S C hf) | ((first | refine zk ?_ | refine zn ?_ | refine ze ?_); with_reducible (constructor; repeat constructor); try refine zl ?_)))
        exact K_ret (done_plain (by simp (disch := first | omega | assumption) only [go_sem, Res.av, toldR, badR, usageR]))
      · have hr : ¬ row = [] := fun e => hb (by rw [e]; rfl)
        rw [if_neg hr]
        (try ((first | refine zk ?_ | refine zn ?_ | refine ze ?_); with_reducible (constructor; repeat constructor)); try refine zl ?_)
        refine K_freeze (rowL (.sub 3 1 x.p)) 1 (row.map AV.str) (by simp (disch := first | omega | assumption) only [go_sem]) ?_
        simp (disch := first | omega | assumption) only [go_sem, List.length_map]
        (repeat (first | (refine K_ifT rfl rfl ?_) | (refine K_ifF rfl rfl ?_) | (refine K_ev nmd [] hng (by kernel_rfl) fun hf C S K hC1 hC hS hK => ?_; simp (disch := first | omega | assumption) only [go_sem]; (repeat ((first | refine hC1 _ (joined_ok row (by omega) _) (by simp (disch := first | omega | assumption) only [go_sem]) ?_ | refine hC1 _ (told_x (joinN row) _) (by simp (disch := first | omega | assumption) only [go_sem]) ?_); simp (disch := first | omega | assumption) only [go_sem])); refine hK ?_; clear hK hS hC hC1 K S C hf) | ((first | refine zk ?_ | refine zn ?_ | refine ze ?_); with_reducible (constructor; repeat constructor); try refine zl ?_)))
        exact K_ret (done_plain (by simp (disch := first | omega | assumption) only [go_sem, Res.av, toldR, badR, usageR]))
theorem grep_bad (args : List Str) (h : ¬ args.length = 1 ∧ ∀ u, ¬ args = [[45, 118], u]) (t : Str) (p : Oid) :
    CallOK Tryz.prog 37 [.list 1 (args.map AV.str), .str t] (Oid.under p) ⟨[], .tuple [badR.av, .bool false], []⟩ := by
  have hz1 : ((args.length : Int) = 1) = False := eq_false (by omega)
  by_cases h2 : args.length = 2
  · match args, h2, h with
    | [a, b], _, h =>
      have ha : (a = [45, 118]) = False := eq_false fun e => h.2 b (by rw [e])
      refine fnOK (n := 40) (rs := [.cell 4 32, .tmp 5]) Tryz.func37 rfl rfl (by decide) rfl rfl rfl ?_; rintro x rfl hrd hng
      (try ((first | refine zk ?_ | refine zn ?_ | refine ze ?_); with_reducible (constructor; repeat constructor)); try refine zl ?_)
      refine K_ev nmd [] hng (by kernel_rfl) fun hf C S K hC1 hC hS hK => ?_; simp (disch := first | omega | assumption) only [go_sem]
      refine hK ?_; clear hK hS hC hC1 K S C hf
      (try ((first | refine zk ?_ | refine zn ?_ | refine ze ?_); with_reducible (constructor; repeat constructor)); try refine zl ?_)
      refine K_ev nmd [(3, 11)] hng (by kernel_rfl) fun hf C S K hC1 hC hS hK => ?_; simp (disch := first | omega | assumption) only [go_sem, ha, decide_true, decide_false, ne_eq, not_true_eq_false, not_false_eq_true]
      (repeat' (first | (refine evG_split (fun hv => ?_) (fun hv => ?_) <;> (try simp only [zb1, zb2, zb3, zb4, zb5] at hv) <;> simp (disch := first | omega | assumption) only [go_sem, hv, ha, decide_true, decide_false, ne_eq, not_true_eq_false, not_false_eq_true]) | (refine hK ?_; clear hK hS hC hC1 K S C hf)))
      all_goals first | contradiction | skip
      (try ((first | refine zk ?_ | refine zn ?_ | refine ze ?_); with_reducible (constructor; repeat constructor)); try refine zl ?_)
      refine K_ev nmd [(3, 20)] hng (by kernel_rfl) fun hf C S K hC1 hC hS hK => ?_; simp (disch := first | omega | assumption) only [go_sem, decide_true, decide_false, ne_eq, not_true_eq_false, not_false_eq_true]
      (repeat' (first | (refine evG_split (fun hv => ?_) (fun hv => ?_) <;> (try simp only [zb1, zb2, zb3, zb4, zb5] at hv) <;> simp (disch := first | omega | assumption) only [go_sem, hv, decide_true, decide_false, ne_eq, not_true_eq_false, not_false_eq_true]) | (refine hK ?_; clear hK hS hC hC1 K S C hf)))
      all_goals first | contradiction | skip
      (repeat (first | (refine K_ifT rfl rfl ?_) | (refine K_ifF rfl rfl ?_) | (refine K_ev nmd [] hng (by kernel_rfl) fun hf C S K hC1 hC hS hK => ?_; simp (disch := first | omega | assumption) only [go_sem]; (repeat ((first | refine hC1 _ (bad_x _) (by simp (disch := first | omega | assumption) only [go_sem]) ?_); simp (disch := first | omega | assumption) only [go_sem])); refine hK ?_; clear hK hS hC hC1 K S C hf) | ((first | refine zk ?_ | refine zn ?_ | refine ze ?_); with_reducible (constructor; repeat constructor); try refine zl ?_)))
      exact K_ret (done_plain (by simp (disch := first | omega | assumption) only [go_sem, Res.av, badR]))
  · have hz2 : ((args.length : Int) = 2) = False := eq_false (by omega)
    refine fnOK (n := 40) (rs := [.cell 4 32, .tmp 5]) Tryz.func37 rfl rfl (by decide) rfl rfl rfl ?_; rintro x rfl hrd hng
    (try ((first | refine zk ?_ | refine zn ?_ | refine ze ?_); with_reducible (constructor; repeat constructor)); try refine zl ?_)
    refine K_ev nmd [] hng (by kernel_rfl) fun hf C S K hC1 hC hS hK => ?_; simp (disch := first | omega | assumption) only [go_sem]
    refine hK ?_; clear hK hS hC hC1 K S C hf
    (try ((first | refine zk ?_ | refine zn ?_ | refine ze ?_); with_reducible (constructor; repeat constructor)); try refine zl ?_)
    refine K_ev nmd [(3, 11)] hng (by kernel_rfl) fun hf C S K hC1 hC hS hK => ?_; simp (disch := first | omega | assumption) only [go_sem, List.length_map, hz2, decide_true, decide_false, ne_eq, not_true_eq_false, not_false_eq_true]
    (repeat' (first | (refine evG_split (fun hv => ?_) (fun hv => ?_) <;> (try simp only [zb1, zb2, zb3, zb4, zb5] at hv) <;> simp (disch := first | omega | assumption) only [go_sem, hv, List.length_map, hz2, decide_true, decide_false, ne_eq, not_true_eq_false, not_false_eq_true]) | (refine hK ?_; clear hK hS hC hC1 K S C hf)))
    all_goals first | contradiction | skip
    (try ((first | refine zk ?_ | refine zn ?_ | refine ze ?_); with_reducible (constructor; repeat constructor)); try refine zl ?_)
    refine K_ev nmd [(3, 20)] hng (by kernel_rfl) fun hf C S K hC1 hC hS hK => ?_; simp (disch := first | omega | assumption) only [go_sem, List.length_map, hz1, decide_true, decide_false, ne_eq, not_true_eq_false, not_false_eq_true]
    (repeat' (first | (refine evG_split (fun hv => ?_) (fun hv => ?_) <;> (try simp only [zb1, zb2, zb3, zb4, zb5] at hv) <;> simp (disch := first | omega | assumption) only [go_sem, hv, List.length_map, hz1, decide_true, decide_false, ne_eq, not_true_eq_false, not_false_eq_true]) | (refine hK ?_; clear hK hS hC hC1 K S C hf)))
    all_goals first | contradiction | skip
    (repeat (first | (refine K_ifT rfl rfl ?_) | (refine K_ifF rfl rfl ?_) | (refine K_ev nmd [] hng (by kernel_rfl) fun hf C S K hC1 hC hS hK => ?_; simp (disch := first | omega | assumption) only [go_sem]; (repeat ((first | refine hC1 _ (bad_x _) (by simp (disch := first | omega | assumption) only [go_sem]) ?_); simp (disch := first | omega | assumption) only [go_sem])); refine hK ?_; clear hK hS hC hC1 K S C hf) | ((first | refine zk ?_ | refine zn ?_ | refine ze ?_); with_reducible (constructor; repeat constructor); try refine zl ?_)))
    exact K_ret (done_plain (by simp (disch := first | omega | assumption) only [go_sem, Res.av, badR]))
end Go.Proofs.YtiaiggbimlbkfaaGreatDoor
namespace Go.Proofs.YtiaiggbimlbkfaaGreatDoor
open Go Go.Ab
set_option maxRecDepth 20000
set_option maxHeartbeats 2000000
theorem occ_slice (s t : Str) (i : Nat) (h : i + t.length ≤ s.length) : Lib.occAt s t i = decide ((s.take (i + t.length)).drop i = t) := by
  rw [Lib.occAt_iff_take s t i h, List.drop_take, show i + t.length - i = t.length by omega]
  by_cases he : (s.drop i).take t.length = t
  · rw [decide_eq_true he]; simpa using he
  · rw [decide_eq_false he]; simpa using he
/-- The reference has looked at the first i places. -/
theorem has_none {s t : Str} {i : Nat} (h : s.length < i + t.length) (hno : ∀ j, j < i → j + t.length ≤ s.length → ¬ (s.take (j + t.length)).drop j = t) : Lib.contains s t = false := by
  rw [Lib.contains, decide_eq_false_iff_not]
  intro h0
  rcases Lib.index_spec s t with ⟨h1, _⟩ | ⟨k, h1, h2, h3, _⟩
  · omega
  · have hr := Lib.index_room s t h0
    have hk : k + t.length ≤ s.length := by omega
    rw [occ_slice s t k hk, decide_eq_true_eq] at h3
    exact hno k (by omega) hk h3
theorem has_at {s t : Str} {i : Nat} (h : i + t.length ≤ s.length) (he : (s.take (i + t.length)).drop i = t) : Lib.contains s t = true := by
  rw [Lib.contains, decide_eq_true_eq]
  rcases Lib.index_spec s t with ⟨_, h2⟩ | ⟨k, h1, _⟩
  · have := h2 i (by omega)
    rw [occ_slice s t i h, decide_eq_true he] at this; cases this
  · omega
end Go.Proofs.YtiaiggbimlbkfaaGreatDoor
namespace Go.Proofs.YtiaiggbimlbkfaaGreatDoor
open Go Go.Ab
set_option maxRecDepth 20000
set_option maxHeartbeats 4000000
theorem has_ok (s u : Str) (hl : s.length ≤ 4000000000) (hu : u.length ≤ 4000000000) (p : Oid) : CallOK Tryz.prog 24 [.str s, .str u] (Oid.under p) ⟨[], .bool (Lib.contains s u), []⟩ := by
  refine fnOK (n := 24) (rs := [.tmp 4]) Tryz.func24 rfl rfl (by decide) rfl rfl rfl ?_; rintro x rfl hrd hng
  (repeat (first | (refine K_ifT rfl rfl ?_) | (refine K_ifF rfl rfl ?_) | (refine K_ev nmd [] hng (by kernel_rfl) fun hf C S K hC1 hC hS hK => ?_; simp (disch := first | omega | assumption) only [go_sem]; refine hK ?_; clear hK hS hC hC1 K S C hf) | ((first | refine zk ?_ | refine zn ?_ | refine ze ?_); with_reducible (constructor; repeat constructor); try refine zl ?_)))
  refine K_loop [0, 1, 5] (fun k s' => ∃ i c : Nat, k = s.length + 1 - i ∧ i ≤ s.length + 1 ∧ (∀ j, j < i → j + u.length ≤ s.length → ¬ (s.take (j + u.length)).drop j = u) ∧ s' = ⟨[(0, .str s), (1, .str u), (5, .int .i64 i)], Mem.of [], c, []⟩) _ ⟨0, _, rfl, Nat.zero_le _, fun j hj => absurd hj (Nat.not_lt_zero _), rfl⟩ ?_
  rintro k s' ⟨i, c, rfl, hi, hno, rfl⟩
  (repeat (first | (refine K_ifT rfl rfl ?_) | (refine K_ifF rfl rfl ?_) | (refine K_ev nmd [] hng (by kernel_rfl) fun hf C S K hC1 hC hS hK => ?_; simp (disch := first | omega | assumption) only [go_sem]; refine hK ?_; clear hK hS hC hC1 K S C hf) | ((first | refine zk ?_ | refine zn ?_ | refine ze ?_); with_reducible (constructor; repeat constructor); try refine zl ?_)))
  refine K_ifd rfl rfl (fun hb => ?_) (fun hb => ?_)
  · have hlt : i + u.length ≤ s.length := by omega
    have hz : ((i : Int) + (u.length : Int)).toNat = i + u.length := by omega
    (repeat (first | (refine K_ifT rfl rfl ?_) | (refine K_ifF rfl rfl ?_) | (refine K_ev nmd [] hng (by kernel_rfl) fun hf C S K hC1 hC hS hK => ?_; simp (disch := first | omega | assumption) only [go_sem, hz]; (repeat ((first | refine hC1 _ () (by simp (disch := first | omega | assumption) only [go_sem]) ?_); simp (disch := first | omega | assumption) only [go_sem])); refine hK ?_; clear hK hS hC hC1 K S C hf) | ((first | refine zk ?_ | refine zn ?_ | refine ze ?_); with_reducible (constructor; repeat constructor); try refine zl ?_)))
    refine K_ifd rfl rfl (fun hb => ?_) (fun hb => ?_)
    · rw [has_at hlt hb]
      (repeat (first | (refine K_ifT rfl rfl ?_) | (refine K_ifF rfl rfl ?_) | (refine K_ev nmd [] hng (by kernel_rfl) fun hf C S K hC1 hC hS hK => ?_; simp (disch := first | omega | assumption) only [go_sem]; refine hK ?_; clear hK hS hC hC1 K S C hf) | ((first | refine zk ?_ | refine zn ?_ | refine ze ?_); with_reducible (constructor; repeat constructor); try refine zl ?_)))
      exact K_ret (done1 rfl)
    · (repeat (first | (refine K_ifT rfl rfl ?_) | (refine K_ifF rfl rfl ?_) | (refine K_ev nmd [] hng (by kernel_rfl) fun hf C S K hC1 hC hS hK => ?_; simp (disch := first | omega | assumption) only [go_sem]; refine hK ?_; clear hK hS hC hC1 K S C hf) | ((first | refine zk ?_ | refine zn ?_ | refine ze ?_); with_reducible (constructor; repeat constructor); try refine zl ?_)))
      refine ⟨_, _, ?_, fun _ _ h => h, i + 1, _, rfl, by omega, fun j hj hjl => ?_, rfl⟩
      · omega
      · by_cases he : j = i
        · subst he; exact hb
        · exact hno j (by omega) hjl
  · rw [has_none (by omega) hno]
    (repeat (first | (refine K_ifT rfl rfl ?_) | (refine K_ifF rfl rfl ?_) | (refine K_ev nmd [] hng (by kernel_rfl) fun hf C S K hC1 hC hS hK => ?_; simp (disch := first | omega | assumption) only [go_sem]; refine hK ?_; clear hK hS hC hC1 K S C hf) | ((first | refine zk ?_ | refine zn ?_ | refine ze ?_); with_reducible (constructor; repeat constructor); try refine zl ?_)))
    exact K_ret (done1 rfl)
theorem filter_take_succ {q : Str → Bool} {l : List Str} {i : Nat} (h : i < l.length) : (l.take (i + 1)).filter q = (l.take i).filter q ++ if q (l.getD i default) = true then [l.getD i default] else [] := by
  rw [List.take_add_one, List.filter_append, List.getElem?_eq_getElem h, List.getD_eq_getElem?_getD, List.getElem?_eq_getElem h]
  simp [List.filter_cons]
theorem grepRef_ok (args : List Str) (no : Bool) (u : Str) (h : GrepV args no u) (hul : u.length ≤ 4000000) (t : Str) (htl : t.length ≤ 4000000) (p : Oid) :
    CallOK Tryz.prog 48 [.list 1 (args.map AV.str), .str t] (Oid.under p) ⟨[], (grepR no u t).av, []⟩ := by
  have hjl := joinN_lines t
  have hjn := joinN_len (linesL t)
  have hlr := fun p => linesR_ok t (by omega) p
  generalize hL : linesL t = L at hjl hjn hlr
  have hmem : ∀ i, (L.getD i default).length ≤ 4000001 := fun i => by
    have h1 := joinN_mem0 L i
    omega
  rcases h with ⟨rfl, rfl⟩ | ⟨rfl, rfl⟩
  · refine fnOK (n := 61) (rs := [.cell 4 32]) Tryz.func48 rfl rfl (by decide) rfl rfl rfl ?_; rintro x rfl hrd hng
    (try ((first | refine zk ?_ | refine zn ?_ | refine ze ?_); with_reducible (constructor; repeat constructor)); try refine zl ?_)
    refine K_ev nmd [] hng (by kernel_rfl) fun hf C S K hC1 hC hS hK => ?_; simp (disch := first | omega | assumption) only [go_sem]
    refine hK ?_; clear hK hS hC hC1 K S C hf
    (try ((first | refine zk ?_ | refine zn ?_ | refine ze ?_); with_reducible (constructor; repeat constructor)); try refine zl ?_)
    refine K_ev nmd [(3, 12)] hng (by kernel_rfl) fun hf C S K hC1 hC hS hK => ?_; simp (disch := first | omega | assumption) only [go_sem, decide_true, decide_false, ne_eq, not_true_eq_false, not_false_eq_true]
    (repeat' (first | (refine evG_split (fun hv => ?_) (fun hv => ?_) <;> (try simp only [zb1, zb2, zb3, zb4, zb5] at hv) <;> simp (disch := first | omega | assumption) only [go_sem, hv, decide_true, decide_false, ne_eq, not_true_eq_false, not_false_eq_true]) | (refine hK ?_; clear hK hS hC hC1 K S C hf)))
    all_goals first | contradiction | exact absurd rfl hv | skip
    (try ((first | refine zk ?_ | refine zn ?_ | refine ze ?_); with_reducible (constructor; repeat constructor)); try refine zl ?_)
    refine K_ev nmd [(3, 21)] hng (by kernel_rfl) fun hf C S K hC1 hC hS hK => ?_; simp (disch := first | omega | assumption) only [go_sem, decide_true, decide_false, ne_eq, not_true_eq_false, not_false_eq_true]
    (repeat' (first | (refine evG_split (fun hv => ?_) (fun hv => ?_) <;> (try simp only [zb1, zb2, zb3, zb4, zb5] at hv) <;> simp (disch := first | omega | assumption) only [go_sem, hv, decide_true, decide_false, ne_eq, not_true_eq_false, not_false_eq_true]) | (refine hK ?_; clear hK hS hC hC1 K S C hf)))
    all_goals first | contradiction | exact absurd rfl hv | skip
    (repeat (first | (refine K_ifT rfl rfl ?_) | (refine K_ifF rfl rfl ?_) | (refine K_ev nmd [] hng (by kernel_rfl) fun hf C S K hC1 hC hS hK => ?_; simp (disch := first | omega | assumption) only [go_sem]; (repeat ((first | refine hC1 _ (hlr _) (by simp (disch := first | omega | assumption) only [go_sem]) ?_); simp (disch := first | omega | assumption) only [go_sem])); refine hK ?_; clear hK hS hC hC1 K S C hf) | ((first | refine zk ?_ | refine zn ?_ | refine ze ?_); with_reducible (constructor; repeat constructor); try refine zl ?_)))
    refine K_void 7 1 rfl ?_
    simp (disch := first | omega | assumption) only [go_sem]
    refine K_loop [0, 4, 5, 6, 7, 8] (fun k s' => ∃ (i d j c : Nat) (done : List Str), k = L.length - i ∧ i ≤ L.length ∧ 1 ≤ d ∧ d < c ∧ done.length ≤ i ∧ done = (L.take i).filter (fun s => !grepQ false u s) ∧
      s' = ⟨[(0, .list 1 [.str u]), (4, .ptr (.sub 0 0 x.p) 0), (5, .bool false), (6, .list 1 (L.map AV.str)), (7, .sl (.sub d j x.p) 1 done.length), (8, .int .i64 i)], Mem.of [(.sub 0 0 x.p, .cells [.int .i64 0, .str [], .str []]), (.sub d j x.p, .arr 1 (done.map AV.str))], c, []⟩) _ ⟨0, 6, 0, 7, [], rfl, Nat.zero_le _, by omega, by omega, Nat.le_refl _, rfl, rfl⟩ ?_
    rintro k s' ⟨i, d, j, c, done, rfl, hi, hd1, hdc, hdl, hdn, rfl⟩
    (repeat (first | (refine K_ifT rfl rfl ?_) | (refine K_ifF rfl rfl ?_) | (refine K_ev nmd [] hng (by kernel_rfl) fun hf C S K hC1 hC hS hK => ?_; simp (disch := first | omega | assumption) only [go_sem, List.length_map]; (repeat ((first | refine hC1 _ () (by simp (disch := first | omega | assumption) only [go_sem]) ?_); simp (disch := first | omega | assumption) only [go_sem])); refine hK ?_; clear hK hS hC hC1 K S C hf) | ((first | refine zk ?_ | refine zn ?_ | refine ze ?_); with_reducible (constructor; repeat constructor); try refine zl ?_)))
    refine K_ifd rfl rfl (fun hb => ?_) (fun hb => ?_)
    · have hlt : i < L.length := by omega
      have hfs := filter_take_succ (q := fun s => !grepQ false u s) hlt
      have hml := hmem i
      rw [← hdn] at hfs
      generalize hq : L.getD i default = q at hfs hml
      have hgu : ([.str u] : List AV).getD (((1 : Nat) : Int) - 1).toNat .undef = .str u := rfl
      (try ((first | refine zk ?_ | refine zn ?_ | refine ze ?_); with_reducible (constructor; repeat constructor)); try refine zl ?_)
      refine K_evd nmd [] [] mixed hng (by kernel_rfl) [0, 4, 5, 6, 7, 8, 46] fun hf C S K hC hS hK => ?_; simp (disch := first | omega | assumption) only [go_sem, List.length_map, hq, hgu, AV.cells, decide_true, decide_false, ne_eq, not_true_eq_false, not_false_eq_true]
      (repeat' (first | (refine evG_split (fun hv => ?_) (fun hv => ?_) <;> (try simp only [zb1, zb2, zb3, zb4, zb5] at hv) <;> simp (disch := first | omega | assumption) only [go_sem, hv, List.length_map, hq, hgu, AV.cells, decide_true, decide_false, ne_eq, not_true_eq_false, not_false_eq_true]) | (refine hC _ (has_ok q u (by omega) (by omega) _) (by simp (disch := first | omega | assumption) only [go_sem, List.length_map, hq, hgu, AV.cells, decide_true, decide_false, ne_eq, not_true_eq_false, not_false_eq_true]) ?_; simp (disch := first | omega | assumption) only [go_sem, List.length_map, hq, hgu, AV.cells, decide_true, decide_false, ne_eq, not_true_eq_false, not_false_eq_true]) | ((first | refine hK (dynN_quiet rfl) ?_ | refine hK (by simp (disch := first | omega | assumption) only [go_sem, List.reverse_cons, List.reverse_nil, ne_eq, not_false_eq_true, implies_true]) ?_); clear hK hS hC K S C hf)))
      (try ((first | refine zk ?_ | refine zn ?_ | refine ze ?_); with_reducible (constructor; repeat constructor)); try refine zl ?_)
      refine K_if rfl rfl (fun hb => ?_) (fun hb => ?_)
      · have hk : (!grepQ false u q) = true := by unfold grepQ; cases hc : Lib.contains q u <;> rw [hc] at hb <;> simp_all
        rw [hk, if_pos rfl] at hfs
        (repeat (first | (refine K_ifT rfl rfl ?_) | (refine K_ifF rfl rfl ?_) | (refine K_ev nmd [] hng (by kernel_rfl) fun hf C S K hC1 hC hS hK => ?_; simp (disch := first | omega | assumption) only [go_sem, List.length_map, hq]; (repeat ((first | refine hC1 _ () (by simp (disch := first | omega | assumption) only [go_sem]) ?_); simp (disch := first | omega | assumption) only [go_sem])); refine hK ?_; clear hK hS hC hC1 K S C hf) | ((first | refine zk ?_ | refine zn ?_ | refine ze ?_); with_reducible (constructor; repeat constructor); try refine zl ?_)))
        refine ⟨_, _, ?_, fun _ _ h => h, i + 1, c + 1 + 1, 6, c + 1 + 1 + 1 + 1, done ++ [q], rfl, by omega, by omega, by omega, by rw [List.length_append, List.length_singleton]; omega, hfs.symm, ?_⟩
        · omega
        · rw [List.map_append, List.length_append]; rfl
      · have hk : (!grepQ false u q) = false := by unfold grepQ; cases hc : Lib.contains q u <;> rw [hc] at hb <;> simp_all
        rw [hk, if_neg Bool.false_ne_true, List.append_nil] at hfs
        (repeat (first | (refine K_ifT rfl rfl ?_) | (refine K_ifF rfl rfl ?_) | (refine K_ev nmd [] hng (by kernel_rfl) fun hf C S K hC1 hC hS hK => ?_; simp (disch := first | omega | assumption) only [go_sem]; refine hK ?_; clear hK hS hC hC1 K S C hf) | ((first | refine zk ?_ | refine zn ?_ | refine ze ?_); with_reducible (constructor; repeat constructor); try refine zl ?_)))
        exact ⟨_, _, by omega, fun _ _ h => h, i + 1, d, j, _, done, rfl, by omega, by omega, by omega, by omega, hfs.symm, rfl⟩
    · obtain rfl : i = L.length := by omega
      rw [List.take_length] at hdn
      unfold grepR
      rw [show grepRow false u t = done by rw [grepRow, hL, hdn]]
      have hrw : (joinN done).length ≤ (joinN L).length := by rw [hdn]; exact joinN_sub List.filter_sublist
      (repeat (first | (refine K_ifT rfl rfl ?_) | (refine K_ifF rfl rfl ?_) | (refine K_ev nmd [] hng (by kernel_rfl) fun hf C S K hC1 hC hS hK => ?_; simp (disch := first | omega | assumption) only [go_sem]; refine hK ?_; clear hK hS hC hC1 K S C hf) | ((first | refine zk ?_ | refine zn ?_ | refine ze ?_); with_reducible (constructor; repeat constructor); try refine zl ?_)))
      refine K_ifd rfl rfl (fun hb => ?_) (fun hb => ?_)
      · have hr : done = [] := List.eq_nil_of_length_eq_zero (by omega)
        rw [if_pos hr]
        (repeat (first | (refine K_ifT rfl rfl ?_) | (refine K_ifF rfl rfl ?_) | (refine K_ev nmd [] hng (by kernel_rfl) fun hf C S K hC1 hC hS hK => ?_; simp (disch := first | omega | assumption) only [go_sem]; refine hK ?_; clear hK hS hC hC1 K S C hf) | ((first | refine zk ?_ | refine zn ?_ | refine ze ?_); with_reducible (constructor; repeat constructor); try refine zl ?_)))
        exact K_ret (done_plain (by simp (disch := first | omega | assumption) only [go_sem, Res.av, toldR, badR, usageR]))
      · have hr : ¬ done = [] := fun e => hb (by rw [e]; rfl)
        rw [if_neg hr]
        (try ((first | refine zk ?_ | refine zn ?_ | refine ze ?_); with_reducible (constructor; repeat constructor)); try refine zl ?_)
        refine K_freeze (.sub d j x.p) 1 (done.map AV.str) (by simp (disch := first | omega | assumption) only [go_sem]) ?_
        simp (disch := first | omega | assumption) only [go_sem, List.length_map]
        (repeat (first | (refine K_ifT rfl rfl ?_) | (refine K_ifF rfl rfl ?_) | (refine K_ev nmd [] hng (by kernel_rfl) fun hf C S K hC1 hC hS hK => ?_; simp (disch := first | omega | assumption) only [go_sem]; (repeat ((first | refine hC1 _ (joinedR_ok done (by omega) _) (by simp (disch := first | omega | assumption) only [go_sem]) ?_); simp (disch := first | omega | assumption) only [go_sem])); refine hK ?_; clear hK hS hC hC1 K S C hf) | ((first | refine zk ?_ | refine zn ?_ | refine ze ?_); with_reducible (constructor; repeat constructor); try refine zl ?_)))
        exact K_ret (done_plain (by simp (disch := first | omega | assumption) only [go_sem, Res.av, toldR, badR, usageR]))
  · refine fnOK (n := 61) (rs := [.cell 4 32]) Tryz.func48 rfl rfl (by decide) rfl rfl rfl ?_; rintro x rfl hrd hng
    (try ((first | refine zk ?_ | refine zn ?_ | refine ze ?_); with_reducible (constructor; repeat constructor)); try refine zl ?_)
    refine K_ev nmd [] hng (by kernel_rfl) fun hf C S K hC1 hC hS hK => ?_; simp (disch := first | omega | assumption) only [go_sem]
    refine hK ?_; clear hK hS hC hC1 K S C hf
    (try ((first | refine zk ?_ | refine zn ?_ | refine ze ?_); with_reducible (constructor; repeat constructor)); try refine zl ?_)
    refine K_ev nmd [(3, 12)] hng (by kernel_rfl) fun hf C S K hC1 hC hS hK => ?_; simp (disch := first | omega | assumption) only [go_sem, decide_true, decide_false, ne_eq, not_true_eq_false, not_false_eq_true]
    (repeat' (first | (refine evG_split (fun hv => ?_) (fun hv => ?_) <;> (try simp only [zb1, zb2, zb3, zb4, zb5] at hv) <;> simp (disch := first | omega | assumption) only [go_sem, hv, decide_true, decide_false, ne_eq, not_true_eq_false, not_false_eq_true]) | (refine hK ?_; clear hK hS hC hC1 K S C hf)))
    all_goals first | contradiction | exact absurd rfl hv | skip
    (try ((first | refine zk ?_ | refine zn ?_ | refine ze ?_); with_reducible (constructor; repeat constructor)); try refine zl ?_)
    refine K_ev nmd [(3, 21)] hng (by kernel_rfl) fun hf C S K hC1 hC hS hK => ?_; simp (disch := first | omega | assumption) only [go_sem, decide_true, decide_false, ne_eq, not_true_eq_false, not_false_eq_true]
    (repeat' (first | (refine evG_split (fun hv => ?_) (fun hv => ?_) <;> (try simp only [zb1, zb2, zb3, zb4, zb5] at hv) <;> simp (disch := first | omega | assumption) only [go_sem, hv, decide_true, decide_false, ne_eq, not_true_eq_false, not_false_eq_true]) | (refine hK ?_; clear hK hS hC hC1 K S C hf)))
    all_goals first | contradiction | exact absurd rfl hv | skip
    (repeat (first | (refine K_ifT rfl rfl ?_) | (refine K_ifF rfl rfl ?_) | (refine K_ev nmd [] hng (by kernel_rfl) fun hf C S K hC1 hC hS hK => ?_; simp (disch := first | omega | assumption) only [go_sem]; (repeat ((first | refine hC1 _ (hlr _) (by simp (disch := first | omega | assumption) only [go_sem]) ?_); simp (disch := first | omega | assumption) only [go_sem])); refine hK ?_; clear hK hS hC hC1 K S C hf) | ((first | refine zk ?_ | refine zn ?_ | refine ze ?_); with_reducible (constructor; repeat constructor); try refine zl ?_)))
    refine K_void 7 1 rfl ?_
    simp (disch := first | omega | assumption) only [go_sem]
    refine K_loop [0, 4, 5, 6, 7, 8] (fun k s' => ∃ (i d j c : Nat) (done : List Str), k = L.length - i ∧ i ≤ L.length ∧ 1 ≤ d ∧ d < c ∧ done.length ≤ i ∧ done = (L.take i).filter (fun s => !grepQ true u s) ∧
      s' = ⟨[(0, .list 1 [.str [45, 118], .str u]), (4, .ptr (.sub 0 0 x.p) 0), (5, .bool true), (6, .list 1 (L.map AV.str)), (7, .sl (.sub d j x.p) 1 done.length), (8, .int .i64 i)], Mem.of [(.sub 0 0 x.p, .cells [.int .i64 0, .str [], .str []]), (.sub d j x.p, .arr 1 (done.map AV.str))], c, []⟩) _ ⟨0, 6, 0, 7, [], rfl, Nat.zero_le _, by omega, by omega, Nat.le_refl _, rfl, rfl⟩ ?_
    rintro k s' ⟨i, d, j, c, done, rfl, hi, hd1, hdc, hdl, hdn, rfl⟩
    (repeat (first | (refine K_ifT rfl rfl ?_) | (refine K_ifF rfl rfl ?_) | (refine K_ev nmd [] hng (by kernel_rfl) fun hf C S K hC1 hC hS hK => ?_; simp (disch := first | omega | assumption) only [go_sem, List.length_map]; (repeat ((first | refine hC1 _ () (by simp (disch := first | omega | assumption) only [go_sem]) ?_); simp (disch := first | omega | assumption) only [go_sem])); refine hK ?_; clear hK hS hC hC1 K S C hf) | ((first | refine zk ?_ | refine zn ?_ | refine ze ?_); with_reducible (constructor; repeat constructor); try refine zl ?_)))
    refine K_ifd rfl rfl (fun hb => ?_) (fun hb => ?_)
    · have hlt : i < L.length := by omega
      have hfs := filter_take_succ (q := fun s => !grepQ true u s) hlt
      have hml := hmem i
      rw [← hdn] at hfs
      generalize hq : L.getD i default = q at hfs hml
      have hgu : ([.str [45, 118], .str u] : List AV).getD (((2 : Nat) : Int) - 1).toNat .undef = .str u := rfl
      (try ((first | refine zk ?_ | refine zn ?_ | refine ze ?_); with_reducible (constructor; repeat constructor)); try refine zl ?_)
      refine K_evd nmd [] [] mixed hng (by kernel_rfl) [0, 4, 5, 6, 7, 8, 46] fun hf C S K hC hS hK => ?_; simp (disch := first | omega | assumption) only [go_sem, List.length_map, hq, hgu, AV.cells, decide_true, decide_false, ne_eq, not_true_eq_false, not_false_eq_true]
      (repeat' (first | (refine evG_split (fun hv => ?_) (fun hv => ?_) <;> (try simp only [zb1, zb2, zb3, zb4, zb5] at hv) <;> simp (disch := first | omega | assumption) only [go_sem, hv, List.length_map, hq, hgu, AV.cells, decide_true, decide_false, ne_eq, not_true_eq_false, not_false_eq_true]) | (refine hC _ (has_ok q u (by omega) (by omega) _) (by simp (disch := first | omega | assumption) only [go_sem, List.length_map, hq, hgu, AV.cells, decide_true, decide_false, ne_eq, not_true_eq_false, not_false_eq_true]) ?_; simp (disch := first | omega | assumption) only [go_sem, List.length_map, hq, hgu, AV.cells, decide_true, decide_false, ne_eq, not_true_eq_false, not_false_eq_true]) | ((first | refine hK (dynN_quiet rfl) ?_ | refine hK (by simp (disch := first | omega | assumption) only [go_sem, List.reverse_cons, List.reverse_nil, ne_eq, not_false_eq_true, implies_true]) ?_); clear hK hS hC K S C hf)))
      (try ((first | refine zk ?_ | refine zn ?_ | refine ze ?_); with_reducible (constructor; repeat constructor)); try refine zl ?_)
      refine K_if rfl rfl (fun hb => ?_) (fun hb => ?_)
      · have hk : (!grepQ true u q) = true := by unfold grepQ; cases hc : Lib.contains q u <;> rw [hc] at hb <;> simp_all
        rw [hk, if_pos rfl] at hfs
        (repeat (first | (refine K_ifT rfl rfl ?_) | (refine K_ifF rfl rfl ?_) | (refine K_ev nmd [] hng (by kernel_rfl) fun hf C S K hC1 hC hS hK => ?_; simp (disch := first | omega | assumption) only [go_sem, List.length_map, hq]; (repeat ((first | refine hC1 _ () (by simp (disch := first | omega | assumption) only [go_sem]) ?_); simp (disch := first | omega | assumption) only [go_sem])); refine hK ?_; clear hK hS hC hC1 K S C hf) | ((first | refine zk ?_ | refine zn ?_ | refine ze ?_); with_reducible (constructor; repeat constructor); try refine zl ?_)))
        refine ⟨_, _, ?_, fun _ _ h => h, i + 1, c + 1 + 1, 6, c + 1 + 1 + 1 + 1, done ++ [q], rfl, by omega, by omega, by omega, by rw [List.length_append, List.length_singleton]; omega, hfs.symm, ?_⟩
        · omega
        · rw [List.map_append, List.length_append]; rfl
      · have hk : (!grepQ true u q) = false := by unfold grepQ; cases hc : Lib.contains q u <;> rw [hc] at hb <;> simp_all
        rw [hk, if_neg Bool.false_ne_true, List.append_nil] at hfs
        (repeat (first | (refine K_ifT rfl rfl ?_) | (refine K_ifF rfl rfl ?_) | (refine K_ev nmd [] hng (by kernel_rfl) fun hf C S K hC1 hC hS hK => ?_; simp (disch := first | omega | assumption) only [go_sem]; refine hK ?_; clear hK hS hC hC1 K S C hf) | ((first | refine zk ?_ | refine zn ?_ | refine ze ?_); with_reducible (constructor; repeat constructor); try refine zl ?_)))
        exact ⟨_, _, by omega, fun _ _ h => h, i + 1, d, j, _, done, rfl, by omega, by omega, by omega, by omega, hfs.symm, rfl⟩
    · obtain rfl : i = L.length := by omega
      rw [List.take_length] at hdn
      unfold grepR
      rw [show grepRow true u t = done by rw [grepRow, hL, hdn]]
      have hrw : (joinN done).length ≤ (joinN L).length := by rw [hdn]; exact joinN_sub List.filter_sublist
      (repeat (first | (refine K_ifT rfl rfl ?_) | (refine K_ifF rfl rfl ?_) | (refine K_ev nmd [] hng (by kernel_rfl) fun hf C S K hC1 hC hS hK => ?_; simp (disch := first | omega | assumption) only [go_sem]; refine hK ?_; clear hK hS hC hC1 K S C hf) | ((first | refine zk ?_ | refine zn ?_ | refine ze ?_); with_reducible (constructor; repeat constructor); try refine zl ?_)))
      refine K_ifd rfl rfl (fun hb => ?_) (fun hb => ?_)
      · have hr : done = [] := List.eq_nil_of_length_eq_zero (by omega)
        rw [if_pos hr]
        (repeat (first | (refine K_ifT rfl rfl ?_) | (refine K_ifF rfl rfl ?_) | (refine K_ev nmd [] hng (by kernel_rfl) fun hf C S K hC1 hC hS hK => ?_; simp (disch := first | omega | assumption) only [go_sem]; refine hK ?_; clear hK hS hC hC1 K S C hf) | ((first | refine zk ?_ | refine zn ?_ | refine ze ?_); with_reducible (constructor; repeat constructor); try refine zl ?_)))
        exact K_ret (done_plain (by simp (disch := first | omega | assumption) only [go_sem, Res.av, toldR, badR, usageR]))
      · have hr : ¬ done = [] := fun e => hb (by rw [e]; rfl)
        rw [if_neg hr]
        (try ((first | refine zk ?_ | refine zn ?_ | refine ze ?_); with_reducible (constructor; repeat constructor)); try refine zl ?_)
        refine K_freeze (.sub d j x.p) 1 (done.map AV.str) (by simp (disch := first | omega | assumption) only [go_sem]) ?_
        simp (disch := first | omega | assumption) only [go_sem, List.length_map]
        (repeat (first | (refine K_ifT rfl rfl ?_) | (refine K_ifF rfl rfl ?_) | (refine K_ev nmd [] hng (by kernel_rfl) fun hf C S K hC1 hC hS hK => ?_; simp (disch := first | omega | assumption) only [go_sem]; (repeat ((first | refine hC1 _ (joinedR_ok done (by omega) _) (by simp (disch := first | omega | assumption) only [go_sem]) ?_); simp (disch := first | omega | assumption) only [go_sem])); refine hK ?_; clear hK hS hC hC1 K S C hf) | ((first | refine zk ?_ | refine zn ?_ | refine ze ?_); with_reducible (constructor; repeat constructor); try refine zl ?_)))
        exact K_ret (done_plain (by simp (disch := first | omega | assumption) only [go_sem, Res.av, toldR, badR, usageR]))
theorem grepRef_bad (args : List Str) (h : ¬ args.length = 1 ∧ ∀ u, ¬ args = [[45, 118], u]) (t : Str) (p : Oid) :
    CallOK Tryz.prog 48 [.list 1 (args.map AV.str), .str t] (Oid.under p) ⟨[], (usageR [103, 114, 101, 112]).av, []⟩ := by
  have hu := fun p => usageR_ok [103, 114, 101, 112] (by decide) p
  simp only [Res.av, usageR] at hu
  have hz1 : ((args.length : Int) = 1) = False := eq_false (by omega)
  by_cases h2 : args.length = 2
  · match args, h2, h with
    | [a, b], _, h =>
      have ha : (a = [45, 118]) = False := eq_false fun e => h.2 b (by rw [e])
      refine fnOK (n := 61) (rs := [.cell 4 32]) Tryz.func48 rfl rfl (by decide) rfl rfl rfl ?_; rintro x rfl hrd hng
      (try ((first | refine zk ?_ | refine zn ?_ | refine ze ?_); with_reducible (constructor; repeat constructor)); try refine zl ?_)
      refine K_ev nmd [] hng (by kernel_rfl) fun hf C S K hC1 hC hS hK => ?_; simp (disch := first | omega | assumption) only [go_sem]
      refine hK ?_; clear hK hS hC hC1 K S C hf
      (try ((first | refine zk ?_ | refine zn ?_ | refine ze ?_); with_reducible (constructor; repeat constructor)); try refine zl ?_)
      refine K_ev nmd [(3, 12)] hng (by kernel_rfl) fun hf C S K hC1 hC hS hK => ?_; simp (disch := first | omega | assumption) only [go_sem, ha, decide_true, decide_false, ne_eq, not_true_eq_false, not_false_eq_true]
      (repeat' (first | (refine evG_split (fun hv => ?_) (fun hv => ?_) <;> (try simp only [zb1, zb2, zb3, zb4, zb5] at hv) <;> simp (disch := first | omega | assumption) only [go_sem, hv, ha, decide_true, decide_false, ne_eq, not_true_eq_false, not_false_eq_true]) | (refine hK ?_; clear hK hS hC hC1 K S C hf)))
      all_goals first | contradiction | skip
      (try ((first | refine zk ?_ | refine zn ?_ | refine ze ?_); with_reducible (constructor; repeat constructor)); try refine zl ?_)
      refine K_ev nmd [(3, 21)] hng (by kernel_rfl) fun hf C S K hC1 hC hS hK => ?_; simp (disch := first | omega | assumption) only [go_sem, decide_true, decide_false, ne_eq, not_true_eq_false, not_false_eq_true]
      (repeat' (first | (refine evG_split (fun hv => ?_) (fun hv => ?_) <;> (try simp only [zb1, zb2, zb3, zb4, zb5] at hv) <;> simp (disch := first | omega | assumption) only [go_sem, hv, decide_true, decide_false, ne_eq, not_true_eq_false, not_false_eq_true]) | (refine hK ?_; clear hK hS hC hC1 K S C hf)))
      all_goals first | contradiction | skip
      (repeat (first | (refine K_ifT rfl rfl ?_) | (refine K_ifF rfl rfl ?_) | (refine K_ev nmd [] hng (by kernel_rfl) fun hf C S K hC1 hC hS hK => ?_; simp (disch := first | omega | assumption) only [go_sem]; (repeat ((first | refine hC1 _ (hu _) (by simp (disch := first | omega | assumption) only [go_sem]) ?_); simp (disch := first | omega | assumption) only [go_sem])); refine hK ?_; clear hK hS hC hC1 K S C hf) | ((first | refine zk ?_ | refine zn ?_ | refine ze ?_); with_reducible (constructor; repeat constructor); try refine zl ?_)))
      exact K_ret (done_plain (by simp (disch := first | omega | assumption) only [go_sem, Res.av, toldR, badR, usageR]))
  · have hz2 : ((args.length : Int) = 2) = False := eq_false (by omega)
    refine fnOK (n := 61) (rs := [.cell 4 32]) Tryz.func48 rfl rfl (by decide) rfl rfl rfl ?_; rintro x rfl hrd hng
    (try ((first | refine zk ?_ | refine zn ?_ | refine ze ?_); with_reducible (constructor; repeat constructor)); try refine zl ?_)
    refine K_ev nmd [] hng (by kernel_rfl) fun hf C S K hC1 hC hS hK => ?_; simp (disch := first | omega | assumption) only [go_sem]
    refine hK ?_; clear hK hS hC hC1 K S C hf
    (try ((first | refine zk ?_ | refine zn ?_ | refine ze ?_); with_reducible (constructor; repeat constructor)); try refine zl ?_)
    refine K_ev nmd [(3, 12)] hng (by kernel_rfl) fun hf C S K hC1 hC hS hK => ?_; simp (disch := first | omega | assumption) only [go_sem, List.length_map, hz2, decide_true, decide_false, ne_eq, not_true_eq_false, not_false_eq_true]
    (repeat' (first | (refine evG_split (fun hv => ?_) (fun hv => ?_) <;> (try simp only [zb1, zb2, zb3, zb4, zb5] at hv) <;> simp (disch := first | omega | assumption) only [go_sem, hv, List.length_map, hz2, decide_true, decide_false, ne_eq, not_true_eq_false, not_false_eq_true]) | (refine hK ?_; clear hK hS hC hC1 K S C hf)))
    all_goals first | contradiction | skip
    (try ((first | refine zk ?_ | refine zn ?_ | refine ze ?_); with_reducible (constructor; repeat constructor)); try refine zl ?_)
    refine K_ev nmd [(3, 21)] hng (by kernel_rfl) fun hf C S K hC1 hC hS hK => ?_; simp (disch := first | omega | assumption) only [go_sem, List.length_map, hz1, decide_true, decide_false, ne_eq, not_true_eq_false, not_false_eq_true]
    (repeat' (first | (refine evG_split (fun hv => ?_) (fun hv => ?_) <;> (try simp only [zb1, zb2, zb3, zb4, zb5] at hv) <;> simp (disch := first | omega | assumption) only [go_sem, hv, List.length_map, hz1, decide_true, decide_false, ne_eq, not_true_eq_false, not_false_eq_true]) | (refine hK ?_; clear hK hS hC hC1 K S C hf)))
    all_goals first | contradiction | skip
    (repeat (first | (refine K_ifT rfl rfl ?_) | (refine K_ifF rfl rfl ?_) | (refine K_ev nmd [] hng (by kernel_rfl) fun hf C S K hC1 hC hS hK => ?_; simp (disch := first | omega | assumption) only [go_sem]; (repeat ((first | refine hC1 _ (hu _) (by simp (disch := first | omega | assumption) only [go_sem]) ?_); simp (disch := first | omega | assumption) only [go_sem])); refine hK ?_; clear hK hS hC hC1 K S C hf) | ((first | refine zk ?_ | refine zn ?_ | refine ze ?_); with_reducible (constructor; repeat constructor); try refine zl ?_)))
    exact K_ret (done_plain (by simp (disch := first | omega | assumption) only [go_sem, Res.av, toldR, badR, usageR]))
end Go.Proofs.YtiaiggbimlbkfaaGreatDoor
namespace Go.Proofs.YtiaiggbimlbkfaaGreatDoor
open Go Go.Ab
set_option maxRecDepth 20000
set_option maxHeartbeats 4000000
theorem runR_grep (args : List Str) (t : Str) (r : Res) (hU : ∀ p, CallOK Tryz.prog 48 [.list 1 (args.map AV.str), .str t] (Oid.under p) ⟨[], r.av, []⟩) (p : Oid) :
    CallOK Tryz.prog 26 [.list 1 ((([103, 114, 101, 112] : Str) :: args).map AV.str), .str t] (Oid.under p) ⟨[], .tuple [r.av, .bool true], []⟩ := by
  obtain ⟨st, out, err⟩ := r
  simp only [Res.av] at hU
  refine fnOK (n := 90) (rs := [.cell 4 32, .tmp 5]) Tryz.func26 rfl rfl (by decide) rfl rfl rfl ?_; rintro x rfl hrd hng
  (repeat (first | (refine K_ifT rfl rfl ?_) | (refine K_ifF rfl rfl ?_) | (refine K_ev nmd [] hng (by kernel_rfl) fun hf C S K hC1 hC hS hK => ?_; simp (disch := first | omega | assumption) only [go_sem]; refine hK ?_; clear hK hS hC hC1 K S C hf) | ((first | refine zk ?_ | refine zn ?_ | refine ze ?_); with_reducible (constructor; repeat constructor); try refine zl ?_)))
  refine K_evd nmd [] [] mixed hng (by kernel_rfl) [1, 4, 6, 7] fun hf C S K hC hS hK => ?_; simp (disch := first | omega | assumption) only [go_sem]
  (first | refine hK (dynN_quiet rfl) ?_ | refine hK (by simp (disch := first | omega | assumption) only [go_sem, List.reverse_cons, List.reverse_nil, ne_eq, not_false_eq_true, implies_true]) ?_); clear hK hS hC K S C hf
  (repeat (first | (refine K_ifT rfl rfl ?_) | (refine K_ifF rfl rfl ?_) | (refine K_ev nmd [] hng (by kernel_rfl) fun hf C S K hC1 hC hS hK => ?_; simp (disch := first | omega | assumption) only [go_sem]; (repeat ((first | refine hC1 _ (hU _) (by simp (disch := first | omega | assumption) only [go_sem]) ?_); simp (disch := first | omega | assumption) only [go_sem])); refine hK ?_; clear hK hS hC hC1 K S C hf) | ((first | refine zk ?_ | refine zn ?_ | refine ze ?_); with_reducible (constructor; repeat constructor); try refine zl ?_)))
  exact K_ret (done_plain (by simp (disch := first | omega | assumption) only [go_sem, Res.av, toldR, badR, usageR]))
theorem same_grep (args : List Str) (t : Str) (ha : ∀ s ∈ args, s.length ≤ 4000000) (ht : t.length ≤ 4000000) (p : Oid) (hp : p.mono = false) :
    CallOK Tryz.prog 17 [.list 1 ((([103, 114, 101, 112] : Str) :: args).map AV.str), .str t] (Oid.under p) ⟨[], .bool true, []⟩ := by
  rcases grep_cases args with ⟨no, u, hc⟩ | h
  · have hul : u.length ≤ 4000000 := by rcases hc with ⟨rfl, _⟩ | ⟨rfl, _⟩ <;> exact ha u (by simp)
    exact same_of _ t _ true (fun p hp => run_any ([103, 114, 101, 112] : Str) (by decide) args t 37 (by kernel_rfl) (by kernel_rfl) (grepR no u t) true p (fun p hp => grep_ok args no u hc t ht p) hp)
      (fun p => runR_grep args t _ (fun p => grepRef_ok args no u hc hul t ht p) p) p hp
  · exact same_of _ t _ true (fun p hp => run_any ([103, 114, 101, 112] : Str) (by decide) args t 37 (by kernel_rfl) (by kernel_rfl) badR false p (fun p _ => grep_bad args h t p) hp)
      (fun p => runR_grep args t _ (fun p => grepRef_bad args h t p) p) p hp
end Go.Proofs.YtiaiggbimlbkfaaGreatDoor
namespace Go.Proofs.YtiaiggbimlbkfaaGreatDoor
open Go Go.Ab
set_option maxRecDepth 20000
set_option maxHeartbeats 2000000
def blankB (b : UInt8) : Bool := decide (b.toNat = 32) || decide (b.toNat = 9) || decide (b.toNat = 10)
/-- How many words begin; was: a blank stood ahead. -/
def wordsB : Bool → Str → Nat
  | _, [] => 0
  | was, b :: s => (if was = true ∧ blankB b = false then 1 else 0) + wordsB (blankB b) s
theorem wordsB_skip : ∀ (j : Nat) (l : Str), j ≤ l.length → (∀ i, i < j → blankB (l.getD i 0) = false) → wordsB false l = wordsB false (l.drop j)
  | 0, _, _, _ => rfl
  | j + 1, [], h, _ => absurd h (by simp)
  | j + 1, b :: l, h, h2 => by
    have h0 : blankB b = false := h2 0 (by omega)
    rw [wordsB, h0, if_neg (by simp), Nat.zero_add, List.drop_succ_cons]
    exact wordsB_skip j l (by simpa using h) fun i hi => by simpa using h2 (i + 1) (by omega)
theorem wordsB_le : ∀ (l : Str) (w : Bool), wordsB w l ≤ l.length
  | [], _ => Nat.le_refl _
  | b :: l, w => by
    have := wordsB_le l (blankB b)
    rw [wordsB, List.length_cons]; split <;> omega
theorem decode_cont (s : ByteArray) (pos : Nat) (h : pos < s.size) : ∀ j, 1 ≤ j → j < (Utf8.decode s pos).2 → pos + j < s.size ∧ 128 ≤ (s.get! (pos + j)).toNat := by
  intro j h1 h2
  simp only [Utf8.decode] at h2
  by_cases c1 : (s.get! (pos + 0)).toNat < 128
  · rw [if_pos c1] at h2; simp only at h2; omega
  · rw [if_neg c1] at h2
    repeat' (split at h2)
    all_goals simp only [Bool.and_eq_true, decide_eq_true_eq, beq_iff_eq] at *
    all_goals first
      | (exfalso; omega)
      | (rcases (show j = 1 ∨ j = 2 ∨ j = 3 by omega) with rfl | rfl | rfl <;> first | (exfalso; omega) | exact ⟨by omega, by omega⟩)
/-- The rune at a place. -/
def runeAt (s : Str) (pos : Nat) : Nat := (Utf8.decode ⟨s.toArray⟩ pos).1
def wideAt (s : Str) (pos : Nat) : Nat := (Utf8.decode ⟨s.toArray⟩ pos).2
def blankN (c : Nat) : Bool := decide (c = 32) || decide (c = 9) || decide (c = 10)
theorem get_ba (s : Str) (i : Nat) : (ByteArray.mk s.toArray).get! i = s.getD i 0 := by
  show s.toArray[i]! = _
  by_cases h : i < s.length
  · simp [List.getD_eq_getElem?_getD, List.getElem?_eq_getElem h, h]
  · simp [List.getD_eq_getElem?_getD, List.getElem?_eq_none (Nat.le_of_not_lt h), h]; rfl
theorem getD_drop0 (s : Str) (i k : Nat) : (s.drop i).getD k 0 = s.getD (i + k) 0 := by
  simp [List.getD_eq_getElem?_getD, List.getElem?_drop]
theorem rune_step (s : Str) (pos : Nat) (h : pos < s.length) (was : Bool) :
    1 ≤ wideAt s pos ∧ pos + wideAt s pos ≤ s.length ∧ wordsB was (s.drop pos) = (if was = true ∧ blankN (runeAt s pos) = false then 1 else 0) + wordsB (blankN (runeAt s pos)) (s.drop (pos + wideAt s pos)) := by
  have hsz : (ByteArray.mk s.toArray).size = s.length := by show s.toArray.size = _; simp
  have hp : pos < (ByteArray.mk s.toArray).size := by rw [hsz]; exact h
  have hg : (ByteArray.mk s.toArray)[pos]'hp = s.getD pos 0 := by rw [← get_at _ pos hp, Nat.add_zero, get_ba]
  have hd : s.drop pos = s.getD pos 0 :: s.drop (pos + 1) := drop_cons0 h
  by_cases ha : (s.getD pos 0).toNat < 128
  · have e := decode_ascii ⟨s.toArray⟩ pos hp (by rw [hg]; exact ha)
    rw [hg] at e
    have e1 : runeAt s pos = (s.getD pos 0).toNat := by unfold runeAt; rw [e]
    have e2 : wideAt s pos = 1 := by unfold wideAt; rw [e]
    rw [e1, e2, hd, wordsB]
    exact ⟨Nat.le_refl _, by omega, rfl⟩
  · have hh := decode_high ⟨s.toArray⟩ pos hp (by rw [hg]; omega)
    have hct := decode_cont ⟨s.toArray⟩ pos hp
    change 128 ≤ runeAt s pos ∧ 1 ≤ wideAt s pos at hh
    change ∀ j, 1 ≤ j → j < wideAt s pos → _ at hct
    have hr : blankN (runeAt s pos) = false := by simp only [blankN, Bool.or_eq_false_iff, decide_eq_false_iff_not]; omega
    have hb : ∀ j, j < wideAt s pos → pos + j < s.length ∧ blankB (s.getD (pos + j) 0) = false := fun j hj => by
      by_cases h0 : j = 0
      · subst h0
        refine ⟨h, ?_⟩
        simp only [blankB, Bool.or_eq_false_iff, decide_eq_false_iff_not, Nat.add_zero]; omega
      · obtain ⟨h5, h6⟩ := hct j (by omega) hj
        rw [hsz] at h5
        rw [get_ba] at h6
        refine ⟨h5, ?_⟩
        simp only [blankB, Bool.or_eq_false_iff, decide_eq_false_iff_not]; omega
    have hw1 := hh.2
    have hend := (hb (wideAt s pos - 1) (by omega)).1
    have hb0 := (hb 0 (by omega)).2
    rw [Nat.add_zero] at hb0
    refine ⟨hw1, by omega, ?_⟩
    rw [hd, wordsB, hb0, hr]
    congr 1
    rw [wordsB_skip (wideAt s pos - 1) (s.drop (pos + 1)) (by rw [List.length_drop]; omega) (fun i hi => by
      rw [getD_drop0, show pos + 1 + i = pos + (i + 1) by omega]; exact (hb (i + 1) (by omega)).2), List.drop_drop]
    congr 2; omega
end Go.Proofs.YtiaiggbimlbkfaaGreatDoor
namespace Go.Proofs.YtiaiggbimlbkfaaGreatDoor
open Go Go.Ab Go.RowKit
set_option maxRecDepth 1000000
set_option maxHeartbeats 2000000
theorem words_run (l : Str) (hl : l.length ≤ 4000000000) (w : World) :
    Calls Tryz.prog 60 #[.string ⟨l.toArray⟩] w fun e w' => e = .returned (.int .i64 (wordsB true l : Nat)) ∧ ∃ pos, w' = w.iter ⟨l.toArray⟩ pos := by
  have hsz : (ByteArray.mk l.toArray).size = l.length := by show l.toArray.size = _; simp
  have htot := wordsB_le l true
  go_enter Tryz.func60, Tryz.ntmps60
  go_wp2
  go_loopw [2, 3] (fun n v w' => ∃ (pos acc : Nat) (ws : Bool), w' = w.iter ⟨l.toArray⟩ pos ∧ n = .int .i64 (acc : Int) ∧ v = .bool ws ∧ acc + wordsB ws (l.drop pos) = wordsB true l) (fun _ _ w' => l.length - w'.iterPos w.heap.size)
  case atStart => exact ⟨0, 0, true, rfl, rfl, rfl, by simp⟩
  case round =>
    obtain ⟨pos, acc, ws, rfl, rfl, rfl, hc⟩ := hrel
    by_cases hp : pos < l.length
    · have hp' : pos < (ByteArray.mk l.toArray).size := by rw [hsz]; exact hp
      have hnx : ∀ ty, (Instr.next (.pointer (some ⟨w.heap.size, 0, none⟩)) true ty).run Tryz.prog (w.iter ⟨l.toArray⟩ pos) = _ := fun ty => run_next_any w _ pos ty hp'
      obtain ⟨h1, h2, h3⟩ := rune_step l pos hp ws
      rw [h3] at hc
      have hcm := decode_le ⟨l.toArray⟩ pos
      change runeAt l pos ≤ _ at hcm
      have hd : Utf8.decode ⟨l.toArray⟩ pos = (runeAt l pos, wideAt l pos) := rfl
      simp only [hd] at hnx
      clear hd
      generalize runeAt l pos = c at hnx hc hcm
      generalize wideAt l pos = d at hnx hc h1 h2
      have hacc : acc ≤ 4000000000 := by omega
      have hwr : IntKind.i64.wrap ((acc : Int) + 1) = (acc : Int) + 1 := by rw [IntKind.wrap_i64]; omega
      by_cases c0 : c = 32
      · subst c0
        rw [show blankN 32 = true from rfl] at hc
        simp only [Bool.true_eq_false, and_false, if_false, Nat.zero_add] at hc
        cases ws with
        | true =>
          go_wp2
          go_roundw
          case rel => exact ⟨pos + d, acc, true, rfl, rfl, rfl, hc⟩
          case measure =>
            simp
            omega
        | false =>
          go_wp2
          go_roundw
          case rel => exact ⟨pos + d, acc, true, rfl, rfl, rfl, hc⟩
          case measure =>
            simp
            omega
      by_cases c1 : c = 9
      · subst c1
        rw [show blankN 9 = true from rfl] at hc
        simp only [Bool.true_eq_false, and_false, if_false, Nat.zero_add] at hc
        cases ws with
        | true =>
          go_wp2
          go_roundw
          case rel => exact ⟨pos + d, acc, true, rfl, rfl, rfl, hc⟩
          case measure =>
            simp
            omega
        | false =>
          go_wp2
          go_roundw
          case rel => exact ⟨pos + d, acc, true, rfl, rfl, rfl, hc⟩
          case measure =>
            simp
            omega
      by_cases c2 : c = 10
      · subst c2
        rw [show blankN 10 = true from rfl] at hc
        simp only [Bool.true_eq_false, and_false, if_false, Nat.zero_add] at hc
        cases ws with
        | true =>
          go_wp2
          go_roundw
          case rel => exact ⟨pos + d, acc, true, rfl, rfl, rfl, hc⟩
          case measure =>
            simp
            omega
        | false =>
          go_wp2
          go_roundw
          case rel => exact ⟨pos + d, acc, true, rfl, rfl, rfl, hc⟩
          case measure =>
            simp
            omega
      have i0 : ((c : Int) == 32) = false := by simp; omega
      have i1 : ((c : Int) == 9) = false := by simp; omega
      have i2 : ((c : Int) == 10) = false := by simp; omega
      rw [show blankN c = false by simp [blankN, c0, c1, c2]] at hc
      cases ws with
      | true =>
        simp only [and_self, if_true] at hc
        go_wp2
        go_roundw
        case rel => exact ⟨pos + d, acc + 1, false, rfl, rfl, rfl, by omega⟩
        case measure =>
          simp
          omega
      | false =>
        simp only [Bool.false_eq_true, false_and, if_false, Nat.zero_add] at hc
        go_wp2
        go_roundw
        case rel => exact ⟨pos + d, acc, false, rfl, rfl, rfl, hc⟩
        case measure =>
          simp
          omega
    · have hp' : ¬ pos < (ByteArray.mk l.toArray).size := by rw [hsz]; exact hp
      have hnx : ∀ ty, (Instr.next (.pointer (some ⟨w.heap.size, 0, none⟩)) true ty).run Tryz.prog (w.iter ⟨l.toArray⟩ pos) = _ := fun ty => run_next_end w _ pos ty hp'
      rw [List.drop_eq_nil_of_le (by omega)] at hc
      simp only [wordsB, Nat.add_zero] at hc
      subst hc
      go_wp2
      go_ret
      exact ⟨rfl, _, rfl⟩
end Go.Proofs.YtiaiggbimlbkfaaGreatDoor
