/- A part of the proof: the texts Q4, Q5, Q6, Q7, Q8, FwL, Laid, QX, Q9, Q12, QL2, Q20, Q21, Q13, Q22, Q10, Q11, Q23, one behind the other. -/
import Derived.Test.YtiaiggbimlbkfaaGreatDoorPBc
import Derived.Sort.Row
import Derived.Lib.RowBridge
import Derived.Deep.DeepHandedRow
import Derived.Lib.LaidTab
import Derived.Test.YtiaiggbimlbkfaaGreatDoorRows
import Derived.Test.YtiaiggbimlbkfaaGreatDoorCards
import Derived.Test.YtiaiggbimlbkfaaGreatDoorTie
set_option linter.unusedVariables false
set_option linter.unusedSimpArgs false
set_option linter.unusedSectionVars false
namespace Go.Proofs.YtiaiggbimlbkfaaGreatDoor
open Go Go.Ab
open Go.Sort Go.RowKit
set_option maxRecDepth 20000
set_option maxHeartbeats 4000000
def sortS (l : List Str) : List Str := l.mergeSort fun x y => decide (x ≤ y)
theorem sr_other {w : World} {b n : Nat} {d : Array Str} {os : Array Obj} {b' : Nat} (hb : b' ≠ b) (hlt : b' < w.heap.size) : (grow (putRow encStr (Sort.ahead w n) b 0 d) os).heap[b']? = w.heap[b']? := by
  unfold putRow mapBlock
  rw [heap_grow_old _ _ (by simpa [ahead] using hlt)]
  simp [Array.getElem?_modify, Ne.symm hb, ahead]
theorem sr_same {w : World} {b n : Nat} {d : Array Str} {os : Array Obj} {c : Array Value} {t : TypeId} {fz : Nat × Nat} (hb : w.heap[b]? = some (.cells c t fz)) :
    (grow (putRow encStr (Sort.ahead w n) b 0 d) os).heap[b]? = some (.cells (putCells encStr 0 d c) t fz) := by
  have hlt := (Array.getElem?_eq_some_iff.1 hb).1
  unfold putRow mapBlock
  rw [heap_grow_old _ _ (by simpa [ahead] using hlt)]
  simp [Array.getElem?_modify, hb, ahead, onCells]
theorem sr_size {w : World} {b n : Nat} {d : Array Str} {os : Array Obj} : w.heap.size ≤ (grow (putRow encStr (Sort.ahead w n) b 0 d) os).heap.size := by
  unfold putRow mapBlock
  simp [grow, ahead]
theorem pc_size (d : Array Str) (c : Array Value) : (putCells encStr 0 d c).size = c.size := by simp [putCells]
theorem str_enc {g : Gh} {s : Str} {v : Value} : VR g (.str s) v ↔ v = encStr s := by
  constructor
  · intro h
    obtain ⟨b, rfl, hb⟩ := h.str_inv
    show Value.string b = Value.string _
    congr 1
    cases b
    simp only at hb
    congr 1
    rw [← hb]
  · rintro rfl
    exact .str _ _ rfl
theorem sortS_perm (l : List Str) : (sortS l).Perm l := List.mergeSort_perm _ _
theorem sortS_length (l : List Str) : (sortS l).length = l.length := (sortS_perm l).length_eq
/-- A contract of the shelf that turns a row of strings. -/
theorem row_turn (l l' tl : List Str) (f : FuncId) (he : entersB Tryz.prog f = true) (hl : ¬ l = []) (ht : l'.length + tl.length = l.length) (id p : Oid) (av : AV) (val : Nat → Nat → Value)
    (hval : ∀ (g : Gh) (b cap : Nat), g.loc id = some (some b) → l.length ≤ cap → g.row b = some (cap * 1) → VR g av (val b cap))
    (h : ∀ (b cap : Nat) (w : World), Holds encStr w b 0 l.toArray → b < w.heap.size → l.length ≤ cap → Calls Tryz.prog f #[.slice (some ⟨b, 0, none⟩) l.length cap] w fun e w' =>
      e = .returned (val b cap) ∧ ∃ n os, w' = grow (putRow encStr (Sort.ahead w n) b 0 (l' ++ tl).toArray) os) :
    CallOK Tryz.prog f [.sl id 1 l.length] (Oid.under p) ⟨[(id, .arr 1 (l.map .str))], av, [(id, some (.arr 1 (l'.map .str)))]⟩ := by
  refine ⟨he, fun x g args w m hm hn hargs hsp hng => ?_⟩
  have hmi := hn _ List.mem_cons_self
  simp only at hmi
  obtain ⟨v, rfl, a0⟩ := hargs.one
  have hne : l.length ≠ 0 := fun e => hl (List.eq_nil_of_length_eq_zero e)
  obtain ⟨b, cap, rfl, hloc, hcap, hrow⟩ := a0.sl_inv'.resolve_left fun h => hne h.1
  obtain ⟨b0, hb0, hcom, hmay, hobj⟩ := hm.objL hmi hloc
  rw [hloc] at hb0; simp only [Option.some.injEq] at hb0; subst hb0
  obtain ⟨c, t, fz, hh, hcs, hfz, hxl, hone, hv⟩ := hobj
  have hlt := (Array.getElem?_eq_some_iff.1 hh).1
  simp only [List.length_map, Nat.mul_one] at hcs hxl hone hv
  have hav : ∀ (l : List Str) i, i < l.length → (l.map AV.str).getD i .undef = .str (l.getD i []) := fun l i hi => by simp [List.getD_eq_getElem?_getD, List.getElem?_map, List.getElem?_eq_getElem hi]
  have hcell : ∀ i, i < l.length → c.getD i undef = encStr (l.getD i []) := fun i hi => by
    have := hv i 0 hi (by omega)
    rw [hav l i hi] at this
    simp only [AV.cells, List.getD_cons_zero, Nat.mul_one, Nat.add_zero] at this
    exact str_enc.1 this
  have hH : Holds encStr w b 0 l.toArray := by
    intro j hj
    have hj' : j < l.length := by simpa using hj
    have hjc : j < c.size := by omega
    constructor
    · have h3 := hcell j hj'
      simp only [World.cell?, hh, Nat.zero_add, Option.isSome_none, Bool.false_eq_true, if_false, Array.getElem?_eq_getElem hjc, Option.some.injEq]
      rw [Array.getD_eq_getD_getElem?, Array.getElem?_eq_getElem hjc, Option.getD_some] at h3
      rw [h3]
      have h5 : l.toArray[j]! = l.getD j [] := by simp [List.getElem?_eq_getElem hj', hj']
      rw [h5]
    · simp only [World.frozen?, hh, Nat.zero_add]
      have := hfz j hjc
      by_cases h : fz.1 ≤ j
      · have : ¬ j < fz.2 := fun h' => this ⟨h, h'⟩
        simp [this]
      · simp [h]
  refine (h b cap w hH hlt hcap).mono ?_
  rintro en w' ⟨rfl, n, os, rfl⟩
  show ∃ _ _, _
  refine ⟨g, _, rfl, Gh.le_refl g, fun _ _ => rfl, hval g b cap hloc hcap hrow, ?_⟩
  refine hm.turn (o := .arr 1 (l'.map .str)) hmi hloc rfl rfl ⟨rfl, Nat.le_add_right _ _⟩ sr_size (fun b' hb' hlt' => sr_other hb' hlt') (fun r hr => ?_) ?_ ?_
  · obtain ⟨c', t', fz', h2, h3⟩ := hm.rows b r hr
    exact ⟨_, _, _, sr_same h2, by rw [pc_size]; exact h3⟩
  · intro c9 t9 fz9 h9; exact ⟨_, _, sr_same h9⟩
  · have hget : ∀ i, i < l'.length → (putCells encStr 0 (l' ++ tl).toArray c).getD i undef = encStr (l'.getD i []) := fun i hi => by
      have hc2 : i < c.size := by omega
      have hi2 : i < l'.length + tl.length := by omega
      simp only [putCells, Array.getD_eq_getD_getElem?, Array.getElem?_mapIdx, Array.getElem?_eq_getElem hc2, Option.map_some, Option.getD_some, Nat.zero_le, true_and, Nat.zero_add, Nat.sub_zero, List.size_toArray, List.length_append, hi2, if_true]
      congr 1
      simp [List.getElem?_eq_getElem hi, hi, hi2, List.getElem_append_left hi]
    refine ⟨_, t, fz, sr_same hh, ?_, ?_, ?_, ?_, ?_⟩
    · rw [pc_size, List.length_map, Nat.mul_one]; omega
    · rw [pc_size]; exact hfz
    · intro i hi
      rw [hav _ i (by simpa using hi)]; rfl
    · intro j hj
      have hj' : j < l'.length := by simpa using hj
      rw [hget j hj']; rfl
    · intro i j hi hj
      have hi' : i < l'.length := by simpa using hi
      obtain rfl : j = 0 := by omega
      rw [hav _ i hi', Nat.mul_one, Nat.add_zero, hget i hi']
      exact .str _ _ rfl
theorem grow_none (w : World) : grow w #[] = w := by
  cases w; simp [grow]
theorem sortStr_ok (l : List Str) (hl : ¬ l = []) (hsz : l.length < 4611686018427387904) (id p : Oid) :
    CallOK Tryz.prog 64 [.sl id 1 l.length] (Oid.under p) ⟨[(id, .arr 1 (l.map .str))], .tuple [], [(id, some (.arr 1 ((sortS l).map .str)))]⟩ :=
  row_turn l (sortS l) [] _ (by kernel_rfl) hl (by rw [sortS_length]; rfl) id p _ (fun _ _ => .tuple #[]) (fun g b cap _ _ _ => .tuple _ _ rfl (fun j hj => absurd hj (Nat.not_lt_zero _))) fun b cap w hH hb hcap => by
    rw [List.append_nil]
    exact Tryz.slices_Sort_string b 0 cap l w hH hb hsz
theorem reverse_ok (l : List Str) (hl : ¬ l = []) (hsz : l.length < 4611686018427387904) (id p : Oid) :
    CallOK Tryz.prog 67 [.sl id 1 l.length] (Oid.under p) ⟨[(id, .arr 1 (l.map .str))], .tuple [], [(id, some (.arr 1 (l.reverse.map .str)))]⟩ :=
  row_turn l l.reverse [] _ (by kernel_rfl) hl (by rw [List.length_reverse]; rfl) id p _ (fun _ _ => .tuple #[]) (fun g b cap _ _ _ => .tuple _ _ rfl (fun j hj => absurd hj (Nat.not_lt_zero _))) fun b cap w hH hb hcap => by
    rw [List.append_nil]
    refine (Tryz.slices_Reverse_string b 0 cap l w hH (by omega)).mono ?_
    rintro e w' ⟨h1, n, rfl⟩
    exact ⟨h1, n, #[], (grow_none _).symm⟩
theorem compact_le (l : List Str) : (Lib.compact l).length ≤ l.length := Lib.compact_length_le l
theorem compact_ok (l : List Str) (hl : ¬ l = []) (hsz : l.length < 4611686018427387904) (id p : Oid) :
    CallOK Tryz.prog 66 [.sl id 1 l.length] (Oid.under p) ⟨[(id, .arr 1 (l.map .str))], .sl id 1 (Lib.compact l).length, [(id, some (.arr 1 ((Lib.compact l).map .str)))]⟩ :=
  row_turn l (Lib.compact l) (List.replicate (l.length - (Lib.compact l).length) []) _ (by kernel_rfl) hl (by have := compact_le l; rw [List.length_replicate]; omega) id p _ (fun b cap => .slice (some ⟨b, 0, none⟩) (Lib.compact l).length cap)
    (fun g b cap h1 h2 h3 => .sl _ _ _ _ _ h1 (Nat.le_trans (compact_le l) h2) h3) fun b cap w hH hb hcap => by
    refine (Tryz.slices_Compact_string b 0 cap l w hH (by omega) hcap).mono ?_
    rintro e w' ⟨h1, n, rfl⟩
    exact ⟨h1, n, #[], (grow_none _).symm⟩
theorem sort_nil (p : Oid) : CallOK Tryz.prog 64 [.nilSl] (Oid.under p) ⟨[], .tuple [], []⟩ :=
  callOK_same (by kernel_rfl) fun g args w ha _ => by
    obtain ⟨v, rfl, hv⟩ := ha.one
    rw [hv.nilSl_inv]
    refine (Tryz.slices_Sort_string_none none 0 w).mono ?_
    rintro e w' ⟨rfl, rfl⟩
    exact ⟨_, rfl, .tuple _ _ rfl (fun j hj => absurd hj (Nat.not_lt_zero _)), rfl⟩
theorem reverse_nil (p : Oid) : CallOK Tryz.prog 67 [.nilSl] (Oid.under p) ⟨[], .tuple [], []⟩ :=
  callOK_same (by kernel_rfl) fun g args w ha _ => by
    obtain ⟨v, rfl, hv⟩ := ha.one
    rw [hv.nilSl_inv]
    refine (Tryz.slices_Reverse_string_empty none 0 w).mono ?_
    rintro e w' ⟨rfl, rfl⟩
    exact ⟨_, rfl, .tuple _ _ rfl (fun j hj => absurd hj (Nat.not_lt_zero _)), rfl⟩
theorem compact_nil (p : Oid) : CallOK Tryz.prog 66 [.nilSl] (Oid.under p) ⟨[], .nilSl, []⟩ :=
  callOK_same (by kernel_rfl) fun g args w ha _ => by
    obtain ⟨v, rfl, hv⟩ := ha.one
    rw [hv.nilSl_inv]
    refine (Tryz.slices_Compact_string_empty none 0 w).mono ?_
    rintro e w' ⟨rfl, rfl⟩
    exact ⟨_, rfl, .nilSl, rfl⟩
end Go.Proofs.YtiaiggbimlbkfaaGreatDoor
namespace Go.Proofs.YtiaiggbimlbkfaaGreatDoor
open Go Go.Ab
set_option maxRecDepth 20000
set_option maxHeartbeats 4000000
/-- The first place of one that is such; -1: there is none. -/
def ixF (q : Str → Bool) : List Str → Int
  | [] => -1
  | s :: l => if q s = true then 0 else if ixF q l < 0 then -1 else ixF q l + 1
theorem ixF_none {q : Str → Bool} : ∀ {l : List Str}, l.any q = false → ixF q l = -1
  | [], _ => rfl
  | s :: l, h => by
    simp only [List.any_cons, Bool.or_eq_false_iff] at h
    rw [ixF, if_neg (by rw [h.1]; decide), ixF_none h.2, if_pos (by decide)]
theorem ixF_at {q : Str → Bool} : ∀ {l : List Str} {i : Nat}, i < l.length → (l.take i).any q = false → q (l.getD i default) = true → ixF q l = i
  | [], i, h, _, _ => absurd h (Nat.not_lt_zero _)
  | s :: l, 0, _, _, h => by rw [ixF, if_pos (show q s = true from h)]; rfl
  | s :: l, i + 1, h, h1, h2 => by
    simp only [List.take_succ_cons, List.any_cons, Bool.or_eq_false_iff] at h1
    have ih := ixF_at (l := l) (i := i) (by simpa using h) h1.2 (by simpa using h2)
    rw [ixF, if_neg (by rw [h1.1]; decide), ih, if_neg (by omega)]; rfl
theorem ixF_any {q : Str → Bool} (l : List Str) : decide (0 ≤ ixF q l) = l.any q := by
  induction l with
  | nil => rfl
  | cons s l ih =>
    rw [ixF, List.any_cons]
    by_cases h : q s = true
    · rw [if_pos h, h]; rfl
    · have h' : q s = false := by simpa using h
      rw [if_neg h, h', Bool.false_or, ← ih]
      by_cases h2 : ixF q l < 0
      · rw [if_pos h2, decide_eq_false (by omega), decide_eq_false (by omega)]
      · rw [if_neg h2, decide_eq_true (by omega), decide_eq_true (by omega)]
theorem any_step {q : Str → Bool} {l : List Str} {i : Nat} (hi : i < l.length) (h : (l.take i).any q = false) (h2 : q (l.getD i default) = false) : (l.take (i + 1)).any q = false := by
  rw [List.take_add_one, List.any_append, h, List.getElem?_eq_getElem hi]
  rw [List.getD_eq_getElem?_getD, List.getElem?_eq_getElem hi, Option.getD_some] at h2
  simp [h2]
theorem indexFunc_ok (q : Str → Bool) (fu : Nat) (hq : ∀ s p, CallOK Tryz.prog fu [.str s] (Oid.under p) ⟨[], .bool (q s), []⟩) (l : List Str) (hl : l.length ≤ 4000000000) (p : Oid) :
    CallOK Tryz.prog 91 [.list 1 (l.map AV.str), .fn (.func fu) [] []] (Oid.under p) ⟨[], .int .i64 (ixF q l), []⟩ := by
  refine fnOK (n := 19) (rs := [.tmp 4]) Tryz.func91 rfl rfl (by decide) rfl rfl rfl ?_; rintro x rfl hrd hng
  (repeat (first | (refine K_ifT rfl rfl ?_) | (refine K_ifF rfl rfl ?_) | (refine K_ev nmd [] hng (by kernel_rfl) fun hf C S K hC1 hC hS hK => ?_; simp (disch := first | omega | assumption) only [go_sem]; refine hK ?_; clear hK hS hC hC1 K S C hf) | ((first | refine zk ?_ | refine zn ?_ | refine ze ?_); with_reducible (constructor; repeat constructor); try refine zl ?_)))
  refine K_loop [0, 1, 7, 8] (fun k s' => ∃ i c : Nat, k = l.length - i ∧ i ≤ l.length ∧ (l.take i).any q = false ∧ s' = ⟨[(0, .list 1 (l.map AV.str)), (1, .fn (.func fu) [] []), (7, .int .i64 l.length), (8, .int .i64 i)], Mem.of [], c, []⟩) _ ⟨0, _, rfl, Nat.zero_le _, by simp, rfl⟩ ?_
  rintro k s' ⟨i, c, rfl, hi, hno, rfl⟩
  (repeat (first | (refine K_ifT rfl rfl ?_) | (refine K_ifF rfl rfl ?_) | (refine K_ev nmd [] hng (by kernel_rfl) fun hf C S K hC1 hC hS hK => ?_; simp (disch := first | omega | assumption) only [go_sem]; refine hK ?_; clear hK hS hC hC1 K S C hf) | ((first | refine zk ?_ | refine zn ?_ | refine ze ?_); with_reducible (constructor; repeat constructor); try refine zl ?_)))
  refine K_ifd rfl rfl (fun hb => ?_) (fun hb => ?_)
  · have hlt : i < l.length := by omega
    (repeat (first | (refine K_ifT rfl rfl ?_) | (refine K_ifF rfl rfl ?_) | (refine K_ev nmd [] hng (by kernel_rfl) fun hf C S K hC1 hC hS hK => ?_; simp (disch := first | omega | assumption) only [go_sem]; (repeat ((first | refine hC1 _ (hq (l.getD i default) _) (by simp (disch := first | omega | assumption) only [go_sem]) ?_); simp (disch := first | omega | assumption) only [go_sem])); refine hK ?_; clear hK hS hC hC1 K S C hf) | ((first | refine zk ?_ | refine zn ?_ | refine ze ?_); with_reducible (constructor; repeat constructor); try refine zl ?_)))
    refine K_if rfl rfl (fun hb => ?_) (fun hb => ?_)
    · rw [ixF_at hlt hno hb]
      (repeat (first | (refine K_ifT rfl rfl ?_) | (refine K_ifF rfl rfl ?_) | (refine K_ev nmd [] hng (by kernel_rfl) fun hf C S K hC1 hC hS hK => ?_; simp (disch := first | omega | assumption) only [go_sem]; refine hK ?_; clear hK hS hC hC1 K S C hf) | ((first | refine zk ?_ | refine zn ?_ | refine ze ?_); with_reducible (constructor; repeat constructor); try refine zl ?_)))
      exact K_ret (done1 rfl)
    · have hn := any_step hlt hno hb
      (repeat (first | (refine K_ifT rfl rfl ?_) | (refine K_ifF rfl rfl ?_) | (refine K_ev nmd [] hng (by kernel_rfl) fun hf C S K hC1 hC hS hK => ?_; simp (disch := first | omega | assumption) only [go_sem]; refine hK ?_; clear hK hS hC hC1 K S C hf) | ((first | refine zk ?_ | refine zn ?_ | refine ze ?_); with_reducible (constructor; repeat constructor); try refine zl ?_)))
      exact ⟨_, _, by omega, fun _ _ h => h, i + 1, _, rfl, by omega, hn, rfl⟩
  · obtain rfl : i = l.length := by omega
    rw [List.take_length] at hno
    rw [ixF_none hno]
    (repeat (first | (refine K_ifT rfl rfl ?_) | (refine K_ifF rfl rfl ?_) | (refine K_ev nmd [] hng (by kernel_rfl) fun hf C S K hC1 hC hS hK => ?_; simp (disch := first | omega | assumption) only [go_sem]; refine hK ?_; clear hK hS hC hC1 K S C hf) | ((first | refine zk ?_ | refine zn ?_ | refine ze ?_); with_reducible (constructor; repeat constructor); try refine zl ?_)))
    exact K_ret (done1 rfl)
theorem containsFunc_ok (q : Str → Bool) (fu : Nat) (hq : ∀ s p, CallOK Tryz.prog fu [.str s] (Oid.under p) ⟨[], .bool (q s), []⟩) (l : List Str) (hl : l.length ≤ 4000000000) (p : Oid) :
    CallOK Tryz.prog 62 [.list 1 (l.map AV.str), .fn (.func fu) [] []] (Oid.under p) ⟨[], .bool (l.any q), []⟩ := by
  refine fnOK (n := 9) (rs := [.tmp 4]) Tryz.func62 rfl rfl (by decide) rfl rfl rfl ?_; rintro x rfl hrd hng
  (repeat (first | (refine K_ifT rfl rfl ?_) | (refine K_ifF rfl rfl ?_) | (refine K_ev nmd [] hng (by kernel_rfl) fun hf C S K hC1 hC hS hK => ?_; simp (disch := first | omega | assumption) only [go_sem]; (repeat ((first | refine hC1 _ (indexFunc_ok q fu hq l hl _) (by simp (disch := first | omega | assumption) only [go_sem]) ?_); simp (disch := first | omega | assumption) only [go_sem])); refine hK ?_; clear hK hS hC hC1 K S C hf) | ((first | refine zk ?_ | refine zn ?_ | refine ze ?_); with_reducible (constructor; repeat constructor); try refine zl ?_)))
  exact K_ret (done1 (congrArg AV.bool (ixF_any l)))
theorem index_ok (x0 : Str) (l : List Str) (hl : l.length ≤ 4000000000) (p : Oid) :
    CallOK Tryz.prog 61 [.list 1 (l.map AV.str), .str x0] (Oid.under p) ⟨[], .int .i64 (ixF (fun s => decide (x0 = s)) l), []⟩ := by
  refine fnOK (n := 19) (rs := [.tmp 4]) Tryz.func61 rfl rfl (by decide) rfl rfl rfl ?_; rintro x rfl hrd hng
  (repeat (first | (refine K_ifT rfl rfl ?_) | (refine K_ifF rfl rfl ?_) | (refine K_ev nmd [] hng (by kernel_rfl) fun hf C S K hC1 hC hS hK => ?_; simp (disch := first | omega | assumption) only [go_sem]; refine hK ?_; clear hK hS hC hC1 K S C hf) | ((first | refine zk ?_ | refine zn ?_ | refine ze ?_); with_reducible (constructor; repeat constructor); try refine zl ?_)))
  refine K_loop [0, 1, 7, 8] (fun k s' => ∃ i c : Nat, k = l.length - i ∧ i ≤ l.length ∧ (l.take i).any (fun s => decide (x0 = s)) = false ∧ s' = ⟨[(0, .list 1 (l.map AV.str)), (1, .str x0), (7, .int .i64 l.length), (8, .int .i64 i)], Mem.of [], c, []⟩) _ ⟨0, _, rfl, Nat.zero_le _, by simp, rfl⟩ ?_
  rintro k s' ⟨i, c, rfl, hi, hno, rfl⟩
  (repeat (first | (refine K_ifT rfl rfl ?_) | (refine K_ifF rfl rfl ?_) | (refine K_ev nmd [] hng (by kernel_rfl) fun hf C S K hC1 hC hS hK => ?_; simp (disch := first | omega | assumption) only [go_sem]; refine hK ?_; clear hK hS hC hC1 K S C hf) | ((first | refine zk ?_ | refine zn ?_ | refine ze ?_); with_reducible (constructor; repeat constructor); try refine zl ?_)))
  refine K_ifd rfl rfl (fun hb => ?_) (fun hb => ?_)
  · have hlt : i < l.length := by omega
    (repeat (first | (refine K_ifT rfl rfl ?_) | (refine K_ifF rfl rfl ?_) | (refine K_ev nmd [] hng (by kernel_rfl) fun hf C S K hC1 hC hS hK => ?_; simp (disch := first | omega | assumption) only [go_sem]; refine hK ?_; clear hK hS hC hC1 K S C hf) | ((first | refine zk ?_ | refine zn ?_ | refine ze ?_); with_reducible (constructor; repeat constructor); try refine zl ?_)))
    refine K_ifd rfl rfl (fun hb => ?_) (fun hb => ?_)
    · rw [ixF_at hlt hno (by simpa using hb)]
      (repeat (first | (refine K_ifT rfl rfl ?_) | (refine K_ifF rfl rfl ?_) | (refine K_ev nmd [] hng (by kernel_rfl) fun hf C S K hC1 hC hS hK => ?_; simp (disch := first | omega | assumption) only [go_sem]; refine hK ?_; clear hK hS hC hC1 K S C hf) | ((first | refine zk ?_ | refine zn ?_ | refine ze ?_); with_reducible (constructor; repeat constructor); try refine zl ?_)))
      exact K_ret (done1 rfl)
    · have hn := any_step hlt hno (by simpa using hb)
      (repeat (first | (refine K_ifT rfl rfl ?_) | (refine K_ifF rfl rfl ?_) | (refine K_ev nmd [] hng (by kernel_rfl) fun hf C S K hC1 hC hS hK => ?_; simp (disch := first | omega | assumption) only [go_sem]; refine hK ?_; clear hK hS hC hC1 K S C hf) | ((first | refine zk ?_ | refine zn ?_ | refine ze ?_); with_reducible (constructor; repeat constructor); try refine zl ?_)))
      exact ⟨_, _, by omega, fun _ _ h => h, i + 1, _, rfl, by omega, hn, rfl⟩
  · obtain rfl : i = l.length := by omega
    rw [List.take_length] at hno
    rw [ixF_none hno]
    (repeat (first | (refine K_ifT rfl rfl ?_) | (refine K_ifF rfl rfl ?_) | (refine K_ev nmd [] hng (by kernel_rfl) fun hf C S K hC1 hC hS hK => ?_; simp (disch := first | omega | assumption) only [go_sem]; refine hK ?_; clear hK hS hC hC1 K S C hf) | ((first | refine zk ?_ | refine zn ?_ | refine ze ?_); with_reducible (constructor; repeat constructor); try refine zl ?_)))
    exact K_ret (done1 rfl)
theorem contains_ok (x0 : Str) (l : List Str) (hl : l.length ≤ 4000000000) (p : Oid) :
    CallOK Tryz.prog 65 [.list 1 (l.map AV.str), .str x0] (Oid.under p) ⟨[], .bool (l.any fun s => decide (x0 = s)), []⟩ := by
  refine fnOK (n := 9) (rs := [.tmp 4]) Tryz.func65 rfl rfl (by decide) rfl rfl rfl ?_; rintro x rfl hrd hng
  (repeat (first | (refine K_ifT rfl rfl ?_) | (refine K_ifF rfl rfl ?_) | (refine K_ev nmd [] hng (by kernel_rfl) fun hf C S K hC1 hC hS hK => ?_; simp (disch := first | omega | assumption) only [go_sem]; (repeat ((first | refine hC1 _ (index_ok x0 l hl _) (by simp (disch := first | omega | assumption) only [go_sem]) ?_); simp (disch := first | omega | assumption) only [go_sem])); refine hK ?_; clear hK hS hC hC1 K S C hf) | ((first | refine zk ?_ | refine zn ?_ | refine ze ?_); with_reducible (constructor; repeat constructor); try refine zl ?_)))
  exact K_ret (done1 (congrArg AV.bool (ixF_any l)))
theorem sub2_ne {a b c d : Nat} {p : Oid} : (Oid.sub a b (.sub c d p) = p) = False := eq_false fun h => by have := congrArg Oid.depth h; simp only [Oid.depth] at this; omega
attribute [go_sem] sub2_ne
theorem bad_x (p : Oid) : CallOK Tryz.prog 55 [] (Oid.under p) ⟨[], .tuple [.agg [.int .i64 0, .str [], .str []], .bool false], []⟩ := bad_ok p
theorem told_x (s : Str) (p : Oid) : CallOK Tryz.prog 52 [.str s] (Oid.under p) ⟨[], .tuple [.agg [.int .i64 0, .str s, .str []], .bool true], []⟩ := told_ok s p
/-- Arguments that sort does not know. -/
def oddS (s : Str) : Bool := !decide (s = [45, 114]) && !decide (s = [45, 117])
theorem oddS_ok (s : Str) (p : Oid) : CallOK Tryz.prog 63 [.str s] (Oid.under p) ⟨[], .bool (oddS s), []⟩ := by
  refine fnOK (n := 9) (rs := [.tmp 2]) Tryz.func63 rfl rfl (by decide) rfl rfl rfl ?_; rintro x rfl hrd hng
  (try ((first | refine zk ?_ | refine zn ?_ | refine ze ?_); with_reducible (constructor; repeat constructor)); try refine zl ?_)
  refine K_ev nmd [] hng (by kernel_rfl) fun hf C S K hC1 hC hS hK => ?_; simp (disch := first | omega | assumption) only [go_sem]
  refine hK ?_; clear hK hS hC hC1 K S C hf
  (try ((first | refine zk ?_ | refine zn ?_ | refine ze ?_); with_reducible (constructor; repeat constructor)); try refine zl ?_)
  refine K_ev nmd [(2, 5)] hng (by kernel_rfl) fun hf C S K hC1 hC hS hK => ?_; simp (disch := first | omega | assumption) only [go_sem]
  (repeat' (first | (refine evG_split (fun hv => ?_) (fun hv => ?_) <;> (try simp only [zb1, zb2, zb3, zb4, zb5] at hv) <;> simp (disch := first | omega | assumption) only [go_sem, hv]) | (refine hK ?_; clear hK hS hC hC1 K S C hf)))
  · (try ((first | refine zk ?_ | refine zn ?_ | refine ze ?_); with_reducible (constructor; repeat constructor)); try refine zl ?_)
    exact K_ret (done1 ((if_pos hv).trans (congrArg AV.bool (by simp only [ne_eq] at hv; simp only [oddS, decide_eq_false hv, Bool.not_false, Bool.true_and, ne_eq, decide_not]))))
  · contradiction
  · (try ((first | refine zk ?_ | refine zn ?_ | refine ze ?_); with_reducible (constructor; repeat constructor)); try refine zl ?_)
    simp only [ne_eq, Classical.not_not] at hv
    exact K_ret (done1 (congrArg AV.bool (by simp only [oddS, decide_eq_true hv, Bool.not_true, Bool.false_and])))
/-- The row that Lines hands back. -/
abbrev rowL (p : Oid) : Oid := .sub 0 0 (.sub 2 2 p)
theorem lines_sl (s : Str) (h0 : ¬ s = []) (hl : s.length ≤ 4000000000) (p : Oid) : CallOK Tryz.prog 56 [.str s] (Oid.under p) ⟨[], .sl (rowL p) 1 (linesL s).length, [(rowL p, some (.arr 1 ((linesL s).map AV.str)))]⟩ := by
  refine fnOK (n := 8) (rs := [.tmp 2]) Tryz.func56 rfl rfl (by decide) rfl rfl rfl ?_; rintro x rfl hrd hng
  (repeat (first | (refine K_ifT rfl rfl ?_) | (refine K_ifF rfl rfl ?_) | (refine K_ev nmd [] hng (by kernel_rfl) fun hf C S K hC1 hC hS hK => ?_; simp (disch := first | omega | assumption) only [go_sem]; refine hK ?_; clear hK hS hC hC1 K S C hf) | ((first | refine zk ?_ | refine zn ?_ | refine ze ?_); with_reducible (constructor; repeat constructor); try refine zl ?_)))
  refine K_ifd rfl rfl (fun hb => ?_) (fun hb => ?_)
  · exact absurd hb h0
  · (repeat (first | (refine K_ifT rfl rfl ?_) | (refine K_ifF rfl rfl ?_) | (refine K_ev nmd [] hng (by kernel_rfl) fun hf C S K hC1 hC hS hK => ?_; simp (disch := first | omega | assumption) only [go_sem]; (repeat ((first | refine hC1 _ (trimSuffix_ok s [10] (by omega) _) (by simp (disch := first | omega | assumption) only [go_sem]) ?_ | refine hC1 _ (splitL_lines s h0 hl _) (by simp (disch := first | omega | assumption) only [go_sem]) ?_); simp (disch := first | omega | assumption) only [go_sem])); refine hK ?_; clear hK hS hC hC1 K S C hf) | ((first | refine zk ?_ | refine zn ?_ | refine ze ?_); with_reducible (constructor; repeat constructor); try refine zl ?_)))
    refine K_ret (done_upd rfl ?_ ?_)
    all_goals simp only [List.mem_cons, List.not_mem_nil, or_false, forall_eq_or_imp, forall_eq, Option.some.injEq, forall_eq', Mem.of_cons_at, eq_self, if_true, ↓reduceIte, reduceCtorEq, implies_true, not_true_eq_false, false_imp_iff, true_and, and_true, false_and, and_false, imp_self, Oid.ty.injEq, Nat.reduceEqDiff]
theorem lines_nil (p : Oid) : CallOK Tryz.prog 56 [.str []] (Oid.under p) ⟨[], .nilSl, []⟩ := by
  refine fnOK (n := 8) (rs := [.tmp 2]) Tryz.func56 rfl rfl (by decide) rfl rfl rfl ?_; rintro x rfl hrd hng
  (repeat (first | (refine K_ifT rfl rfl ?_) | (refine K_ifF rfl rfl ?_) | (refine K_ev nmd [] hng (by kernel_rfl) fun hf C S K hC1 hC hS hK => ?_; simp (disch := first | omega | assumption) only [go_sem]; refine hK ?_; clear hK hS hC hC1 K S C hf) | ((first | refine zk ?_ | refine zn ?_ | refine ze ?_); with_reducible (constructor; repeat constructor); try refine zl ?_)))
  exact K_ret (done1 rfl)
end Go.Proofs.YtiaiggbimlbkfaaGreatDoor
namespace Go.Proofs.YtiaiggbimlbkfaaGreatDoor
open Go Go.Ab
set_option maxRecDepth 20000
set_option maxHeartbeats 4000000
theorem joinN_sum (l : List Str) : (joinN l).length = (l.map fun s => s.length + 1).sum := by
  induction l with
  | nil => rfl
  | cons s l ih => simp only [joinN, List.map_cons, List.sum_cons, List.length_append, List.length_singleton, ih]
theorem joinN_perm {l l' : List Str} (h : l.Perm l') : (joinN l).length = (joinN l').length := by
  rw [joinN_sum, joinN_sum]; exact (h.map _).sum_nat
theorem joinN_sub {l l' : List Str} (h : l.Sublist l') : (joinN l).length ≤ (joinN l').length := by
  rw [joinN_sum, joinN_sum]
  induction h with
  | slnil => exact Nat.le_refl _
  | cons a _ ih => simp only [List.map_cons, List.sum_cons]; omega
  | cons_cons a _ ih => simp only [List.map_cons, List.sum_cons]; omega
theorem joinN_lines (s : Str) : (joinN (linesL s)).length ≤ s.length + 1 := by
  have key : ∀ (n : Nat) (s : Str), s.length = n → (joinN (linesL s)).length ≤ s.length + 1 := by
    intro n
    induction n using Nat.strongRecOn with
    | ind n ih =>
      intro s hn
      rcases cut_first 10 s with h1 | ⟨t, u, h1, rfl⟩
      · by_cases h0 : s = []
        · subst h0; exact Nat.zero_le _
        · rw [linesL_miss h0 h1]; simp [joinN]
      · rw [linesL_hit u h1]
        have := ih u.length (by rw [← hn]; simp; omega) u rfl
        simp only [joinN, List.length_append, List.length_cons, List.length_nil]; omega
  exact key _ s rfl
theorem linesL_ne {s : Str} (h : ¬ s = []) : ¬ linesL s = [] := by
  cases s with
  | nil => exact absurd rfl h
  | cons b s => rw [linesL]; split; · simp
                split <;> simp
def hasU (args : List Str) : Bool := args.any fun s => decide ([45, 117] = s)
def hasR (args : List Str) : Bool := args.any fun s => decide ([45, 114] = s)
def sortRow (args : List Str) (t : Str) : List Str :=
  if hasR args = true then (if hasU args = true then Lib.compact (sortS (linesL t)) else sortS (linesL t)).reverse else if hasU args = true then Lib.compact (sortS (linesL t)) else sortS (linesL t)
theorem range_get (l : List Str) : (List.range l.length).map (fun i => l.toArray[i]!) = l := by
  apply List.ext_getElem
  · simp
  · intro i h1 h2; simp [h2]
theorem compact_sub (l : List Str) : (Lib.compact l).Sublist l := by
  have h : ((List.range l.length).filter (Lib.keeps l.toArray)).Sublist (List.range l.length) := List.filter_sublist
  have h2 := h.map (fun i => l.toArray[i]!)
  rwa [range_get] at h2
theorem compact_ne {l : List Str} (h : ¬ l = []) : ¬ Lib.compact l = [] := by
  intro e
  have h1 : (List.range l.length).filter (Lib.keeps l.toArray) = [] := List.map_eq_nil_iff.1 e
  have h2 := List.filter_eq_nil_iff.1 h1 0 (List.mem_range.2 (List.length_pos_iff.2 h))
  exact h2 (Lib.keeps_lt_one _ 0 (by decide))
theorem sort_bad (args : List Str) (hn : args.length ≤ 4000000000) (t : Str) (h : args.any oddS = true) (p : Oid) :
    CallOK Tryz.prog 33 [.list 1 (args.map AV.str), .str t] (Oid.under p) ⟨[], .tuple [badR.av, .bool false], []⟩ := by
  have hZ : ∀ p, CallOK Tryz.prog 62 [.list 1 (args.map AV.str), .fn (.func 63) [] []] (Oid.under p) ⟨[], .bool true, []⟩ := fun p => by
    have := containsFunc_ok oddS _ oddS_ok args hn p; rwa [h] at this
  refine fnOK (n := 29) (rs := [.cell 4 32, .tmp 5]) Tryz.func33 rfl rfl (by decide) rfl rfl rfl ?_; rintro x rfl hrd hng
  (repeat (first | (refine K_ifT rfl rfl ?_) | (refine K_ifF rfl rfl ?_) | (refine K_ev nmd [] hng (by kernel_rfl) fun hf C S K hC1 hC hS hK => ?_; simp (disch := first | omega | assumption) only [go_sem, Res.av, badR]; (repeat ((first | refine hC1 _ (hZ _) (by simp (disch := first | omega | assumption) only [go_sem]) ?_ | refine hC1 _ (bad_x _) (by simp (disch := first | omega | assumption) only [go_sem]) ?_); simp (disch := first | omega | assumption) only [go_sem])); refine hK ?_; clear hK hS hC hC1 K S C hf) | ((first | refine zk ?_ | refine zn ?_ | refine ze ?_); with_reducible (constructor; repeat constructor); try refine zl ?_)))
  exact K_ret (done_plain (by simp (disch := first | omega | assumption) only [go_sem, Res.av, badR]))
theorem sort_ok (args : List Str) (hn : args.length ≤ 4000000000) (t : Str) (hl : t.length ≤ 4000000000) (h : args.any oddS = false) (p : Oid) :
    CallOK Tryz.prog 33 [.list 1 (args.map AV.str), .str t] (Oid.under p) ⟨[], .tuple [(toldR (joinN (sortRow args t))).av, .bool true], []⟩ := by
  have hZ : ∀ p, CallOK Tryz.prog 62 [.list 1 (args.map AV.str), .fn (.func 63) [] []] (Oid.under p) ⟨[], .bool false, []⟩ := fun p => by
    have := containsFunc_ok oddS _ oddS_ok args hn p; rwa [h] at this
  have hjl : ∀ r : List Str, r.Sublist (sortS (linesL t)) → (joinN r).length ≤ 140737488355328 := fun r hr => by
    have h1 := joinN_sub hr
    have h2 := joinN_perm (sortS_perm (linesL t))
    have h3 := joinN_lines t
    omega
  have hjr : ∀ r : List Str, r.Sublist (sortS (linesL t)) → (joinN r.reverse).length ≤ 140737488355328 := fun r hr => by
    rw [joinN_perm (List.reverse_perm r)]; exact hjl r hr
  have hcs := compact_sub (sortS (linesL t))
  have hU : ∀ p, CallOK Tryz.prog 65 [.list 1 (args.map AV.str), .str [45, 117]] (Oid.under p) ⟨[], .bool (hasU args), []⟩ := fun p => contains_ok _ args hn p
  have hR : ∀ p, CallOK Tryz.prog 65 [.list 1 (args.map AV.str), .str [45, 114]] (Oid.under p) ⟨[], .bool (hasR args), []⟩ := fun p => contains_ok _ args hn p
  have hrow : ∀ u r, hasU args = u → hasR args = r → sortRow args t = if r = true then (if u = true then Lib.compact (sortS (linesL t)) else sortS (linesL t)).reverse else if u = true then Lib.compact (sortS (linesL t)) else sortS (linesL t) := fun u r h1 h2 => by rw [sortRow, h1, h2]
  by_cases h0 : t = []
  · subst h0
    have hrw : sortRow args [] = [] := by
      have h1 : sortS (linesL []) = [] := List.eq_nil_of_length_eq_zero (by rw [sortS_length]; rfl)
      rw [sortRow, h1]; split <;> split <;> rfl
    have hJ : ∀ p, CallOK Tryz.prog 57 [.nilSl] (Oid.under p) ⟨[], .str [], []⟩ := fun p => (joined_ok [] (Nat.zero_le _) p).weak (AVles.cons (AVle.nil 1) AVles.nil)
    rw [hrw, show joinN [] = [] from rfl]
    rcases Bool.eq_false_or_eq_true (hasU args) with hu | hu <;> rcases Bool.eq_false_or_eq_true (hasR args) with hr | hr <;> rw [hu] at hU <;> rw [hr] at hR
    · refine fnOK (n := 29) (rs := [.cell 4 32, .tmp 5]) Tryz.func33 rfl rfl (by decide) rfl rfl rfl ?_; rintro x rfl hrd hng
      (repeat (first | (refine K_ifT rfl rfl ?_) | (refine K_ifF rfl rfl ?_) | (refine K_ev nmd [] hng (by kernel_rfl) fun hf C S K hC1 hC hS hK => ?_; simp (disch := first | omega | assumption) only [go_sem]; (repeat ((first | refine hC1 _ (hZ _) (by simp (disch := first | omega | assumption) only [go_sem]) ?_ | refine hC1 _ (lines_nil _) (by simp (disch := first | omega | assumption) only [go_sem]) ?_ | refine hC1 _ (sort_nil _) (by simp (disch := first | omega | assumption) only [go_sem]) ?_ | refine hC1 _ (hU _) (by simp (disch := first | omega | assumption) only [go_sem]) ?_ | refine hC1 _ (compact_nil _) (by simp (disch := first | omega | assumption) only [go_sem]) ?_ | refine hC1 _ (hR _) (by simp (disch := first | omega | assumption) only [go_sem]) ?_ | refine hC1 _ (reverse_nil _) (by simp (disch := first | omega | assumption) only [go_sem]) ?_ | refine hC1 _ (hJ _) (by simp (disch := first | omega | assumption) only [go_sem]) ?_ | refine hC1 _ (told_x [] _) (by simp (disch := first | omega | assumption) only [go_sem]) ?_); simp (disch := first | omega | assumption) only [go_sem])); refine hK ?_; clear hK hS hC hC1 K S C hf) | ((first | refine zk ?_ | refine zn ?_ | refine ze ?_); with_reducible (constructor; repeat constructor); try refine zl ?_)))
      exact K_ret (done_plain (by simp (disch := first | omega | assumption) only [go_sem, Res.av, toldR, badR, usageR]))
    · refine fnOK (n := 29) (rs := [.cell 4 32, .tmp 5]) Tryz.func33 rfl rfl (by decide) rfl rfl rfl ?_; rintro x rfl hrd hng
      (repeat (first | (refine K_ifT rfl rfl ?_) | (refine K_ifF rfl rfl ?_) | (refine K_ev nmd [] hng (by kernel_rfl) fun hf C S K hC1 hC hS hK => ?_; simp (disch := first | omega | assumption) only [go_sem]; (repeat ((first | refine hC1 _ (hZ _) (by simp (disch := first | omega | assumption) only [go_sem]) ?_ | refine hC1 _ (lines_nil _) (by simp (disch := first | omega | assumption) only [go_sem]) ?_ | refine hC1 _ (sort_nil _) (by simp (disch := first | omega | assumption) only [go_sem]) ?_ | refine hC1 _ (hU _) (by simp (disch := first | omega | assumption) only [go_sem]) ?_ | refine hC1 _ (compact_nil _) (by simp (disch := first | omega | assumption) only [go_sem]) ?_ | refine hC1 _ (hR _) (by simp (disch := first | omega | assumption) only [go_sem]) ?_ | refine hC1 _ (hJ _) (by simp (disch := first | omega | assumption) only [go_sem]) ?_ | refine hC1 _ (told_x [] _) (by simp (disch := first | omega | assumption) only [go_sem]) ?_); simp (disch := first | omega | assumption) only [go_sem])); refine hK ?_; clear hK hS hC hC1 K S C hf) | ((first | refine zk ?_ | refine zn ?_ | refine ze ?_); with_reducible (constructor; repeat constructor); try refine zl ?_)))
      exact K_ret (done_plain (by simp (disch := first | omega | assumption) only [go_sem, Res.av, toldR, badR, usageR]))
    · refine fnOK (n := 29) (rs := [.cell 4 32, .tmp 5]) Tryz.func33 rfl rfl (by decide) rfl rfl rfl ?_; rintro x rfl hrd hng
      (repeat (first | (refine K_ifT rfl rfl ?_) | (refine K_ifF rfl rfl ?_) | (refine K_ev nmd [] hng (by kernel_rfl) fun hf C S K hC1 hC hS hK => ?_; simp (disch := first | omega | assumption) only [go_sem]; (repeat ((first | refine hC1 _ (hZ _) (by simp (disch := first | omega | assumption) only [go_sem]) ?_ | refine hC1 _ (lines_nil _) (by simp (disch := first | omega | assumption) only [go_sem]) ?_ | refine hC1 _ (sort_nil _) (by simp (disch := first | omega | assumption) only [go_sem]) ?_ | refine hC1 _ (hU _) (by simp (disch := first | omega | assumption) only [go_sem]) ?_ | refine hC1 _ (hR _) (by simp (disch := first | omega | assumption) only [go_sem]) ?_ | refine hC1 _ (reverse_nil _) (by simp (disch := first | omega | assumption) only [go_sem]) ?_ | refine hC1 _ (hJ _) (by simp (disch := first | omega | assumption) only [go_sem]) ?_ | refine hC1 _ (told_x [] _) (by simp (disch := first | omega | assumption) only [go_sem]) ?_); simp (disch := first | omega | assumption) only [go_sem])); refine hK ?_; clear hK hS hC hC1 K S C hf) | ((first | refine zk ?_ | refine zn ?_ | refine ze ?_); with_reducible (constructor; repeat constructor); try refine zl ?_)))
      exact K_ret (done_plain (by simp (disch := first | omega | assumption) only [go_sem, Res.av, toldR, badR, usageR]))
    · refine fnOK (n := 29) (rs := [.cell 4 32, .tmp 5]) Tryz.func33 rfl rfl (by decide) rfl rfl rfl ?_; rintro x rfl hrd hng
      (repeat (first | (refine K_ifT rfl rfl ?_) | (refine K_ifF rfl rfl ?_) | (refine K_ev nmd [] hng (by kernel_rfl) fun hf C S K hC1 hC hS hK => ?_; simp (disch := first | omega | assumption) only [go_sem]; (repeat ((first | refine hC1 _ (hZ _) (by simp (disch := first | omega | assumption) only [go_sem]) ?_ | refine hC1 _ (lines_nil _) (by simp (disch := first | omega | assumption) only [go_sem]) ?_ | refine hC1 _ (sort_nil _) (by simp (disch := first | omega | assumption) only [go_sem]) ?_ | refine hC1 _ (hU _) (by simp (disch := first | omega | assumption) only [go_sem]) ?_ | refine hC1 _ (hR _) (by simp (disch := first | omega | assumption) only [go_sem]) ?_ | refine hC1 _ (hJ _) (by simp (disch := first | omega | assumption) only [go_sem]) ?_ | refine hC1 _ (told_x [] _) (by simp (disch := first | omega | assumption) only [go_sem]) ?_); simp (disch := first | omega | assumption) only [go_sem])); refine hK ?_; clear hK hS hC hC1 K S C hf) | ((first | refine zk ?_ | refine zn ?_ | refine ze ?_); with_reducible (constructor; repeat constructor); try refine zl ?_)))
      exact K_ret (done_plain (by simp (disch := first | omega | assumption) only [go_sem, Res.av, toldR, badR, usageR]))
  · have hne := linesL_ne h0
    have hs0 : ¬ sortS (linesL t) = [] := fun e => hne (by have := sortS_length (linesL t); rw [e] at this; exact List.eq_nil_of_length_eq_zero this.symm)
    have hll : (linesL t).length ≤ 4000000001 := by have := joinN_len (linesL t); have := joinN_lines t; omega
    have hsl := sortS_length (linesL t)
    have hcl := compact_le (sortS (linesL t))
    have hCmp := fun id p => compact_ok (sortS (linesL t)) hs0 (by omega) id p
    have hV := fun id p => reverse_ok (sortS (linesL t)) hs0 (by omega) id p
    have hCV := fun id p => reverse_ok (Lib.compact (sortS (linesL t))) (compact_ne hs0) (by omega) id p
    rw [hsl] at hCmp hV
    rcases Bool.eq_false_or_eq_true (hasU args) with hu | hu <;> rcases Bool.eq_false_or_eq_true (hasR args) with hr | hr <;> rw [hu] at hU <;> rw [hr] at hR <;> rw [hrow _ _ hu hr]
    · refine fnOK (n := 29) (rs := [.cell 4 32, .tmp 5]) Tryz.func33 rfl rfl (by decide) rfl rfl rfl ?_; rintro x rfl hrd hng
      (repeat (first | (refine K_ifT rfl rfl ?_) | (refine K_ifF rfl rfl ?_) | (refine K_ev nmd [] hng (by kernel_rfl) fun hf C S K hC1 hC hS hK => ?_; simp (disch := first | omega | assumption) only [go_sem]; (repeat ((first | refine hC1 _ (hZ _) (by simp (disch := first | omega | assumption) only [go_sem]) ?_ | refine hC1 _ (lines_sl t h0 hl _) (by simp (disch := first | omega | assumption) only [go_sem]) ?_ | refine hC1 _ (sortStr_ok (linesL t) hne (by omega) _ _) (by simp (disch := first | omega | assumption) only [go_sem]) ?_ | refine hC1 _ (hU _) (by simp (disch := first | omega | assumption) only [go_sem]) ?_ | refine hC1 _ (hCmp _ _) (by simp (disch := first | omega | assumption) only [go_sem]) ?_ | refine hC1 _ (hR _) (by simp (disch := first | omega | assumption) only [go_sem]) ?_ | refine hC1 _ (hCV _ _) (by simp (disch := first | omega | assumption) only [go_sem]) ?_); simp (disch := first | omega | assumption) only [go_sem])); refine hK ?_; clear hK hS hC hC1 K S C hf) | ((first | refine zk ?_ | refine zn ?_ | refine ze ?_); with_reducible (constructor; repeat constructor); try refine zl ?_)))
      refine K_freeze (rowL (.sub 2 1 x.p)) 1 (((Lib.compact (sortS (linesL t))).reverse).map AV.str) (by simp (disch := first | omega | assumption) only [go_sem]) ?_
      simp (disch := first | omega | assumption) only [go_sem, hsl, List.length_reverse]
      (repeat (first | (refine K_ifT rfl rfl ?_) | (refine K_ifF rfl rfl ?_) | (refine K_ev nmd [] hng (by kernel_rfl) fun hf C S K hC1 hC hS hK => ?_; simp (disch := first | omega | assumption) only [go_sem]; (repeat ((first | refine hC1 _ (joined_ok ((Lib.compact (sortS (linesL t))).reverse) (hjr _ hcs) _) (by simp (disch := first | omega | assumption) only [go_sem]) ?_ | refine hC1 _ (told_x (joinN ((Lib.compact (sortS (linesL t))).reverse)) _) (by simp (disch := first | omega | assumption) only [go_sem]) ?_); simp (disch := first | omega | assumption) only [go_sem])); refine hK ?_; clear hK hS hC hC1 K S C hf) | ((first | refine zk ?_ | refine zn ?_ | refine ze ?_); with_reducible (constructor; repeat constructor); try refine zl ?_)))
      exact K_ret (done_plain (by simp (disch := first | omega | assumption) only [go_sem, Res.av, toldR, badR, usageR]))
    · refine fnOK (n := 29) (rs := [.cell 4 32, .tmp 5]) Tryz.func33 rfl rfl (by decide) rfl rfl rfl ?_; rintro x rfl hrd hng
      (repeat (first | (refine K_ifT rfl rfl ?_) | (refine K_ifF rfl rfl ?_) | (refine K_ev nmd [] hng (by kernel_rfl) fun hf C S K hC1 hC hS hK => ?_; simp (disch := first | omega | assumption) only [go_sem]; (repeat ((first | refine hC1 _ (hZ _) (by simp (disch := first | omega | assumption) only [go_sem]) ?_ | refine hC1 _ (lines_sl t h0 hl _) (by simp (disch := first | omega | assumption) only [go_sem]) ?_ | refine hC1 _ (sortStr_ok (linesL t) hne (by omega) _ _) (by simp (disch := first | omega | assumption) only [go_sem]) ?_ | refine hC1 _ (hU _) (by simp (disch := first | omega | assumption) only [go_sem]) ?_ | refine hC1 _ (hCmp _ _) (by simp (disch := first | omega | assumption) only [go_sem]) ?_ | refine hC1 _ (hR _) (by simp (disch := first | omega | assumption) only [go_sem]) ?_); simp (disch := first | omega | assumption) only [go_sem])); refine hK ?_; clear hK hS hC hC1 K S C hf) | ((first | refine zk ?_ | refine zn ?_ | refine ze ?_); with_reducible (constructor; repeat constructor); try refine zl ?_)))
      refine K_freeze (rowL (.sub 2 1 x.p)) 1 ((Lib.compact (sortS (linesL t))).map AV.str) (by simp (disch := first | omega | assumption) only [go_sem]) ?_
      simp (disch := first | omega | assumption) only [go_sem, hsl, List.length_reverse]
      (repeat (first | (refine K_ifT rfl rfl ?_) | (refine K_ifF rfl rfl ?_) | (refine K_ev nmd [] hng (by kernel_rfl) fun hf C S K hC1 hC hS hK => ?_; simp (disch := first | omega | assumption) only [go_sem]; (repeat ((first | refine hC1 _ (joined_ok (Lib.compact (sortS (linesL t))) (hjl _ hcs) _) (by simp (disch := first | omega | assumption) only [go_sem]) ?_ | refine hC1 _ (told_x (joinN (Lib.compact (sortS (linesL t)))) _) (by simp (disch := first | omega | assumption) only [go_sem]) ?_); simp (disch := first | omega | assumption) only [go_sem])); refine hK ?_; clear hK hS hC hC1 K S C hf) | ((first | refine zk ?_ | refine zn ?_ | refine ze ?_); with_reducible (constructor; repeat constructor); try refine zl ?_)))
      exact K_ret (done_plain (by simp (disch := first | omega | assumption) only [go_sem, Res.av, toldR, badR, usageR]))
    · refine fnOK (n := 29) (rs := [.cell 4 32, .tmp 5]) Tryz.func33 rfl rfl (by decide) rfl rfl rfl ?_; rintro x rfl hrd hng
      (repeat (first | (refine K_ifT rfl rfl ?_) | (refine K_ifF rfl rfl ?_) | (refine K_ev nmd [] hng (by kernel_rfl) fun hf C S K hC1 hC hS hK => ?_; simp (disch := first | omega | assumption) only [go_sem]; (repeat ((first | refine hC1 _ (hZ _) (by simp (disch := first | omega | assumption) only [go_sem]) ?_ | refine hC1 _ (lines_sl t h0 hl _) (by simp (disch := first | omega | assumption) only [go_sem]) ?_ | refine hC1 _ (sortStr_ok (linesL t) hne (by omega) _ _) (by simp (disch := first | omega | assumption) only [go_sem]) ?_ | refine hC1 _ (hU _) (by simp (disch := first | omega | assumption) only [go_sem]) ?_ | refine hC1 _ (hR _) (by simp (disch := first | omega | assumption) only [go_sem]) ?_ | refine hC1 _ (hV _ _) (by simp (disch := first | omega | assumption) only [go_sem]) ?_); simp (disch := first | omega | assumption) only [go_sem])); refine hK ?_; clear hK hS hC hC1 K S C hf) | ((first | refine zk ?_ | refine zn ?_ | refine ze ?_); with_reducible (constructor; repeat constructor); try refine zl ?_)))
      refine K_freeze (rowL (.sub 2 1 x.p)) 1 (((sortS (linesL t)).reverse).map AV.str) (by simp (disch := first | omega | assumption) only [go_sem]) ?_
      simp (disch := first | omega | assumption) only [go_sem, hsl, List.length_reverse]
      (repeat (first | (refine K_ifT rfl rfl ?_) | (refine K_ifF rfl rfl ?_) | (refine K_ev nmd [] hng (by kernel_rfl) fun hf C S K hC1 hC hS hK => ?_; simp (disch := first | omega | assumption) only [go_sem]; (repeat ((first | refine hC1 _ (joined_ok ((sortS (linesL t)).reverse) (hjr _ (List.Sublist.refl _)) _) (by simp (disch := first | omega | assumption) only [go_sem]) ?_ | refine hC1 _ (told_x (joinN ((sortS (linesL t)).reverse)) _) (by simp (disch := first | omega | assumption) only [go_sem]) ?_); simp (disch := first | omega | assumption) only [go_sem])); refine hK ?_; clear hK hS hC hC1 K S C hf) | ((first | refine zk ?_ | refine zn ?_ | refine ze ?_); with_reducible (constructor; repeat constructor); try refine zl ?_)))
      exact K_ret (done_plain (by simp (disch := first | omega | assumption) only [go_sem, Res.av, toldR, badR, usageR]))
    · refine fnOK (n := 29) (rs := [.cell 4 32, .tmp 5]) Tryz.func33 rfl rfl (by decide) rfl rfl rfl ?_; rintro x rfl hrd hng
      (repeat (first | (refine K_ifT rfl rfl ?_) | (refine K_ifF rfl rfl ?_) | (refine K_ev nmd [] hng (by kernel_rfl) fun hf C S K hC1 hC hS hK => ?_; simp (disch := first | omega | assumption) only [go_sem]; (repeat ((first | refine hC1 _ (hZ _) (by simp (disch := first | omega | assumption) only [go_sem]) ?_ | refine hC1 _ (lines_sl t h0 hl _) (by simp (disch := first | omega | assumption) only [go_sem]) ?_ | refine hC1 _ (sortStr_ok (linesL t) hne (by omega) _ _) (by simp (disch := first | omega | assumption) only [go_sem]) ?_ | refine hC1 _ (hU _) (by simp (disch := first | omega | assumption) only [go_sem]) ?_ | refine hC1 _ (hR _) (by simp (disch := first | omega | assumption) only [go_sem]) ?_); simp (disch := first | omega | assumption) only [go_sem])); refine hK ?_; clear hK hS hC hC1 K S C hf) | ((first | refine zk ?_ | refine zn ?_ | refine ze ?_); with_reducible (constructor; repeat constructor); try refine zl ?_)))
      refine K_freeze (rowL (.sub 2 1 x.p)) 1 ((sortS (linesL t)).map AV.str) (by simp (disch := first | omega | assumption) only [go_sem]) ?_
      simp (disch := first | omega | assumption) only [go_sem, hsl, List.length_reverse]
      (repeat (first | (refine K_ifT rfl rfl ?_) | (refine K_ifF rfl rfl ?_) | (refine K_ev nmd [] hng (by kernel_rfl) fun hf C S K hC1 hC hS hK => ?_; simp (disch := first | omega | assumption) only [go_sem]; (repeat ((first | refine hC1 _ (joined_ok (sortS (linesL t)) (hjl _ (List.Sublist.refl _)) _) (by simp (disch := first | omega | assumption) only [go_sem]) ?_ | refine hC1 _ (told_x (joinN (sortS (linesL t))) _) (by simp (disch := first | omega | assumption) only [go_sem]) ?_); simp (disch := first | omega | assumption) only [go_sem])); refine hK ?_; clear hK hS hC hC1 K S C hf) | ((first | refine zk ?_ | refine zn ?_ | refine ze ?_); with_reducible (constructor; repeat constructor); try refine zl ?_)))
      exact K_ret (done_plain (by simp (disch := first | omega | assumption) only [go_sem, Res.av, toldR, badR, usageR]))
end Go.Proofs.YtiaiggbimlbkfaaGreatDoor
namespace Go.Proofs.YtiaiggbimlbkfaaGreatDoor
open Go Go.Ab
set_option maxRecDepth 20000
set_option maxHeartbeats 4000000
def condR (r : Str) : Prop := 2 < r.length ∧ (r.getD 1 0).toNat = 45 ∧ (r.getD 0 0).toNat ≤ (r.getD 2 0).toNat
instance (r : Str) : Decidable (condR r) := by unfold condR; infer_instance
def rng (a n : Nat) : Str := (List.range n).map fun k => UInt8.ofNat (a + k)
/-- The bytes of a set; k: fuel. -/
def setF : Nat → Str → Str
  | 0, _ => []
  | k + 1, r => if r = [] then [] else if condR r then rng (r.getD 0 0).toNat ((r.getD 2 0).toNat + 1 - (r.getD 0 0).toNat) ++ setF k (r.drop 3) else r.getD 0 0 :: setF k (r.drop 1)
theorem setF_more : ∀ (k : Nat) (r : Str), r.length ≤ k → setF (k + 1) r = setF k r
  | 0, r, h => by
    have : r = [] := List.eq_nil_of_length_eq_zero (by omega)
    subst this; rfl
  | k + 1, r, h => by
    show (if r = [] then [] else if condR r then _ ++ setF (k + 1) (r.drop 3) else _ :: setF (k + 1) (r.drop 1)) = (if r = [] then [] else if condR r then _ ++ setF k (r.drop 3) else _ :: setF k (r.drop 1))
    by_cases h0 : r = []
    · rw [if_pos h0, if_pos h0]
    · have := List.length_pos_iff.2 h0
      rw [if_neg h0, if_neg h0, setF_more k (r.drop 3) (by rw [List.length_drop]; omega), setF_more k (r.drop 1) (by rw [List.length_drop]; omega)]
theorem setF_fuel (r : Str) : ∀ k, r.length ≤ k → setF k r = setF r.length r := by
  intro k hk
  obtain ⟨d, rfl⟩ := Nat.exists_eq_add_of_le hk
  induction d with
  | zero => rfl
  | succ d ih => rw [← Nat.add_assoc, setF_more _ _ (by omega), ih (by omega)]
def setP (r : Str) : Str := setF r.length r
theorem setP_nil : setP [] = [] := rfl
theorem setP_rng {r : Str} (h : condR r) : setP r = rng (r.getD 0 0).toNat ((r.getD 2 0).toNat + 1 - (r.getD 0 0).toNat) ++ setP (r.drop 3) := by
  have hl := h.1
  obtain ⟨k, hk⟩ : ∃ k, r.length = k + 1 := ⟨r.length - 1, by omega⟩
  have h0 : ¬ r = [] := fun e => by subst e; simp at hl
  unfold setP
  rw [hk, setF, if_neg h0, if_pos h, setF_fuel (r.drop 3) k (by rw [List.length_drop]; omega)]
theorem setP_one {r : Str} (h0 : ¬ r = []) (h : ¬ condR r) : setP r = r.getD 0 0 :: setP (r.drop 1) := by
  have := List.length_pos_iff.2 h0
  obtain ⟨k, hk⟩ : ∃ k, r.length = k + 1 := ⟨r.length - 1, by omega⟩
  unfold setP
  rw [hk, setF, if_neg h0, if_neg h, setF_fuel (r.drop 1) k (by rw [List.length_drop]; omega)]
theorem rng_snoc (a k : Nat) : rng a (k + 1) = rng a k ++ [UInt8.ofNat (a + k)] := by
  simp [rng, List.range_succ]
theorem rng_len (a k : Nat) : (rng a k).length = k := by simp [rng]
theorem setF_len : ∀ (k : Nat) (r : Str), (setF k r).length ≤ 256 * r.length
  | 0, r => by simp [setF]
  | k + 1, r => by
    rw [setF]
    split
    · simp
    · rename_i h0
      have := List.length_pos_iff.2 h0
      split
      · rename_i hc
        have h1 := setF_len k (r.drop 3)
        have h2 := (r.getD 2 0).toNat_lt
        have := hc.1
        rw [List.length_drop] at h1
        rw [List.length_append, rng_len]; omega
      · have h1 := setF_len k (r.drop 1)
        rw [List.length_drop] at h1
        rw [List.length_cons]; omega
theorem setP_len (r : Str) : (setP r).length ≤ 256 * r.length := setF_len _ r
theorem set_ok (s : Str) (hl : s.length ≤ 4000000) (p : Oid) : CallOK Tryz.prog 73 [.str s] (Oid.under p) ⟨[], .list 1 ((setP s).map byA), []⟩ := by
  have hsl := setP_len s
  refine fnOK (n := 46) (rs := [.tmp 2]) Tryz.func73 rfl rfl (by decide) rfl rfl rfl ?_; rintro x rfl hrd hng
  (repeat (first | (refine K_ifT rfl rfl ?_) | (refine K_ifF rfl rfl ?_) | (refine K_ev nmd [] hng (by kernel_rfl) fun hf C S K hC1 hC hS hK => ?_; simp (disch := first | omega | assumption) only [go_sem]; refine hK ?_; clear hK hS hC hC1 K S C hf) | ((first | refine zk ?_ | refine zn ?_ | refine ze ?_); with_reducible (constructor; repeat constructor); try refine zl ?_)))
  refine K_void 2 1 rfl ?_
  simp (disch := first | omega | assumption) only [go_sem]
  refine K_loop [0, 2] (fun k s' => ∃ (r done : Str) (d j c : Nat), k = r.length ∧ r.length ≤ s.length ∧ d < c ∧ setP s = done ++ setP r ∧
      s' = ⟨[(0, .str r), (2, .sl (.sub d j x.p) 1 done.length)], Mem.of [(.sub d j x.p, .arr 1 (done.map byA))], c, []⟩) _ ⟨s, [], 1, 0, 2, rfl, Nat.le_refl _, by omega, rfl, rfl⟩ ?_
  rintro k s' ⟨r, done, d, j, c, rfl, hr, hdc, hset, rfl⟩
  have hdl : done.length ≤ 1024000000 := by have := congrArg List.length hset; rw [List.length_append] at this; omega
  (repeat (first | (refine K_ifT rfl rfl ?_) | (refine K_ifF rfl rfl ?_) | (refine K_ev nmd [] hng (by kernel_rfl) fun hf C S K hC1 hC hS hK => ?_; simp (disch := first | omega | assumption) only [go_sem]; refine hK ?_; clear hK hS hC hC1 K S C hf) | ((first | refine zk ?_ | refine zn ?_ | refine ze ?_); with_reducible (constructor; repeat constructor); try refine zl ?_)))
  refine K_if rfl rfl (fun hb => ?_) (fun hb => ?_)
  · have h0 : ¬ r = [] := by simpa using hb
    have hpos := List.length_pos_iff.2 h0
    (try ((first | refine zk ?_ | refine zn ?_ | refine ze ?_); with_reducible (constructor; repeat constructor)); try refine zl ?_)
    refine K_cut [0, 2, 20] (fun s' => ∃ b : Bool, s' = ⟨[(0, .str r), (2, .sl (.sub d j x.p) 1 done.length), (20, .bool b)], Mem.of [(.sub d j x.p, .arr 1 (done.map byA))], c + 1 + 1, []⟩ ∧ (b = true ↔ condR r)) ?_ ?_
    · refine K_evd nmd [(3, 9), (8, 14)] [] mixed hng (by kernel_rfl) [0, 2, 20] fun hf C S K hC hS hK => ?_; simp (disch := first | omega | assumption) only [go_sem]
      (repeat' (first | (refine evG_split (fun hv => ?_) (fun hv => ?_) <;> (try simp only [zb1, zb2, zb3, zb4, zb5] at hv) <;> simp (disch := first | omega | assumption) only [go_sem, hv, Int.reduceEq, Int.reduceNe, ne_eq, not_true_eq_false, not_false_eq_true, decide_true, decide_false]) | ((first | refine hK (dynN_quiet rfl) ?_ | refine hK (by simp (disch := first | omega | assumption) only [go_sem, List.reverse_cons, List.reverse_nil, ne_eq, not_false_eq_true, implies_true]) ?_); clear hK hS hC K S C hf)))
      · refine K_cutN ⟨_, rfl, ?_⟩
        simp only [decide_eq_true_eq, condR]; omega
      · exact K_cutN ⟨_, rfl, by simp only [condR, Bool.false_eq_true, false_iff]; omega⟩
      · exact K_cutN ⟨_, rfl, by simp only [condR, Bool.false_eq_true, false_iff]; omega⟩
    rintro s' ⟨b, rfl, hiff⟩
    refine K_if rfl rfl (fun hb => ?_) (fun hb => ?_)
    · have hc := hiff.1 hb
      rw [setP_rng hc] at hset
      have h1 := (r.getD 0 0).toNat_lt
      have h2 := (r.getD 2 0).toNat_lt
      have hrl := hc.1
      have hac := hc.2.2
      generalize hA : (r.getD 0 0).toNat = a at hset h1 hac
      generalize hB : (r.getD 2 0).toNat = b2 at hset h2 hac
      (repeat (first | (refine K_ifT rfl rfl ?_) | (refine K_ifF rfl rfl ?_) | (refine K_ev nmd [] hng (by kernel_rfl) fun hf C S K hC1 hC hS hK => ?_; simp (disch := first | omega | assumption) only [go_sem, hA]; (repeat ((first | refine hC1 _ () (by simp (disch := first | omega | assumption) only [go_sem]) ?_); simp (disch := first | omega | assumption) only [go_sem])); refine hK ?_; clear hK hS hC hC1 K S C hf) | ((first | refine zk ?_ | refine zn ?_ | refine ze ?_); with_reducible (constructor; repeat constructor); try refine zl ?_)))
      refine K_loop [0, 2, 3] (fun k s' => ∃ (q d j c : Nat) (dn : Str), k = b2 + 1 - a - q ∧ q ≤ b2 + 1 - a ∧ d < c ∧ dn = done ++ rng a q ∧
          s' = ⟨[(0, .str r), (2, .sl (.sub d j x.p) 1 dn.length), (3, .int .i64 ((a + q : Nat) : Int))], Mem.of [(.sub d j x.p, .arr 1 (dn.map byA))], c, []⟩) _ ⟨0, d, j, c + 1 + 1 + 1, done, rfl, Nat.zero_le _, by omega, by simp [rng], rfl⟩ ?_
      rintro k s' ⟨q, d, j, c, dn, rfl, hq, hdc, hdn, rfl⟩
      have hql : dn.length ≤ 1024000300 := by rw [hdn, List.length_append, rng_len]; omega
      (repeat (first | (refine K_ifT rfl rfl ?_) | (refine K_ifF rfl rfl ?_) | (refine K_ev nmd [] hng (by kernel_rfl) fun hf C S K hC1 hC hS hK => ?_; simp (disch := first | omega | assumption) only [go_sem, hB]; (repeat ((first | refine hC1 _ () (by simp (disch := first | omega | assumption) only [go_sem]) ?_); simp (disch := first | omega | assumption) only [go_sem])); refine hK ?_; clear hK hS hC hC1 K S C hf) | ((first | refine zk ?_ | refine zn ?_ | refine ze ?_); with_reducible (constructor; repeat constructor); try refine zl ?_)))
      refine K_ifd rfl rfl (fun hb => ?_) (fun hb => ?_)
      · have hw : IntKind.u8.wrap ((a + q : Nat) : Int) = ((UInt8.ofNat (a + q)).toNat : Int) := by
          rw [w8 (by omega) (by omega), UInt8.toNat_ofNat']; omega
        (repeat (first | (refine K_ifT rfl rfl ?_) | (refine K_ifF rfl rfl ?_) | (refine K_ev nmd [] hng (by kernel_rfl) fun hf C S K hC1 hC hS hK => ?_; simp (disch := first | omega | assumption) only [go_sem, hw]; (repeat ((first | refine hC1 _ () (by simp (disch := first | omega | assumption) only [go_sem]) ?_); simp (disch := first | omega | assumption) only [go_sem])); refine hK ?_; clear hK hS hC hC1 K S C hf) | ((first | refine zk ?_ | refine zn ?_ | refine ze ?_); with_reducible (constructor; repeat constructor); try refine zl ?_)))
        refine ⟨_, _, ?_, fun _ _ h => h, q + 1, c + 1, 4, c + 1 + 1 + 1, dn ++ [UInt8.ofNat (a + q)], rfl, by omega, by omega, ?_, ?_⟩
        · omega
        · rw [rng_snoc, ← List.append_assoc, hdn]
        · rw [List.map_append, List.length_append]; rfl
      · have hqe : q = b2 + 1 - a := by omega
        subst hqe
        have h3 : setP s = dn ++ setP (r.drop 3) := by rw [hset, hdn, List.append_assoc]
        have hrd : (r.drop 3).length < r.length := by rw [List.length_drop]; omega
        (repeat (first | (refine K_ifT rfl rfl ?_) | (refine K_ifF rfl rfl ?_) | (refine K_ev nmd [] hng (by kernel_rfl) fun hf C S K hC1 hC hS hK => ?_; simp (disch := first | omega | assumption) only [go_sem]; refine hK ?_; clear hK hS hC hC1 K S C hf) | ((first | refine zk ?_ | refine zn ?_ | refine ze ?_); with_reducible (constructor; repeat constructor); try refine zl ?_)))
        exact ⟨_, _, by omega, fun _ _ h => h, r.drop 3, dn, d, j, _, rfl, by omega, by omega, h3, rfl⟩
    · have hc : ¬ condR r := fun h => by rw [hiff.2 h] at hb; cases hb
      rw [setP_one h0 hc] at hset
      have hrd : (r.drop 1).length < r.length := by rw [List.length_drop]; omega
      (repeat (first | (refine K_ifT rfl rfl ?_) | (refine K_ifF rfl rfl ?_) | (refine K_ev nmd [] hng (by kernel_rfl) fun hf C S K hC1 hC hS hK => ?_; simp (disch := first | omega | assumption) only [go_sem]; refine hK ?_; clear hK hS hC hC1 K S C hf) | ((first | refine zk ?_ | refine zn ?_ | refine ze ?_); with_reducible (constructor; repeat constructor); try refine zl ?_)))
      refine ⟨_, _, ?_, fun _ _ h => h, r.drop 1, done ++ [r.getD 0 0], c + 1 + 1, 4, c + 1 + 1 + 1 + 1, rfl, by omega, by omega, ?_, ?_⟩
      · omega
      · rw [hset]; simp
      · rw [List.map_append, List.length_append]; rfl
  · have h0 : r = [] := by simpa using hb
    subst h0
    rw [setP_nil, List.append_nil] at hset
    (repeat (first | (refine K_ifT rfl rfl ?_) | (refine K_ifF rfl rfl ?_) | (refine K_ev nmd [] hng (by kernel_rfl) fun hf C S K hC1 hC hS hK => ?_; simp (disch := first | omega | assumption) only [go_sem]; refine hK ?_; clear hK hS hC hC1 K S C hf) | ((first | refine zk ?_ | refine zn ?_ | refine ze ?_); with_reducible (constructor; repeat constructor); try refine zl ?_)))
    exact K_retl (xs := done.map byA) rfl (by simp (disch := first | omega | assumption) only [go_sem]) (List.length_map _).symm (by rw [hset])
end Go.Proofs.YtiaiggbimlbkfaaGreatDoor
namespace Go.Proofs.YtiaiggbimlbkfaaGreatDoor
open Go Go.Ab
set_option maxRecDepth 20000
set_option maxHeartbeats 4000000
theorem getD_drop (s : Str) (i k : Nat) : (s.drop i).getD k 0 = s.getD (i + k) 0 := by
  simp [List.getD_eq_getElem?_getD, List.getElem?_drop]
theorem rng_cons (a n : Nat) : rng a (n + 1) = UInt8.ofNat a :: rng (a + 1) n := by
  simp only [rng, List.range_succ_eq_map, List.map_cons, List.map_map, Nat.add_zero]
  congr 1
  apply List.map_congr_left
  intro k _
  simp only [Function.comp]
  congr 1; omega
theorem slice_one {s : Str} {i : Nat} (h : i < s.length) : (s.take (i + 1)).drop i = [s.getD i 0] := by
  rw [List.take_add_one, List.drop_append_of_le_length (by rw [List.length_take]; omega), List.drop_of_length_le (by rw [List.length_take]; omega), List.getElem?_eq_getElem h]
  rw [List.getD_eq_getElem?_getD, List.getElem?_eq_getElem h]; rfl
theorem ofNat_toNat (b : UInt8) : UInt8.ofNat b.toNat = b := by simp
theorem setR_ok (s : Str) (hl : s.length ≤ 4000000) (p : Oid) : CallOK Tryz.prog 83 [.str s] (Oid.under p) ⟨[], .str (setP s), []⟩ := by
  have hsl := setP_len s
  refine fnOK (n := 64) (rs := [.tmp 2]) Tryz.func83 rfl rfl (by decide) rfl rfl rfl ?_; rintro x rfl hrd hng
  (repeat (first | (refine K_ifT rfl rfl ?_) | (refine K_ifF rfl rfl ?_) | (refine K_ev nmd [] hng (by kernel_rfl) fun hf C S K hC1 hC hS hK => ?_; simp (disch := first | omega | assumption) only [go_sem]; refine hK ?_; clear hK hS hC hC1 K S C hf) | ((first | refine zk ?_ | refine zn ?_ | refine ze ?_); with_reducible (constructor; repeat constructor); try refine zl ?_)))
  refine K_loop [0, 3, 4] (fun k s' => ∃ (i c : Nat) (out : Str), k = s.length - i ∧ i ≤ s.length ∧ setP s = out ++ setP (s.drop i) ∧
      s' = ⟨[(0, .str s), (3, .str out), (4, .int .i64 i)], Mem.of [], c, []⟩) _ ⟨0, _, [], rfl, Nat.zero_le _, rfl, rfl⟩ ?_
  rintro k s' ⟨i, c, out, rfl, hi, hset, rfl⟩
  have hdl : out.length ≤ 1024000000 := by have := congrArg List.length hset; rw [List.length_append] at this; omega
  (repeat (first | (refine K_ifT rfl rfl ?_) | (refine K_ifF rfl rfl ?_) | (refine K_ev nmd [] hng (by kernel_rfl) fun hf C S K hC1 hC hS hK => ?_; simp (disch := first | omega | assumption) only [go_sem]; refine hK ?_; clear hK hS hC hC1 K S C hf) | ((first | refine zk ?_ | refine zn ?_ | refine ze ?_); with_reducible (constructor; repeat constructor); try refine zl ?_)))
  refine K_ifd rfl rfl (fun hb => ?_) (fun hb => ?_)
  · have hlt : i < s.length := by omega
    have hone := slice_one hlt
    have h0 : ¬ s.drop i = [] := fun e => by have := congrArg List.length e; rw [List.length_drop] at this; simp only [List.length_nil] at this; omega
    have hcx : condR (s.drop i) ↔ (i + 2 < s.length ∧ (s.getD (i + 1) 0).toNat = 45 ∧ (s.getD i 0).toNat ≤ (s.getD (i + 2) 0).toNat) := by
      simp only [condR, getD_drop, List.length_drop, Nat.add_zero]; omega
    have hi1 : ((i : Int) + 1).toNat = i + 1 := by omega
    have hi2 : ((i : Int) + 2).toNat = i + 2 := by omega
    (repeat (first | (refine K_ifT rfl rfl ?_) | (refine K_ifF rfl rfl ?_) | (refine K_ev nmd [] hng (by kernel_rfl) fun hf C S K hC1 hC hS hK => ?_; simp (disch := first | omega | assumption) only [go_sem, hi1, hone]; (repeat ((first | refine hC1 _ () (by simp (disch := first | omega | assumption) only [go_sem]) ?_); simp (disch := first | omega | assumption) only [go_sem])); refine hK ?_; clear hK hS hC hC1 K S C hf) | ((first | refine zk ?_ | refine zn ?_ | refine ze ?_); with_reducible (constructor; repeat constructor); try refine zl ?_)))
    refine K_cut [0, 3, 4, 40] (fun s' => ∃ b : Bool, s' = ⟨[(0, .str s), (3, .str (out ++ [s.getD i 0])), (4, .int .i64 i), (40, .bool b)], Mem.of [], c + 1 + 1 + 1, []⟩ ∧ (b = true ↔ condR (s.drop i))) ?_ ?_
    · refine K_evd nmd [(5, 24), (12, 31)] [] mixed hng (by kernel_rfl) [0, 3, 4, 40] fun hf C S K hC hS hK => ?_; simp (disch := first | omega | assumption) only [go_sem, hi1, hi2]
      (repeat' (first | (refine evG_split (fun hv => ?_) (fun hv => ?_) <;> (try simp only [zb1, zb2, zb3, zb4, zb5] at hv) <;> simp (disch := first | omega | assumption) only [go_sem, hv, hi1, hi2, Int.reduceEq, Int.reduceNe, ne_eq, not_true_eq_false, not_false_eq_true, decide_true, decide_false]) | ((first | refine hK (dynN_quiet rfl) ?_ | refine hK (by simp (disch := first | omega | assumption) only [go_sem, List.reverse_cons, List.reverse_nil, ne_eq, not_false_eq_true, implies_true]) ?_); clear hK hS hC K S C hf)))
      · refine K_cutN ⟨_, rfl, ?_⟩
        rw [hcx]; simp only [decide_eq_true_eq]; omega
      · exact K_cutN ⟨_, rfl, by rw [hcx]; simp only [Bool.false_eq_true, false_iff]; omega⟩
      · exact K_cutN ⟨_, rfl, by rw [hcx]; simp only [Bool.false_eq_true, false_iff]; omega⟩
    rintro s' ⟨b, rfl, hiff⟩
    refine K_if rfl rfl (fun hb => ?_) (fun hb => ?_)
    · have hc := hiff.1 hb
      have hd3 : (s.drop i).drop 3 = s.drop (i + 2 + 1) := by rw [List.drop_drop]
      rw [setP_rng hc, getD_drop, getD_drop, Nat.add_zero, hd3] at hset
      obtain ⟨h5, h6, hac⟩ := hcx.1 hc
      have h1 := (s.getD i 0).toNat_lt
      have h2 := (s.getD (i + 2) 0).toNat_lt
      generalize hA : (s.getD i 0).toNat = a at hset h1 hac
      generalize hB : (s.getD (i + 2) 0).toNat = b2 at hset h2 hac
      have hfst : [s.getD i 0] = rng a 1 := by rw [rng_cons, ← hA, ofNat_toNat]; rfl
      rw [hfst]
      generalize ho : out ++ rng a 1 = dn0
      (repeat (first | (refine K_ifT rfl rfl ?_) | (refine K_ifF rfl rfl ?_) | (refine K_ev nmd [] hng (by kernel_rfl) fun hf C S K hC1 hC hS hK => ?_; simp (disch := first | omega | assumption) only [go_sem, hA]; (repeat ((first | refine hC1 _ () (by simp (disch := first | omega | assumption) only [go_sem]) ?_); simp (disch := first | omega | assumption) only [go_sem])); refine hK ?_; clear hK hS hC hC1 K S C hf) | ((first | refine zk ?_ | refine zn ?_ | refine ze ?_); with_reducible (constructor; repeat constructor); try refine zl ?_)))
      refine K_loop [0, 3, 4, 5] (fun k s' => ∃ (q c : Nat) (dn : Str), k = b2 + 1 - a - q ∧ 1 ≤ q ∧ q ≤ b2 + 1 - a ∧ dn = out ++ rng a q ∧
          s' = ⟨[(0, .str s), (3, .str dn), (4, .int .i64 i), (5, .int .i64 ((a + q : Nat) : Int))], Mem.of [], c, []⟩) _ ⟨1, c + 1 + 1 + 1 + 1, dn0, rfl, Nat.le_refl _, by omega, ho.symm, rfl⟩ ?_
      rintro k s' ⟨q, c, dn, rfl, hq1, hq, hdn, rfl⟩
      have hql : dn.length ≤ 1024000300 := by rw [hdn, List.length_append, rng_len]; omega
      (repeat (first | (refine K_ifT rfl rfl ?_) | (refine K_ifF rfl rfl ?_) | (refine K_ev nmd [] hng (by kernel_rfl) fun hf C S K hC1 hC hS hK => ?_; simp (disch := first | omega | assumption) only [go_sem, hi2, hB]; (repeat ((first | refine hC1 _ () (by simp (disch := first | omega | assumption) only [go_sem]) ?_); simp (disch := first | omega | assumption) only [go_sem])); refine hK ?_; clear hK hS hC hC1 K S C hf) | ((first | refine zk ?_ | refine zn ?_ | refine ze ?_); with_reducible (constructor; repeat constructor); try refine zl ?_)))
      refine K_ifd rfl rfl (fun hb => ?_) (fun hb => ?_)
      · have hw : IntKind.u8.wrap ((a + q : Nat) : Int) = ((UInt8.ofNat (a + q)).toNat : Int) := by
          rw [w8 (by omega) (by omega), UInt8.toNat_ofNat']; omega
        (repeat (first | (refine K_ifT rfl rfl ?_) | (refine K_ifF rfl rfl ?_) | (refine K_ev nmd [] hng (by kernel_rfl) fun hf C S K hC1 hC hS hK => ?_; simp (disch := first | omega | assumption) only [go_sem, hw]; (repeat ((first | refine hC1 _ () (by simp (disch := first | omega | assumption) only [go_sem]) ?_); simp (disch := first | omega | assumption) only [go_sem])); refine hK ?_; clear hK hS hC hC1 K S C hf) | ((first | refine zk ?_ | refine zn ?_ | refine ze ?_); with_reducible (constructor; repeat constructor); try refine zl ?_)))
        refine K_ev nmd [] hng (by kernel_rfl) fun hf C S K hC1 hC hS hK => ?_; simp (disch := first | omega | assumption) only [go_sem, hw, byteOK_int, gd_T]
        refine hK ?_; clear hK hS hC hC1 K S C hf
        (repeat (first | (refine K_ifT rfl rfl ?_) | (refine K_ifF rfl rfl ?_) | (refine K_ev nmd [] hng (by kernel_rfl) fun hf C S K hC1 hC hS hK => ?_; simp (disch := first | omega | assumption) only [go_sem]; refine hK ?_; clear hK hS hC hC1 K S C hf) | ((first | refine zk ?_ | refine zn ?_ | refine ze ?_); with_reducible (constructor; repeat constructor); try refine zl ?_)))
        refine ⟨_, _, ?_, fun _ _ h => h, q + 1, _, dn ++ [UInt8.ofNat (a + q)], rfl, by omega, by omega, ?_, rfl⟩
        · omega
        · rw [rng_snoc, ← List.append_assoc, hdn]
      · have hqe : q = b2 + 1 - a := by omega
        subst hqe
        have h3 : setP s = dn ++ setP (s.drop (i + 2 + 1)) := by rw [hset, hdn, List.append_assoc]
        (repeat (first | (refine K_ifT rfl rfl ?_) | (refine K_ifF rfl rfl ?_) | (refine K_ev nmd [] hng (by kernel_rfl) fun hf C S K hC1 hC hS hK => ?_; simp (disch := first | omega | assumption) only [go_sem]; refine hK ?_; clear hK hS hC hC1 K S C hf) | ((first | refine zk ?_ | refine zn ?_ | refine ze ?_); with_reducible (constructor; repeat constructor); try refine zl ?_)))
        exact ⟨_, _, by omega, fun _ _ h => h, i + 2 + 1, _, dn, rfl, by omega, h3, rfl⟩
    · have hc : ¬ condR (s.drop i) := fun h => by rw [hiff.2 h] at hb; cases hb
      rw [setP_one h0 hc, getD_drop, Nat.add_zero, List.drop_drop] at hset
      (repeat (first | (refine K_ifT rfl rfl ?_) | (refine K_ifF rfl rfl ?_) | (refine K_ev nmd [] hng (by kernel_rfl) fun hf C S K hC1 hC hS hK => ?_; simp (disch := first | omega | assumption) only [go_sem]; refine hK ?_; clear hK hS hC hC1 K S C hf) | ((first | refine zk ?_ | refine zn ?_ | refine ze ?_); with_reducible (constructor; repeat constructor); try refine zl ?_)))
      refine ⟨_, _, ?_, fun _ _ h => h, i + 1, _, out ++ [s.getD i 0], rfl, by omega, ?_, rfl⟩
      · omega
      · rw [hset]; simp
  · obtain rfl : i = s.length := by omega
    rw [List.drop_length, setP_nil, List.append_nil] at hset
    (repeat (first | (refine K_ifT rfl rfl ?_) | (refine K_ifF rfl rfl ?_) | (refine K_ev nmd [] hng (by kernel_rfl) fun hf C S K hC1 hC hS hK => ?_; simp (disch := first | omega | assumption) only [go_sem]; refine hK ?_; clear hK hS hC hC1 K S C hf) | ((first | refine zk ?_ | refine zn ?_ | refine ze ?_); with_reducible (constructor; repeat constructor); try refine zl ?_)))
    exact K_ret (done1 (by rw [hset]; rfl))
/-- The last place of a byte among the first k; -1: it is not there. -/
def lastK (l : Str) (b : UInt8) : Nat → Int
  | 0 => -1
  | k + 1 => if l.getD k 0 = b then k else lastK l b k
theorem lastK_le (l : Str) (b : UInt8) : ∀ k, -1 ≤ lastK l b k ∧ lastK l b k < k
  | 0 => by simp [lastK]
  | k + 1 => by
    have := lastK_le l b k
    rw [lastK]; split <;> omega
theorem last_ok (l : Str) (b : UInt8) (hl : l.length ≤ 4000000000) (p : Oid) : CallOK Tryz.prog 84 [.str l, .int .u8 (b.toNat : Int)] (Oid.under p) ⟨[], .int .i64 (lastK l b l.length), []⟩ := by
  refine fnOK (n := 20) (rs := [.tmp 4]) Tryz.func84 rfl rfl (by decide) rfl rfl rfl ?_; rintro x rfl hrd hng
  (repeat (first | (refine K_ifT rfl rfl ?_) | (refine K_ifF rfl rfl ?_) | (refine K_ev nmd [] hng (by kernel_rfl) fun hf C S K hC1 hC hS hK => ?_; simp (disch := first | omega | assumption) only [go_sem]; refine hK ?_; clear hK hS hC hC1 K S C hf) | ((first | refine zk ?_ | refine zn ?_ | refine ze ?_); with_reducible (constructor; repeat constructor); try refine zl ?_)))
  refine K_loop [0, 1, 5, 6] (fun k s' => ∃ (i c : Nat), k = l.length - i ∧ i ≤ l.length ∧ s' = ⟨[(0, .str l), (1, .int .u8 (b.toNat : Int)), (5, .int .i64 (lastK l b i)), (6, .int .i64 i)], Mem.of [], c, []⟩) _ ⟨0, _, rfl, Nat.zero_le _, rfl⟩ ?_
  rintro k s' ⟨i, c, rfl, hi, rfl⟩
  (repeat (first | (refine K_ifT rfl rfl ?_) | (refine K_ifF rfl rfl ?_) | (refine K_ev nmd [] hng (by kernel_rfl) fun hf C S K hC1 hC hS hK => ?_; simp (disch := first | omega | assumption) only [go_sem]; refine hK ?_; clear hK hS hC hC1 K S C hf) | ((first | refine zk ?_ | refine zn ?_ | refine ze ?_); with_reducible (constructor; repeat constructor); try refine zl ?_)))
  refine K_ifd rfl rfl (fun hb => ?_) (fun hb => ?_)
  · have hlt : i < l.length := by omega
    (repeat (first | (refine K_ifT rfl rfl ?_) | (refine K_ifF rfl rfl ?_) | (refine K_ev nmd [] hng (by kernel_rfl) fun hf C S K hC1 hC hS hK => ?_; simp (disch := first | omega | assumption) only [go_sem]; refine hK ?_; clear hK hS hC hC1 K S C hf) | ((first | refine zk ?_ | refine zn ?_ | refine ze ?_); with_reducible (constructor; repeat constructor); try refine zl ?_)))
    refine K_ifd rfl rfl (fun hb => ?_) (fun hb => ?_)
    · have he : l.getD i 0 = b := UInt8.toNat_inj.1 (by omega)
      have hk : lastK l b (i + 1) = i := by rw [lastK, if_pos he]
      (repeat (first | (refine K_ifT rfl rfl ?_) | (refine K_ifF rfl rfl ?_) | (refine K_ev nmd [] hng (by kernel_rfl) fun hf C S K hC1 hC hS hK => ?_; simp (disch := first | omega | assumption) only [go_sem]; refine hK ?_; clear hK hS hC hC1 K S C hf) | ((first | refine zk ?_ | refine zn ?_ | refine ze ?_); with_reducible (constructor; repeat constructor); try refine zl ?_)))
      exact ⟨_, _, by omega, fun _ _ h => h, i + 1, _, rfl, by omega, by rw [hk]; rfl⟩
    · have he : ¬ l.getD i 0 = b := fun e => hb (by rw [e])
      have hk : lastK l b (i + 1) = lastK l b i := by rw [lastK, if_neg he]
      (repeat (first | (refine K_ifT rfl rfl ?_) | (refine K_ifF rfl rfl ?_) | (refine K_ev nmd [] hng (by kernel_rfl) fun hf C S K hC1 hC hS hK => ?_; simp (disch := first | omega | assumption) only [go_sem]; refine hK ?_; clear hK hS hC hC1 K S C hf) | ((first | refine zk ?_ | refine zn ?_ | refine ze ?_); with_reducible (constructor; repeat constructor); try refine zl ?_)))
      exact ⟨_, _, by omega, fun _ _ h => h, i + 1, c + 1 + 1 + 1, rfl, by omega, by rw [hk]; rfl⟩
  · obtain rfl : i = l.length := by omega
    (repeat (first | (refine K_ifT rfl rfl ?_) | (refine K_ifF rfl rfl ?_) | (refine K_ev nmd [] hng (by kernel_rfl) fun hf C S K hC1 hC hS hK => ?_; simp (disch := first | omega | assumption) only [go_sem]; refine hK ?_; clear hK hS hC hC1 K S C hf) | ((first | refine zk ?_ | refine zn ?_ | refine ze ?_); with_reducible (constructor; repeat constructor); try refine zl ?_)))
    exact K_ret (done1 rfl)
attribute [go_sem] gd_T gdR_T
end Go.Proofs.YtiaiggbimlbkfaaGreatDoor
namespace Go.Ab
open Go.ChangeShapes Go.WideShapes
section
variable {β : Type}
/-- A law's row that lists variables: its witness, what its arguments read as, what the list gives, its contract. -/
theorem law_lifted_row {C : Checked} [Laid C.prog] {os : Os} {f : FuncId} {fn : Func} {s : ChangeSpec} {F : Stop.Interp} {conds : List PathCond} {laid : List (String × DataW Unit)} {tb : TypeId} {H : Type} {enc : TypeId × Value → H} {ts : List TypeId} {B : β → List AV} {W : β → Prop}
    (own : ownKnob C.prog.godebug = none) (started : os.Started) (noInit : C.prog.inits.idxOf? f = none) (hfn : C.prog.funcs[f]? = some fn)
    (witness : ∃ (w : World) (tape : Tape) (i : Input), w.os = os ∧ (w.forCall tape i).Shaped C.prog ∧ i.vars = [] ∧ Input.okWide C.prog (w.forCall tape i) .any w.heap.size f i ∧
      (OpenSpec.ofChange s).preRow enc C.prog fn conds false laid (w.forCall tape i).memory i.args ∧ ({} : Assume).holds C.prog (lone (Frame.enter C.prog f i.args .normal) [] (w.forCall tape i)))
    (hl : laidOutB C.prog = true) (hz : ∀ t e, t < C.prog.types.size → C.prog.underlying t = some (.slice e) → 0 < C.prog.cellsOf e) (hp : fn.params.toList = ts) (hrB : (ts.all fun t => C.prog.readableRec t && decide (t < C.prog.types.size)) = true)
    (hrt : fn.resultTypes = #[tb]) (htb : C.prog.underlying tb = some .bool) (hv : s.vars = []) (hs : ∀ ds : List (DataW H), ds.length = ts.length → s.fn H ds = { results := [.lit (.bool true)], args := ds })
    (hA : RdA C.prog ts B W) (hc : ∀ b, W b → CallOK C.prog f (B b) (Oid.under (.root C.prog.globals.size)) ⟨[], .bool true, []⟩) (hLaid : ∀ W : World, laidMetH C.prog laid W → W.ShapedOpen C.prog → Laid.facts C.prog (ghAll C.prog.globals.size W)) :
    ReturnsInHanded {} C os f .any ((OpenSpec.ofChange s).preRow enc C.prog fn conds false laid) (((OpenSpec.ofChange s).at F).post enc C.prog fn false true false false) := by
  have hr : ∀ t ∈ ts, C.prog.readableRec t = true ∧ t < C.prog.types.size := fun t ht => by
    have := List.all_eq_true.1 hrB t ht
    simpa using this
  refine returnsInHanded_of_row own started noInit hfn witness ?_
  intro w base args ds gs before hval hW _ _ hsz hlaid hopen _
  have hW : DataW.Whole enc C.prog fn.params.toList s.vars false w args.toList ds gs before := hW
  have hsz : (DataW.weightsEach C.prog (fn.params.toList ++ s.plain.varTypes C.prog) (ds ++ gs)).all (· ≤ reachBytes) = true := hsz
  have hW' := hW
  obtain ⟨p, q, hT, hV, rfl, hfz, hnd⟩ := hW
  rw [hv] at hV
  obtain ⟨rfl, rfl⟩ := trodVars_none hV
  have hlen := trodAll_length hT
  rw [hp] at hT hlen
  have hvt : s.plain.varTypes C.prog = [] := by
    have : s.plain.vars = [] := hv
    unfold DataSpec.varTypes; rw [this]; rfl
  rw [hvt, List.append_nil, List.append_nil, List.all_eq_true, hp] at hsz
  obtain ⟨b, k1, k2, k3⟩ := hA.rd (ng := C.prog.globals.size) (fun j t v ht hv' => hval j t v (by rw [← Array.getElem?_toList, hp]; exact ht) (by rw [← Array.getElem?_toList]; exact hv')) hT fun n hn => by simpa using hsz n hn
  refine law_post hl hz (by rw [hp]; exact hr) hrt htb hv hW' (hs ds hlen) (avs := B b) ⟨by simpa using k2, fun j hj => ?_⟩ (hc b k1) (hLaid _ hlaid hopen)
  have := k3 j (by rw [k2]; exact hj)
  simpa [List.getD_eq_getElem?_getD, Array.getD_eq_getD_getElem?] using this
end
/-! ### what a list gives -/
theorem ghAll_table {ng : Nat} {P : Program} {W : World} {name : String} {k : IntKind} {zs : List Int} {g : Nat} (hg : P.globalNamed name = some g) (h : Lib.TabIs P W name k zs) :
    (ghAll ng W).row g = some zs.length ∧ ∀ j z, zs[j]? = some z → (ghAll ng W).com g j = some (.int k z) := by
  simp only [Lib.TabIs, World.var?, hg, Option.bind_some] at h
  cases hw : W.heap[g]? with
  | none => rw [hw] at h; cases h
  | some o =>
    rw [hw] at h
    cases o with
    | cells c t fz =>
      simp only [Option.some.injEq] at h
      subst h
      refine ⟨by simp [ghAll, hw], fun j z hz => ghAll_com ?_ rfl⟩
      simp [World.cell?, hw, hz]
    | _ => cases h
/-- A variable that holds an error. -/
theorem ghAll_err {ng : Nat} {P : Program} {W : World} {name nm : String} {d : DataW Unit} {g : Nat} {ti : TypeId} {ms : Array (String × TypeId)} (hg : P.globalNamed name = some g) (hty : (P.globals[g]?).map (·.type) = some ti) (hi : P.underlying ti = some (.interface ms))
    {l : List (String × DataW Unit)} (hm : (name, .iface nm d) ∈ l) (h : laidMet P l W) : ∃ v, (ghAll ng W).com g 0 = some v ∧ (v = .nilIface ∨ ∃ t p, v = .iface t p) := by
  obtain ⟨ps, hl, _, _⟩ := h
  have key : ∀ {l : List (String × DataW Unit)} {ps : List MemPlace}, DataW.LaidVars P W l ps → (name, .iface nm d) ∈ l → ∃ t p, W.cell? ⟨g, 0, none⟩ = some (.iface t p) := by
    intro l
    induction l with
    | nil => intro ps _ hm; cases hm
    | cons x r ih =>
      obtain ⟨n, e⟩ := x
      intro ps hl hm
      obtain ⟨g', t, cs, fuel, p, q, h1, h2, h3, h4, h5, _⟩ := hl
      rcases List.mem_cons.1 hm with hm | hm
      · simp only [Prod.mk.injEq] at hm
        obtain ⟨rfl, rfl⟩ := hm
        rw [hg] at h1; simp only [Option.some.injEq] at h1; subst h1
        rw [hty] at h2; simp only [Option.some.injEq] at h2; subst h2
        obtain ⟨_, u, v, h6, _, _⟩ := iface_of_trod hi h4
        simp only [World.var?, hg, Option.bind_some] at h3
        cases hw : W.heap[g]? with
        | none => rw [hw] at h3; cases h3
        | some o =>
          rw [hw] at h3
          cases o with
          | cells c t' fz =>
            simp only [Option.some.injEq] at h3
            subst h3
            refine ⟨u, v, ?_⟩
            have h7 : c[0]? = some (.iface u v) := by rw [← Array.getElem?_toList, h6]; rfl
            simp [World.cell?, hw, h7]
          | _ => cases h3
      · exact ih h5 hm
  obtain ⟨t, p, hc⟩ := key hl hm
  exact ⟨_, ghAll_com hc rfl, .inr ⟨t, p, rfl⟩⟩
/-- A variable that holds a table. -/
theorem tab_of_mem {P : Program} {W : World} {name : String} {k : IntKind} {zs : List Int} {g : Nat} {t e : TypeId} {n : Nat} (hg : P.globalNamed name = some g) (hty : (P.globals[g]?).map (·.type) = some t) (ht : P.underlying t = some (.array n e)) (he : P.underlying e = some (.int k)) (hce : P.cellsOf e = 1) (hct : P.cellsOf t = n)
    {l : List (String × DataW Unit)} (hm : (name, Lib.tabData k zs) ∈ l) (h : laidMet P l W) : Lib.TabIs P W name k zs := by
  obtain ⟨ps, hl, h1, h2⟩ := h
  clear h1 h2
  induction l generalizing ps with
  | nil => cases hm
  | cons x r ih =>
    obtain ⟨n', d⟩ := x
    obtain ⟨g', t', cs, fuel, p, q, h1, h2, h3, h4, h5, _⟩ := hl
    rcases List.mem_cons.1 hm with hm | hm
    · simp only [Prod.mk.injEq] at hm
      obtain ⟨rfl, rfl⟩ := hm
      rw [hg] at h1; simp only [Option.some.injEq] at h1; subst h1
      rw [hty] at h2; simp only [Option.some.injEq] at h2; subst h2
      have := Lib.cells_of_tab ht he hce hct h4
      show W.var? P name = _
      rw [h3, ← this]
    · exact ih hm q h5
end Go.Ab
namespace Go.Proofs.YtiaiggbimlbkfaaGreatDoor
open Go Go.Ab Go.ChangeShapes Go.WideShapes Go.RowKit
set_option maxRecDepth 100000
/-- The list of the rows. -/
def LL : List (String × DataW Unit) := [("math/bits.deBruijn32tab", Rows.laid_math_bits_deBruijn32tab), ("math/bits.deBruijn64tab", Rows.laid_math_bits_deBruijn64tab), ("internal/strconv.uint64pow10", Rows.laid_internal_strconv_uint64pow10), ("unicode/utf8.acceptRanges", Rows.laid_unicode_utf8_acceptRanges), ("strconv.ErrRange", Rows.laid_strconv_ErrRange), ("strconv.ErrSyntax", Rows.laid_strconv_ErrSyntax), ("unicode/utf8.first", Rows.laid_unicode_utf8_first)]
def setC (c : Array Value) : Obj → Obj
  | .cells _ t fz => .cells c t fz
  | o => o
def laidHeap (h : Array Obj) : Array Obj := (((((((h.modify 6 (setC #[.int .u8 0, .int .u8 1, .int .u8 28, .int .u8 2, .int .u8 29, .int .u8 14, .int .u8 24, .int .u8 3, .int .u8 30, .int .u8 22, .int .u8 20, .int .u8 15, .int .u8 25, .int .u8 17, .int .u8 4, .int .u8 8, .int .u8 31, .int .u8 27, .int .u8 13, .int .u8 23, .int .u8 21, .int .u8 19, .int .u8 16, .int .u8 7, .int .u8 26, .int .u8 12, .int .u8 18, .int .u8 6, .int .u8 11, .int .u8 5, .int .u8 10, .int .u8 9])).modify 7 (setC #[.int .u8 0, .int .u8 1, .int .u8 56, .int .u8 2, .int .u8 57, .int .u8 49, .int .u8 28, .int .u8 3, .int .u8 61, .int .u8 58, .int .u8 42, .int .u8 50, .int .u8 38, .int .u8 29, .int .u8 17, .int .u8 4, .int .u8 62, .int .u8 47, .int .u8 59, .int .u8 36, .int .u8 45, .int .u8 43, .int .u8 51, .int .u8 22, .int .u8 53, .int .u8 39, .int .u8 33, .int .u8 30, .int .u8 24, .int .u8 18, .int .u8 12, .int .u8 5, .int .u8 63, .int .u8 55, .int .u8 48, .int .u8 27, .int .u8 60, .int .u8 41, .int .u8 37, .int .u8 16, .int .u8 46, .int .u8 35, .int .u8 44, .int .u8 21, .int .u8 52, .int .u8 32, .int .u8 23, .int .u8 11, .int .u8 54, .int .u8 26, .int .u8 40, .int .u8 15, .int .u8 34, .int .u8 20, .int .u8 31, .int .u8 10, .int .u8 25, .int .u8 14, .int .u8 19, .int .u8 9, .int .u8 13, .int .u8 8, .int .u8 7, .int .u8 6])).modify 1 (setC #[.int .u64 1, .int .u64 10, .int .u64 100, .int .u64 1000, .int .u64 10000, .int .u64 100000, .int .u64 1000000, .int .u64 10000000, .int .u64 100000000, .int .u64 1000000000, .int .u64 10000000000, .int .u64 100000000000, .int .u64 1000000000000, .int .u64 10000000000000, .int .u64 100000000000000, .int .u64 1000000000000000, .int .u64 10000000000000000, .int .u64 100000000000000000, .int .u64 1000000000000000000, .int .u64 10000000000000000000])).modify 5 (setC #[.int .u8 128, .int .u8 191, .int .u8 160, .int .u8 191, .int .u8 128, .int .u8 159, .int .u8 144, .int .u8 191, .int .u8 128, .int .u8 143, .int .u8 0, .int .u8 0, .int .u8 0, .int .u8 0, .int .u8 0, .int .u8 0, .int .u8 0, .int .u8 0, .int .u8 0, .int .u8 0, .int .u8 0, .int .u8 0, .int .u8 0, .int .u8 0, .int .u8 0, .int .u8 0, .int .u8 0, .int .u8 0, .int .u8 0, .int .u8 0, .int .u8 0, .int .u8 0])).modify 3 (setC #[.iface 149 (.pointer (some ⟨13, 0, none⟩))])).modify 2 (setC #[.iface 149 (.pointer (some ⟨14, 0, none⟩))])).modify 4 (setC ((Go.Pinned.utf8FirstZ.map fun (n : Nat) => Value.int .u8 (n : Int)).toArray))) ++ #[.cells #[.string ⟨#[118, 97, 108, 117, 101, 32, 111, 117, 116, 32, 111, 102, 32, 114, 97, 110, 103, 101]⟩] 151 (0, 0), .cells #[.string ⟨#[105, 110, 118, 97, 108, 105, 100, 32, 115, 121, 110, 116, 97, 120]⟩] 151 (0, 0)]
noncomputable def laidWorld (os : Os) : World := { World.holding Tryz.prog os ⟨#[], #[], []⟩ with heap := laidHeap (World.holding Tryz.prog os ⟨#[], #[], []⟩).heap }
theorem laid_met (os : Os) (args : Array Value) : laidMet Tryz.prog LL ((laidWorld os).forCall (fun _ _ => 0) ⟨#[], args, []⟩).memory :=
  laidMet_of_run' 8 (by kernel_rfl) (by kernel_rfl)
theorem laid_h {W : World} (h : laidMetH Tryz.prog LL W) : laidMet Tryz.prog LL W := h
end Go.Proofs.YtiaiggbimlbkfaaGreatDoor
namespace Go.Proofs.YtiaiggbimlbkfaaGreatDoor
open Go Go.Ab
set_option maxRecDepth 100000
instance laidChecked : Laid Tryz.checked.prog := laidHere
theorem own : ownKnob Tryz.prog.godebug = none := by kernel_rfl
theorem laidOut : laidOutB Tryz.prog = true := by kernel_rfl
theorem full : ∀ t e, t < Tryz.prog.types.size → Tryz.prog.underlying t = some (.slice e) → 0 < Tryz.prog.cellsOf e := slices_full_of _ (by kernel_rfl)
theorem laid_facts {W : World} (h : laidMetH Tryz.prog LL W) (ho : W.ShapedOpen Tryz.prog) : Laid.facts Tryz.prog (ghAll Tryz.prog.globals.size W) := by
  have h' := laid_h h
  have ht : Lib.TabIs Tryz.prog W "internal/strconv.uint64pow10" .u64 Lib.pow10Tab :=
    tab_of_mem (g := 1) (t := 134) (e := 99) (n := 20) (by kernel_rfl) (by kernel_rfl) (by kernel_rfl) (by kernel_rfl) (by kernel_rfl) (by kernel_rfl) (l := LL) (List.mem_cons_of_mem _ (List.mem_cons_of_mem _ List.mem_cons_self)) h'
  have hn : Tryz.prog.globalNamed "internal/strconv.uint64pow10" = some 1 := by kernel_rfl
  obtain ⟨t1, t2⟩ := ghAll_table (ng := Tryz.prog.globals.size) hn ht
  obtain ⟨m, hm⟩ := cell_of_shapedOpen_int (P := Tryz.prog) (g := 0) (zero := #[.int .i64 0]) (t := 3) ho (of_decide_eq_true (by kernel_rfl)) (by kernel_rfl) rfl (by kernel_rfl) (by kernel_rfl) Tryz.underlying3
  refine ⟨t1, t2, ?_, ?_, m, ghAll_com hm rfl⟩
  · exact ghAll_err (P := Tryz.prog) (name := "strconv.ErrSyntax") (ti := 69) (by kernel_rfl) (by kernel_rfl) Tryz.underlying69 (l := LL) (List.mem_cons_of_mem _ (List.mem_cons_of_mem _ (List.mem_cons_of_mem _ (List.mem_cons_of_mem _ (List.mem_cons_of_mem _ List.mem_cons_self))))) h'
  · exact ghAll_err (P := Tryz.prog) (name := "strconv.ErrRange") (ti := 69) (by kernel_rfl) (by kernel_rfl) Tryz.underlying69 (l := LL) (List.mem_cons_of_mem _ (List.mem_cons_of_mem _ (List.mem_cons_of_mem _ (List.mem_cons_of_mem _ List.mem_cons_self)))) h'
theorem c_u8 : Tryz.prog.cellsOf 5 = 1 := by kernel_rfl
end Go.Proofs.YtiaiggbimlbkfaaGreatDoor
namespace Go.Proofs.YtiaiggbimlbkfaaGreatDoor
open Go Go.Ab
set_option maxRecDepth 20000
set_option maxHeartbeats 4000000
/-- A table of 256 numbers. -/
def tabA (T : Nat → Int) : List AV := (List.range 256).map fun k => .int .i64 (T k)
theorem tab_zero : zer Tryz.prog 75 = some (tabA fun _ => 0) := by kernel_rfl
theorem tabA_len (T : Nat → Int) : (tabA T).length = 256 := by simp [tabA]
/-- The table that turns bytes of one set into those of another, behind k of them. -/
def tabM (f g : Str) (k : Nat) (j : Nat) : Int := if lastK f (UInt8.ofNat j) k < 0 then 0 else 1 + ((g.getD (min (lastK f (UInt8.ofNat j) k).toNat (g.length - 1)) 0).toNat : Int)
theorem tab_set (T : Nat → Int) (k : Nat) (hk : k < 256) (v : Int) : (tabA T).take (0 + k * 1) ++ [.int .i64 v] ++ (tabA T).drop (0 + k * 1 + 1) = tabA fun j => if j = k then v else T j := by
  show spl (tabA T) (0 + k * 1) [.int .i64 v] = _
  apply List.ext_getElem
  · rw [spl_length (by rw [tabA_len]; simp; omega), tabA_len, tabA_len]
  · intro j h1 h2
    have hj : j < 256 := by rw [tabA_len] at h2; exact h2
    have h3 := spl_getD (vs := tabA T) (k := 0 + k * 1) (cs := [.int .i64 v]) (by rw [tabA_len]; simp; omega) j .undef
    rw [List.getD_eq_getElem?_getD, List.getElem?_eq_getElem h1, Option.getD_some] at h3
    rw [h3]
    simp only [List.length_cons, List.length_nil]
    by_cases hjk : j = k
    · subst hjk
      rw [if_pos (by omega)]
      simp [tabA]
    · rw [if_neg (by omega)]
      simp [tabA, hjk, List.getElem?_range hj]
theorem tab_get (T : Nat → Int) (k : Nat) (hk : k < 256) : ((tabA T).drop (0 + k * 1)).getD 0 .undef = .int .i64 (T k) := by
  simp [tabA, List.getD_eq_getElem?_getD, List.getElem?_range hk]
/-- What becomes of a byte. -/
def trB (f g : Str) (b : UInt8) : Str := if lastK f b f.length < 0 then [b] else if g = [] then [] else [g.getD (min (lastK f b f.length).toNat (g.length - 1)) 0]
def TabOK (T : Nat → Int) (f g : Str) : Prop := ∀ b : UInt8, (trB f g b = [b] ∧ T b.toNat = 0) ∨ (trB f g b = [] ∧ T b.toNat = -1) ∨ ∃ y : UInt8, trB f g b = [y] ∧ T b.toNat = 1 + (y.toNat : Int)
theorem tabM_ok (f g : Str) (hg : ¬ g = []) : TabOK (tabM f g f.length) f g := fun b => by
  unfold tabM trB
  rw [ofNat_toNat]
  by_cases h : lastK f b f.length < 0
  · rw [if_pos h, if_pos h]; exact .inl ⟨rfl, rfl⟩
  · rw [if_neg h, if_neg h, if_neg hg]; exact .inr (.inr ⟨_, rfl, rfl⟩)
theorem tabM_step {f g : Str} {i : Nat} : (fun j => if j = (f.getD i 0).toNat then 1 + ((g.getD (min i (g.length - 1)) 0).toNat : Int) else tabM f g i j) = fun j => if j < 256 then tabM f g (i + 1) j else if j = (f.getD i 0).toNat then 1 + ((g.getD (min i (g.length - 1)) 0).toNat : Int) else tabM f g i j := by
  funext j
  by_cases hj : j < 256
  · rw [if_pos hj]
    by_cases he : j = (f.getD i 0).toNat
    · rw [if_pos he]
      have h1 : f.getD i 0 = UInt8.ofNat j := by rw [he, ofNat_toNat]
      unfold tabM
      rw [lastK, if_pos h1, if_neg (by omega)]; rfl
    · rw [if_neg he]
      have h1 : ¬ f.getD i 0 = UInt8.ofNat j := fun e => he (by rw [e, UInt8.toNat_ofNat']; omega)
      unfold tabM
      rw [lastK, if_neg h1]
  · rw [if_neg hj]
theorem tabA_cut (T U : Nat → Int) : tabA (fun j => if j < 256 then T j else U j) = tabA T := by
  unfold tabA
  apply List.map_congr_left
  intro j hj
  simp only [if_pos (List.mem_range.1 hj)]
def tabD (f : Str) (k : Nat) (j : Nat) : Int := if lastK f (UInt8.ofNat j) k < 0 then 0 else -1
theorem tabD_ok (f : Str) : TabOK (tabD f f.length) f [] := fun b => by
  unfold tabD trB
  rw [ofNat_toNat]
  by_cases h : lastK f b f.length < 0
  · rw [if_pos h, if_pos h]; exact .inl ⟨rfl, rfl⟩
  · rw [if_neg h, if_neg h, if_pos rfl]; exact .inr (.inl ⟨rfl, rfl⟩)
theorem tabD_step {f : Str} {i : Nat} : (fun j => if j = (f.getD i 0).toNat then -1 else tabD f i j) = fun j => if j < 256 then tabD f (i + 1) j else if j = (f.getD i 0).toNat then -1 else tabD f i j := by
  funext j
  by_cases hj : j < 256
  · rw [if_pos hj]
    by_cases he : j = (f.getD i 0).toNat
    · rw [if_pos he]
      have h1 : f.getD i 0 = UInt8.ofNat j := by rw [he, ofNat_toNat]
      unfold tabD
      rw [lastK, if_pos h1, if_neg (by omega)]
    · rw [if_neg he]
      have h1 : ¬ f.getD i 0 = UInt8.ofNat j := fun e => he (by rw [e, UInt8.toNat_ofNat']; omega)
      unfold tabD
      rw [lastK, if_neg h1]
  · rw [if_neg hj]
theorem setP_ne {b : Str} (h : ¬ b = []) : ¬ setP b = [] := by
  by_cases hc : condR b
  · rw [setP_rng hc]
    have := hc.2.2
    obtain ⟨k, hk⟩ : ∃ k, (b.getD 2 0).toNat + 1 - (b.getD 0 0).toNat = k + 1 := ⟨(b.getD 2 0).toNat - (b.getD 0 0).toNat, by omega⟩
    rw [hk, rng_cons]; simp
  · rw [setP_one h hc]; simp
theorem trB_one (f g : Str) (b : UInt8) : (trB f g b).length ≤ 1 := by
  unfold trB; split
  · simp
  · split <;> simp
theorem flat_take {t : Str} {h : UInt8 → Str} {i : Nat} (hi : i < t.length) : (t.take (i + 1)).flatMap h = (t.take i).flatMap h ++ h (t.getD i 0) := by
  rw [List.take_add_one, List.flatMap_append, List.getElem?_eq_getElem hi, List.getD_eq_getElem?_getD, List.getElem?_eq_getElem hi]
  simp
theorem flat_len {h : UInt8 → Str} (hh : ∀ b, (h b).length ≤ 1) : ∀ t : Str, (t.flatMap h).length ≤ t.length
  | [] => by simp
  | b :: t => by
    have := flat_len hh t
    have := hh b
    rw [List.flatMap_cons, List.length_append, List.length_cons]; omega
theorem tr_ok (a b t f g : Str) (h : (a = [45, 100] ∧ f = setP b ∧ g = []) ∨ (¬ a = [45, 100] ∧ ¬ b = [] ∧ f = setP a ∧ g = setP b)) (hal : a.length ≤ 4000000) (hbl : b.length ≤ 4000000) (htl : t.length ≤ 4000000) (p : Oid) :
    CallOK Tryz.prog 36 [.list 1 [.str a, .str b], .str t] (Oid.under p) ⟨[], .tuple [(toldR (t.flatMap (trB f g))).av, .bool true], []⟩ := by
  have hla := setP_len a
  have hlb := setP_len b
  refine fnOK (n := 106) (rs := [.cell 4 32, .tmp 5]) Tryz.func36 rfl rfl (by decide) rfl rfl rfl ?_; rintro x rfl hrd hng
  (try ((first | refine zk ?_ | refine zn ?_ | refine ze ?_); with_reducible (constructor; repeat constructor)); try refine zl ?_)
  refine K_ev nmd [] hng (by kernel_rfl) fun hf C S K hC1 hC hS hK => ?_; simp (disch := first | omega | assumption) only [go_sem]
  refine hK ?_; clear hK hS hC hC1 K S C hf
  (try ((first | refine zk ?_ | refine zn ?_ | refine ze ?_); with_reducible (constructor; repeat constructor)); try refine zl ?_)
  refine K_cut [0, 1, 4, 29] (fun s' => s' = ⟨[(0, .list 1 [.str a, .str b]), (1, .str t), (4, .ptr (.sub 0 0 x.p) 0), (29, .bool false)], Mem.of [(.sub 0 0 x.p, .cells [.int .i64 0, .str [], .str []])], 2, []⟩) ?_ ?_
  · rcases h with ⟨rfl, _, _⟩ | ⟨ha, hb0, _, _⟩
    · refine K_ev nmd [(3, 18), (8, 23)] hng (by kernel_rfl) fun hf C S K hC1 hC hS hK => ?_; simp (disch := first | omega | assumption) only [go_sem]
      (repeat' (first | (refine evG_split (fun hv => ?_) (fun hv => ?_) <;> (try simp only [zb1, zb2, zb3, zb4, zb5] at hv) <;> simp (disch := first | omega | assumption) only [go_sem, hv, decide_false, decide_true, ne_eq, not_true_eq_false, not_false_eq_true]) | (refine hK ?_; clear hK hS hC hC1 K S C hf)))
      all_goals first | exact absurd rfl hv | exact K_cutN rfl
    · refine K_ev nmd [(3, 18), (8, 23)] hng (by kernel_rfl) fun hf C S K hC1 hC hS hK => ?_; simp (disch := first | omega | assumption) only [go_sem]
      (repeat' (first | (refine evG_split (fun hv => ?_) (fun hv => ?_) <;> (try simp only [zb1, zb2, zb3, zb4, zb5] at hv) <;> simp (disch := first | omega | assumption) only [go_sem, hv, ha, hb0, decide_false, decide_true, ne_eq, not_true_eq_false, not_false_eq_true]) | (refine hK ?_; clear hK hS hC hC1 K S C hf)))
      all_goals first | exact absurd rfl hv | exact K_cutN rfl
  rintro s' rfl
  (repeat (first | (refine K_ifT rfl rfl ?_) | (refine K_ifF rfl rfl ?_) | (refine K_ev nmd [] hng (by kernel_rfl) fun hf C S K hC1 hC hS hK => ?_; simp (disch := first | omega | assumption) only [go_sem, tab_zero]; (repeat ((first | refine hC1 _ (set_ok b hbl _) (by simp (disch := first | omega | assumption) only [go_sem]) ?_); simp (disch := first | omega | assumption) only [go_sem])); refine hK ?_; clear hK hS hC hC1 K S C hf) | ((first | refine zk ?_ | refine zn ?_ | refine ze ?_); with_reducible (constructor; repeat constructor); try refine zl ?_)))
  refine K_cut [1, 4, 6] (fun s' => ∃ (T : Nat → Int) (c : Nat), s' = ⟨[(1, .str t), (4, .ptr (.sub 0 0 x.p) 0), (6, .ptr (.sub 2 0 x.p) 0)], Mem.of [(.sub 0 0 x.p, .cells [.int .i64 0, .str [], .str []]), (.sub 2 0 x.p, .cells (tabA T))], c, []⟩ ∧ 3 ≤ c ∧ TabOK T f g) ?_ ?_
  · refine K_ifd rfl rfl (fun hb => ?_) (fun hb => ?_)
    · obtain ⟨_, rfl, rfl⟩ := h.resolve_right fun hh => hh.1 hb
      (repeat (first | (refine K_ifT rfl rfl ?_) | (refine K_ifF rfl rfl ?_) | (refine K_ev nmd [] hng (by kernel_rfl) fun hf C S K hC1 hC hS hK => ?_; simp (disch := first | omega | assumption) only [go_sem, tab_zero]; (repeat ((first | refine hC1 _ () (by simp (disch := first | omega | assumption) only [go_sem]) ?_); simp (disch := first | omega | assumption) only [go_sem])); refine hK ?_; clear hK hS hC hC1 K S C hf) | ((first | refine zk ?_ | refine zn ?_ | refine ze ?_); with_reducible (constructor; repeat constructor); try refine zl ?_)))
      refine K_loop [1, 4, 6, 41, 42, 43] (fun k s' => ∃ (i c : Nat), k = (setP b).length - i ∧ i ≤ (setP b).length ∧ 3 ≤ c ∧
        s' = ⟨[(1, .str t), (4, .ptr (.sub 0 0 x.p) 0), (6, .ptr (.sub 2 0 x.p) 0), (41, .list 1 ((setP b).map byA)), (42, .int .i64 (setP b).length), (43, .int .i64 i)],
          Mem.of [(.sub 0 0 x.p, .cells [.int .i64 0, .str [], .str []]), (.sub 2 0 x.p, .cells (tabA (tabD (setP b) i)))], c, []⟩) _ ⟨0, 6, rfl, Nat.zero_le _, by omega, rfl⟩ ?_
      rintro k s' ⟨i, c, rfl, hi, hc3, rfl⟩
      (repeat (first | (refine K_ifT rfl rfl ?_) | (refine K_ifF rfl rfl ?_) | (refine K_ev nmd [] hng (by kernel_rfl) fun hf C S K hC1 hC hS hK => ?_; simp (disch := first | omega | assumption) only [go_sem]; refine hK ?_; clear hK hS hC hC1 K S C hf) | ((first | refine zk ?_ | refine zn ?_ | refine ze ?_); with_reducible (constructor; repeat constructor); try refine zl ?_)))
      refine K_ifd rfl rfl (fun hb => ?_) (fun hb => ?_)
      · have hlt : i < (setP b).length := by omega
        have hy := ((setP b).getD i 0).toNat_lt
        have e0 : (default : UInt8) = 0 := rfl
        have hts := tab_set (tabD (setP b) i) ((setP b).getD i 0).toNat hy (-1)
        rw [tabD_step, tabA_cut] at hts
        have hle : (0 + ((setP b).getD i 0).toNat * 1 ≤ 255) = True := eq_true (by omega)
        (repeat (first | (refine K_ifT rfl rfl ?_) | (refine K_ifF rfl rfl ?_) | (refine K_ev nmd [] hng (by kernel_rfl) fun hf C S K hC1 hC hS hK => ?_; simp (disch := first | omega | assumption) only [go_sem, tabA_len, byA, e0]; (repeat ((first | refine hC1 _ () (by simp (disch := first | omega | assumption) only [go_sem]) ?_); simp (disch := first | omega | assumption) only [go_sem])); refine hK ?_; clear hK hS hC hC1 K S C hf) | ((first | refine zk ?_ | refine zn ?_ | refine ze ?_); with_reducible (constructor; repeat constructor); try refine zl ?_)))
        refine K_ev nmd [] hng (by kernel_rfl) fun hf C S K hC1 hC hS hK => ?_; simp (disch := first | omega | assumption) only [go_sem, tabA_len, byA, e0, hle, hts]
        refine hK ?_; clear hK hS hC hC1 K S C hf
        (repeat (first | (refine K_ifT rfl rfl ?_) | (refine K_ifF rfl rfl ?_) | (refine K_ev nmd [] hng (by kernel_rfl) fun hf C S K hC1 hC hS hK => ?_; simp (disch := first | omega | assumption) only [go_sem]; refine hK ?_; clear hK hS hC hC1 K S C hf) | ((first | refine zk ?_ | refine zn ?_ | refine ze ?_); with_reducible (constructor; repeat constructor); try refine zl ?_)))
        exact ⟨_, _, by omega, fun _ _ h => h, i + 1, _, rfl, by omega, by omega, rfl⟩
      · obtain rfl : i = (setP b).length := by omega
        (repeat (first | (refine K_ifT rfl rfl ?_) | (refine K_ifF rfl rfl ?_) | (refine K_ev nmd [] hng (by kernel_rfl) fun hf C S K hC1 hC hS hK => ?_; simp (disch := first | omega | assumption) only [go_sem]; refine hK ?_; clear hK hS hC hC1 K S C hf) | ((first | refine zk ?_ | refine zn ?_ | refine ze ?_); with_reducible (constructor; repeat constructor); try refine zl ?_)))
        exact K_cutN ⟨_, _, rfl, by omega, tabD_ok _⟩
    · obtain ⟨_, hb0, rfl, rfl⟩ := h.resolve_left fun hh => hb hh.1
      (repeat (first | (refine K_ifT rfl rfl ?_) | (refine K_ifF rfl rfl ?_) | (refine K_ev nmd [] hng (by kernel_rfl) fun hf C S K hC1 hC hS hK => ?_; simp (disch := first | omega | assumption) only [go_sem, tab_zero]; (repeat ((first | refine hC1 _ (set_ok a hal _) (by simp (disch := first | omega | assumption) only [go_sem]) ?_); simp (disch := first | omega | assumption) only [go_sem])); refine hK ?_; clear hK hS hC hC1 K S C hf) | ((first | refine zk ?_ | refine zn ?_ | refine ze ?_); with_reducible (constructor; repeat constructor); try refine zl ?_)))
      refine K_loop [1, 4, 6, 7, 53, 54, 55] (fun k s' => ∃ (i c : Nat), k = (setP a).length - i ∧ i ≤ (setP a).length ∧ 3 ≤ c ∧
        s' = ⟨[(1, .str t), (4, .ptr (.sub 0 0 x.p) 0), (6, .ptr (.sub 2 0 x.p) 0), (7, .list 1 ((setP b).map byA)), (53, .list 1 ((setP a).map byA)), (54, .int .i64 (setP a).length), (55, .int .i64 i)],
          Mem.of [(.sub 0 0 x.p, .cells [.int .i64 0, .str [], .str []]), (.sub 2 0 x.p, .cells (tabA (tabM (setP a) (setP b) i)))], c, []⟩) _ ⟨0, 6, rfl, Nat.zero_le _, by omega, rfl⟩ ?_
      rintro k s' ⟨i, c, rfl, hi, hc3, rfl⟩
      (repeat (first | (refine K_ifT rfl rfl ?_) | (refine K_ifF rfl rfl ?_) | (refine K_ev nmd [] hng (by kernel_rfl) fun hf C S K hC1 hC hS hK => ?_; simp (disch := first | omega | assumption) only [go_sem]; refine hK ?_; clear hK hS hC hC1 K S C hf) | ((first | refine zk ?_ | refine zn ?_ | refine ze ?_); with_reducible (constructor; repeat constructor); try refine zl ?_)))
      refine K_ifd rfl rfl (fun hb => ?_) (fun hb => ?_)
      · have hlt : i < (setP a).length := by omega
        have hbp := List.length_pos_iff.2 (setP_ne hb0)
        have hy := ((setP a).getD i 0).toNat_lt
        have hz := ((setP b).getD (min i ((setP b).length - 1)) 0).toNat_lt
        have e0 : (default : UInt8) = 0 := rfl
        have hmin : (if ((setP b).length : Int) - 1 < (i : Int) then ((setP b).length : Int) - 1 else (i : Int)).toNat = min i ((setP b).length - 1) := by split <;> omega
        have hts := tab_set (tabM (setP a) (setP b) i) ((setP a).getD i 0).toNat hy (1 + (((setP b).getD (min i ((setP b).length - 1)) 0).toNat : Int))
        rw [tabM_step, tabA_cut] at hts
        have hle : (0 + ((setP a).getD i 0).toNat * 1 ≤ 255) = True := eq_true (by omega)
        (repeat (first | (refine K_ifT rfl rfl ?_) | (refine K_ifF rfl rfl ?_) | (refine K_ev nmd [] hng (by kernel_rfl) fun hf C S K hC1 hC hS hK => ?_; simp (disch := first | omega | assumption) only [go_sem, tabA_len, byA, e0]; (repeat ((first | refine hC1 _ () (by simp (disch := first | omega | assumption) only [go_sem]) ?_); simp (disch := first | omega | assumption) only [go_sem])); refine hK ?_; clear hK hS hC hC1 K S C hf) | ((first | refine zk ?_ | refine zn ?_ | refine ze ?_); with_reducible (constructor; repeat constructor); try refine zl ?_)))
        refine K_ev nmd [] hng (by kernel_rfl) fun hf C S K hC1 hC hS hK => ?_; simp (disch := first | omega | assumption) only [go_sem, tabA_len, byA, hmin, e0, hle, hts]
        refine hK ?_; clear hK hS hC hC1 K S C hf
        (repeat (first | (refine K_ifT rfl rfl ?_) | (refine K_ifF rfl rfl ?_) | (refine K_ev nmd [] hng (by kernel_rfl) fun hf C S K hC1 hC hS hK => ?_; simp (disch := first | omega | assumption) only [go_sem]; refine hK ?_; clear hK hS hC hC1 K S C hf) | ((first | refine zk ?_ | refine zn ?_ | refine ze ?_); with_reducible (constructor; repeat constructor); try refine zl ?_)))
        exact ⟨_, _, by omega, fun _ _ h => h, i + 1, _, rfl, by omega, by omega, rfl⟩
      · obtain rfl : i = (setP a).length := by omega
        (repeat (first | (refine K_ifT rfl rfl ?_) | (refine K_ifF rfl rfl ?_) | (refine K_ev nmd [] hng (by kernel_rfl) fun hf C S K hC1 hC hS hK => ?_; simp (disch := first | omega | assumption) only [go_sem]; refine hK ?_; clear hK hS hC hC1 K S C hf) | ((first | refine zk ?_ | refine zn ?_ | refine ze ?_); with_reducible (constructor; repeat constructor); try refine zl ?_)))
        exact K_cutN ⟨_, _, rfl, by omega, tabM_ok _ _ (setP_ne hb0)⟩
  rintro s' ⟨T, c, rfl, hc3, hT⟩
  (repeat (first | (refine K_ifT rfl rfl ?_) | (refine K_ifF rfl rfl ?_) | (refine K_ev nmd [] hng (by kernel_rfl) fun hf C S K hC1 hC hS hK => ?_; simp (disch := first | omega | assumption) only [go_sem]; refine hK ?_; clear hK hS hC hC1 K S C hf) | ((first | refine zk ?_ | refine zn ?_ | refine ze ?_); with_reducible (constructor; repeat constructor); try refine zl ?_)))
  refine K_loop [1, 4, 6, 12, 74, 75] (fun k s' => ∃ (i c : Nat) (done : Str) (v : AV) (M : List (Oid × AObj)), k = t.length - i ∧ i ≤ t.length ∧ 3 ≤ c ∧ done = (t.take i).flatMap (trB f g) ∧
      ((done = [] ∧ v = .nilSl ∧ M = [(.sub 0 0 x.p, .cells [.int .i64 0, .str [], .str []]), (.sub 2 0 x.p, .cells (tabA T))]) ∨ (¬ done = [] ∧ ∃ d j, d < c ∧ v = .sl (.ty 5 (.sub d j x.p)) 1 done.length ∧ M = [(.sub 0 0 x.p, .cells [.int .i64 0, .str [], .str []]), (.sub 2 0 x.p, .cells (tabA T)), (.ty 5 (.sub d j x.p), .arr 1 (done.map byA))])) ∧
      s' = ⟨[(1, .str t), (4, .ptr (.sub 0 0 x.p) 0), (6, .ptr (.sub 2 0 x.p) 0), (12, v), (74, .int .i64 t.length), (75, .int .i64 i)], Mem.of M, c, []⟩) _ ⟨0, c + 1 + 1, [], .nilSl, _, rfl, Nat.zero_le _, by omega, rfl, .inl ⟨rfl, rfl, rfl⟩, rfl⟩ ?_
  rintro k s' ⟨i, c, done, v, M, rfl, hi, hc3, hdn, hM, rfl⟩
  have hdl : done.length ≤ 4000000 := by
    have := flat_len (trB_one f g) (t.take i)
    rw [← hdn, List.length_take] at this; omega
  rcases hM with ⟨rfl, rfl, rfl⟩ | ⟨hd0, d, j, hdc, rfl, rfl⟩
  · (repeat (first | (refine K_ifT rfl rfl ?_) | (refine K_ifF rfl rfl ?_) | (refine K_ev nmd [] hng (by kernel_rfl) fun hf C S K hC1 hC hS hK => ?_; simp (disch := first | omega | assumption) only [go_sem]; refine hK ?_; clear hK hS hC hC1 K S C hf) | ((first | refine zk ?_ | refine zn ?_ | refine ze ?_); with_reducible (constructor; repeat constructor); try refine zl ?_)))
    refine K_ifd rfl rfl (fun hb => ?_) (fun hb => ?_)
    · have hlt : i < t.length := by omega
      have hft := flat_take (h := trB f g) hlt
      have hy := (t.getD i 0).toNat_lt
      have hget := tab_get T (t.getD i 0).toNat hy
      have hpos : (0 < 256 - (0 + (t.getD i 0).toNat * 1)) = True := eq_true (by omega)
      rw [← hdn] at hft
      rcases hT (t.getD i 0) with ⟨ht, hT0⟩ | ⟨ht, hT0⟩ | ⟨y, ht, hT0⟩ <;> rw [ht] at hft <;> rw [hT0] at hget
      · (repeat (first | (refine K_ifT rfl rfl ?_) | (refine K_ifF rfl rfl ?_) | (refine K_ev nmd [] hng (by kernel_rfl) fun hf C S K hC1 hC hS hK => ?_; simp (disch := first | omega | assumption) only [go_sem, tabA_len, hget, hpos, gdR_T, gd_T]; (repeat ((first | refine hC1 _ () (by simp (disch := first | omega | assumption) only [go_sem]) ?_); simp (disch := first | omega | assumption) only [go_sem])); refine hK ?_; clear hK hS hC hC1 K S C hf) | ((first | refine zk ?_ | refine zn ?_ | refine ze ?_); with_reducible (constructor; repeat constructor); try refine zl ?_)))
        refine ⟨_, _, by omega, fun _ _ h => h, i + 1, c + 1 + 1 + 1 + 1 + 1 + 1 + 1, [] ++ [t.getD i 0], .sl (.ty 5 (.sub (c + 1 + 1 + 1 + 1 + 1) 5 x.p)) 1 ([] ++ [t.getD i 0]).length, [(.sub 0 0 x.p, .cells [.int .i64 0, .str [], .str []]), (.sub 2 0 x.p, .cells (tabA T)), (.ty 5 (.sub (c + 1 + 1 + 1 + 1 + 1) 5 x.p), .arr 1 (([] ++ [t.getD i 0]).map byA))], rfl, by omega, by omega, hft.symm, .inr ⟨by simp, c + 1 + 1 + 1 + 1 + 1, 5, by omega, rfl, rfl⟩, ?_⟩
        first | rfl | (rw [List.map_append, List.length_append]; rfl)
      · rw [List.append_nil] at hft
        (repeat (first | (refine K_ifT rfl rfl ?_) | (refine K_ifF rfl rfl ?_) | (refine K_ev nmd [] hng (by kernel_rfl) fun hf C S K hC1 hC hS hK => ?_; simp (disch := first | omega | assumption) only [go_sem, tabA_len, hget, hpos, gdR_T, gd_T, Int.reduceEq, Int.reduceNeg, decide_false]; (repeat ((first | refine hC1 _ () (by simp (disch := first | omega | assumption) only [go_sem]) ?_); simp (disch := first | omega | assumption) only [go_sem])); refine hK ?_; clear hK hS hC hC1 K S C hf) | ((first | refine zk ?_ | refine zn ?_ | refine ze ?_); with_reducible (constructor; repeat constructor); try refine zl ?_)))
        exact ⟨_, _, by omega, fun _ _ h => h, i + 1, _, [], _, _, rfl, by omega, by omega, hft.symm, .inl ⟨rfl, rfl, rfl⟩, rfl⟩
      · have hyy := y.toNat_lt
        have hz0 : (1 + (y.toNat : Int) = 0) = False := eq_false (by omega)
        have hz1 : (1 + (y.toNat : Int) = -1) = False := eq_false (by omega)
        have hw : IntKind.u8.wrap (1 + (y.toNat : Int) - 1) = (y.toNat : Int) := by rw [show (1 + (y.toNat : Int) - 1) = y.toNat by omega]; exact w8_u8 y
        (repeat (first | (refine K_ifT rfl rfl ?_) | (refine K_ifF rfl rfl ?_) | (refine K_ev nmd [] hng (by kernel_rfl) fun hf C S K hC1 hC hS hK => ?_; simp (disch := first | omega | assumption) only [go_sem, tabA_len, hget, hpos, gdR_T, gd_T, hz0, hz1, hw, decide_false]; (repeat ((first | refine hC1 _ () (by simp (disch := first | omega | assumption) only [go_sem]) ?_); simp (disch := first | omega | assumption) only [go_sem])); refine hK ?_; clear hK hS hC hC1 K S C hf) | ((first | refine zk ?_ | refine zn ?_ | refine ze ?_); with_reducible (constructor; repeat constructor); try refine zl ?_)))
        refine ⟨_, _, by omega, fun _ _ h => h, i + 1, c + 1 + 1 + 1 + 1 + 1 + 1 + 1 + 1, [] ++ [y], .sl (.ty 5 (.sub (c + 1 + 1 + 1 + 1 + 1 + 1) 5 x.p)) 1 ([] ++ [y]).length, [(.sub 0 0 x.p, .cells [.int .i64 0, .str [], .str []]), (.sub 2 0 x.p, .cells (tabA T)), (.ty 5 (.sub (c + 1 + 1 + 1 + 1 + 1 + 1) 5 x.p), .arr 1 (([] ++ [y]).map byA))], rfl, by omega, by omega, hft.symm, .inr ⟨by simp, c + 1 + 1 + 1 + 1 + 1 + 1, 5, by omega, rfl, rfl⟩, ?_⟩
        first | rfl | (rw [List.map_append, List.length_append]; rfl)
    · obtain rfl : i = t.length := by omega
      rw [List.take_length] at hdn
      rw [← hdn]
      (repeat (first | (refine K_ifT rfl rfl ?_) | (refine K_ifF rfl rfl ?_) | (refine K_ev nmd [] hng (by kernel_rfl) fun hf C S K hC1 hC hS hK => ?_; simp (disch := first | omega | assumption) only [go_sem, gd_T]; (repeat ((first | refine hC1 _ (told_x [] _) (by simp (disch := first | omega | assumption) only [go_sem]) ?_); simp (disch := first | omega | assumption) only [go_sem])); refine hK ?_; clear hK hS hC hC1 K S C hf) | ((first | refine zk ?_ | refine zn ?_ | refine ze ?_); with_reducible (constructor; repeat constructor); try refine zl ?_)))
      exact K_ret (done_plain (by simp (disch := first | omega | assumption) only [go_sem, Res.av, toldR, badR, usageR]))
  · (repeat (first | (refine K_ifT rfl rfl ?_) | (refine K_ifF rfl rfl ?_) | (refine K_ev nmd [] hng (by kernel_rfl) fun hf C S K hC1 hC hS hK => ?_; simp (disch := first | omega | assumption) only [go_sem]; refine hK ?_; clear hK hS hC hC1 K S C hf) | ((first | refine zk ?_ | refine zn ?_ | refine ze ?_); with_reducible (constructor; repeat constructor); try refine zl ?_)))
    refine K_ifd rfl rfl (fun hb => ?_) (fun hb => ?_)
    · have hlt : i < t.length := by omega
      have hft := flat_take (h := trB f g) hlt
      have hy := (t.getD i 0).toNat_lt
      have hget := tab_get T (t.getD i 0).toNat hy
      have hpos : (0 < 256 - (0 + (t.getD i 0).toNat * 1)) = True := eq_true (by omega)
      rw [← hdn] at hft
      rcases hT (t.getD i 0) with ⟨ht, hT0⟩ | ⟨ht, hT0⟩ | ⟨y, ht, hT0⟩ <;> rw [ht] at hft <;> rw [hT0] at hget
      · (repeat (first | (refine K_ifT rfl rfl ?_) | (refine K_ifF rfl rfl ?_) | (refine K_ev nmd [] hng (by kernel_rfl) fun hf C S K hC1 hC hS hK => ?_; simp (disch := first | omega | assumption) only [go_sem, tabA_len, hget, hpos, gdR_T, gd_T]; (repeat ((first | refine hC1 _ () (by simp (disch := first | omega | assumption) only [go_sem]) ?_); simp (disch := first | omega | assumption) only [go_sem])); refine hK ?_; clear hK hS hC hC1 K S C hf) | ((first | refine zk ?_ | refine zn ?_ | refine ze ?_); with_reducible (constructor; repeat constructor); try refine zl ?_)))
        refine ⟨_, _, by omega, fun _ _ h => h, i + 1, c + 1 + 1 + 1 + 1 + 1 + 1 + 1, done ++ [t.getD i 0], .sl (.ty 5 (.sub (c + 1 + 1 + 1 + 1 + 1) 5 x.p)) 1 (done ++ [t.getD i 0]).length, [(.sub 0 0 x.p, .cells [.int .i64 0, .str [], .str []]), (.sub 2 0 x.p, .cells (tabA T)), (.ty 5 (.sub (c + 1 + 1 + 1 + 1 + 1) 5 x.p), .arr 1 ((done ++ [t.getD i 0]).map byA))], rfl, by omega, by omega, hft.symm, .inr ⟨by simp, c + 1 + 1 + 1 + 1 + 1, 5, by omega, rfl, rfl⟩, ?_⟩
        first | rfl | (rw [List.map_append, List.length_append]; rfl)
      · rw [List.append_nil] at hft
        (repeat (first | (refine K_ifT rfl rfl ?_) | (refine K_ifF rfl rfl ?_) | (refine K_ev nmd [] hng (by kernel_rfl) fun hf C S K hC1 hC hS hK => ?_; simp (disch := first | omega | assumption) only [go_sem, tabA_len, hget, hpos, gdR_T, gd_T, Int.reduceEq, Int.reduceNeg, decide_false]; (repeat ((first | refine hC1 _ () (by simp (disch := first | omega | assumption) only [go_sem]) ?_); simp (disch := first | omega | assumption) only [go_sem])); refine hK ?_; clear hK hS hC hC1 K S C hf) | ((first | refine zk ?_ | refine zn ?_ | refine ze ?_); with_reducible (constructor; repeat constructor); try refine zl ?_)))
        exact ⟨_, _, by omega, fun _ _ h => h, i + 1, _, done, _, _, rfl, by omega, by omega, hft.symm, .inr ⟨hd0, d, j, by omega, rfl, rfl⟩, rfl⟩
      · have hyy := y.toNat_lt
        have hz0 : (1 + (y.toNat : Int) = 0) = False := eq_false (by omega)
        have hz1 : (1 + (y.toNat : Int) = -1) = False := eq_false (by omega)
        have hw : IntKind.u8.wrap (1 + (y.toNat : Int) - 1) = (y.toNat : Int) := by rw [show (1 + (y.toNat : Int) - 1) = y.toNat by omega]; exact w8_u8 y
        (repeat (first | (refine K_ifT rfl rfl ?_) | (refine K_ifF rfl rfl ?_) | (refine K_ev nmd [] hng (by kernel_rfl) fun hf C S K hC1 hC hS hK => ?_; simp (disch := first | omega | assumption) only [go_sem, tabA_len, hget, hpos, gdR_T, gd_T, hz0, hz1, hw, decide_false]; (repeat ((first | refine hC1 _ () (by simp (disch := first | omega | assumption) only [go_sem]) ?_); simp (disch := first | omega | assumption) only [go_sem])); refine hK ?_; clear hK hS hC hC1 K S C hf) | ((first | refine zk ?_ | refine zn ?_ | refine ze ?_); with_reducible (constructor; repeat constructor); try refine zl ?_)))
        refine ⟨_, _, by omega, fun _ _ h => h, i + 1, c + 1 + 1 + 1 + 1 + 1 + 1 + 1 + 1, done ++ [y], .sl (.ty 5 (.sub (c + 1 + 1 + 1 + 1 + 1 + 1) 5 x.p)) 1 (done ++ [y]).length, [(.sub 0 0 x.p, .cells [.int .i64 0, .str [], .str []]), (.sub 2 0 x.p, .cells (tabA T)), (.ty 5 (.sub (c + 1 + 1 + 1 + 1 + 1 + 1) 5 x.p), .arr 1 ((done ++ [y]).map byA))], rfl, by omega, by omega, hft.symm, .inr ⟨by simp, c + 1 + 1 + 1 + 1 + 1 + 1, 5, by omega, rfl, rfl⟩, ?_⟩
        first | rfl | (rw [List.map_append, List.length_append]; rfl)
    · obtain rfl : i = t.length := by omega
      rw [List.take_length] at hdn
      have hdp := List.length_pos_iff.2 hd0
      rw [← hdn]
      refine K_freeze (.ty 5 (.sub d j x.p)) 1 (done.map byA) (by simp (disch := first | omega | assumption) only [go_sem]) ?_
      simp (disch := first | omega | assumption) only [go_sem]
      (repeat (first | (refine K_ifT rfl rfl ?_) | (refine K_ifF rfl rfl ?_) | (refine K_ev nmd [] hng (by kernel_rfl) fun hf C S K hC1 hC hS hK => ?_; simp (disch := first | omega | assumption) only [go_sem]; (repeat ((first | refine hC1 _ (told_x done _) (by simp (disch := first | omega | assumption) only [go_sem]) ?_); simp (disch := first | omega | assumption) only [go_sem])); refine hK ?_; clear hK hS hC hC1 K S C hf) | ((first | refine zk ?_ | refine zn ?_ | refine ze ?_); with_reducible (constructor; repeat constructor); try refine zl ?_)))
      exact K_ret (done_plain (by simp (disch := first | omega | assumption) only [go_sem, Res.av, toldR, badR, usageR]))
end Go.Proofs.YtiaiggbimlbkfaaGreatDoor
namespace Go.Proofs.YtiaiggbimlbkfaaGreatDoor
open Go Go.Ab
set_option maxRecDepth 20000
set_option maxHeartbeats 4000000
theorem translate_ok (a b t f g : Str) (h : (a = [45, 100] ∧ f = setP b ∧ g = []) ∨ (¬ a = [45, 100] ∧ ¬ b = [] ∧ f = setP a ∧ g = setP b)) (hal : a.length ≤ 4000000) (hbl : b.length ≤ 4000000) (htl : t.length ≤ 4000000) (p : Oid) :
    CallOK Tryz.prog 47 [.list 1 [.str a, .str b], .str t] (Oid.under p) ⟨[], (toldR (t.flatMap (trB f g))).av, []⟩ := by
  have hla := setP_len a
  have hlb := setP_len b
  have hfl : f.length ≤ 4000000000 := by rcases h with ⟨_, rfl, _⟩ | ⟨_, _, rfl, _⟩ <;> omega
  have hgl : g.length ≤ 4000000000 := by
    rcases h with ⟨_, _, rfl⟩ | ⟨_, _, _, rfl⟩
    · exact Nat.zero_le _
    · omega
  refine fnOK (n := 75) (rs := [.cell 4 32]) Tryz.func47 rfl rfl (by decide) rfl rfl rfl ?_; rintro x rfl hrd hng
  (try ((first | refine zk ?_ | refine zn ?_ | refine ze ?_); with_reducible (constructor; repeat constructor)); try refine zl ?_)
  refine K_ev nmd [] hng (by kernel_rfl) fun hf C S K hC1 hC hS hK => ?_; simp (disch := first | omega | assumption) only [go_sem]
  refine hK ?_; clear hK hS hC hC1 K S C hf
  (try ((first | refine zk ?_ | refine zn ?_ | refine ze ?_); with_reducible (constructor; repeat constructor)); try refine zl ?_)
  refine K_cut [0, 1, 4, 24] (fun s' => s' = ⟨[(0, .list 1 [.str a, .str b]), (1, .str t), (4, .ptr (.sub 0 0 x.p) 0), (24, .bool false)], Mem.of [(.sub 0 0 x.p, .cells [.int .i64 0, .str [], .str []])], 2, []⟩) ?_ ?_
  · rcases h with ⟨rfl, _, _⟩ | ⟨ha, hb0, _, _⟩
    · refine K_ev nmd [(3, 13), (8, 18)] hng (by kernel_rfl) fun hf C S K hC1 hC hS hK => ?_; simp (disch := first | omega | assumption) only [go_sem]
      (repeat' (first | (refine evG_split (fun hv => ?_) (fun hv => ?_) <;> (try simp only [zb1, zb2, zb3, zb4, zb5] at hv) <;> simp (disch := first | omega | assumption) only [go_sem, hv, decide_true, decide_false, ne_eq, not_true_eq_false, not_false_eq_true]) | (refine hK ?_; clear hK hS hC hC1 K S C hf)))
      all_goals first | exact absurd rfl hv | exact K_cutN rfl
    · refine K_ev nmd [(3, 13), (8, 18)] hng (by kernel_rfl) fun hf C S K hC1 hC hS hK => ?_; simp (disch := first | omega | assumption) only [go_sem]
      (repeat' (first | (refine evG_split (fun hv => ?_) (fun hv => ?_) <;> (try simp only [zb1, zb2, zb3, zb4, zb5] at hv) <;> simp (disch := first | omega | assumption) only [go_sem, hv, ha, hb0, decide_true, decide_false, ne_eq, not_true_eq_false, not_false_eq_true]) | (refine hK ?_; clear hK hS hC hC1 K S C hf)))
      all_goals first | exact absurd rfl hv | exact K_cutN rfl
  rintro s' rfl
  (repeat (first | (refine K_ifT rfl rfl ?_) | (refine K_ifF rfl rfl ?_) | (refine K_ev nmd [] hng (by kernel_rfl) fun hf C S K hC1 hC hS hK => ?_; simp (disch := first | omega | assumption) only [go_sem]; refine hK ?_; clear hK hS hC hC1 K S C hf) | ((first | refine zk ?_ | refine zn ?_ | refine ze ?_); with_reducible (constructor; repeat constructor); try refine zl ?_)))
  refine K_evd nmd [] [(3, 6)] mixed hng (by kernel_rfl) [0, 1, 4, 5, 6] fun hf C S K hC hS hK => ?_; simp (disch := first | omega | assumption) only [go_sem]
  (repeat' (first | (refine evG_split (fun hv => ?_) (fun hv => ?_) <;> (try simp only [zb1, zb2, zb3, zb4, zb5] at hv) <;> simp (disch := first | omega | assumption) only [go_sem, hv]) | (refine hC _ (setR_ok a hal _) (by simp (disch := first | omega | assumption) only [go_sem]) ?_; simp (disch := first | omega | assumption) only [go_sem]) | (refine hC _ (setR_ok b hbl _) (by simp (disch := first | omega | assumption) only [go_sem]) ?_; simp (disch := first | omega | assumption) only [go_sem]) | ((first | refine hK (dynN_quiet rfl) ?_ | refine hK (by simp (disch := first | omega | assumption) only [go_sem, List.reverse_cons, List.reverse_nil, ne_eq, not_false_eq_true, implies_true]) ?_); clear hK hS hC K S C hf)))
  (repeat (first | (refine K_ifT rfl rfl ?_) | (refine K_ifF rfl rfl ?_) | (refine K_ev nmd [] hng (by kernel_rfl) fun hf C S K hC1 hC hS hK => ?_; simp (disch := first | omega | assumption) only [go_sem]; refine hK ?_; clear hK hS hC hC1 K S C hf) | ((first | refine zk ?_ | refine zn ?_ | refine ze ?_); with_reducible (constructor; repeat constructor); try refine zl ?_)))
  refine K_cut [1, 4, 5, 6] (fun s' => ∃ (c : Nat), s' = ⟨[(1, .str t), (4, .ptr (.sub 0 0 x.p) 0), (5, .str f), (6, .str g)], Mem.of [(.sub 0 0 x.p, .cells [.int .i64 0, .str [], .str []])], c, []⟩ ∧ 3 ≤ c) ?_ ?_
  · refine K_ifd rfl rfl (fun hb => ?_) (fun hb => ?_)
    · obtain ⟨_, rfl, rfl⟩ := h.resolve_right fun hh => hh.1 hb
      (repeat (first | (refine K_ifT rfl rfl ?_) | (refine K_ifF rfl rfl ?_) | (refine K_ev nmd [] hng (by kernel_rfl) fun hf C S K hC1 hC hS hK => ?_; simp (disch := first | omega | assumption) only [go_sem]; refine hK ?_; clear hK hS hC hC1 K S C hf) | ((first | refine zk ?_ | refine zn ?_ | refine ze ?_); with_reducible (constructor; repeat constructor); try refine zl ?_)))
      exact K_cutN ⟨_, rfl, by omega⟩
    · obtain ⟨_, hb0, rfl, rfl⟩ := h.resolve_left fun hh => hb hh.1
      (repeat (first | (refine K_ifT rfl rfl ?_) | (refine K_ifF rfl rfl ?_) | (refine K_ev nmd [] hng (by kernel_rfl) fun hf C S K hC1 hC hS hK => ?_; simp (disch := first | omega | assumption) only [go_sem]; refine hK ?_; clear hK hS hC hC1 K S C hf) | ((first | refine zk ?_ | refine zn ?_ | refine ze ?_); with_reducible (constructor; repeat constructor); try refine zl ?_)))
      exact K_cutN ⟨_, rfl, by omega⟩
  rintro s' ⟨c, rfl, hc3⟩
  (repeat (first | (refine K_ifT rfl rfl ?_) | (refine K_ifF rfl rfl ?_) | (refine K_ev nmd [] hng (by kernel_rfl) fun hf C S K hC1 hC hS hK => ?_; simp (disch := first | omega | assumption) only [go_sem]; refine hK ?_; clear hK hS hC hC1 K S C hf) | ((first | refine zk ?_ | refine zn ?_ | refine ze ?_); with_reducible (constructor; repeat constructor); try refine zl ?_)))
  refine K_loop [1, 4, 5, 6, 7, 8] (fun k s' => ∃ (i c : Nat) (done : Str) (v : AV) (M : List (Oid × AObj)), k = t.length - i ∧ i ≤ t.length ∧ 3 ≤ c ∧ done = (t.take i).flatMap (trB f g) ∧
      ((done = [] ∧ v = .nilSl ∧ M = [(.sub 0 0 x.p, .cells [.int .i64 0, .str [], .str []])]) ∨ (¬ done = [] ∧ ∃ d j, d < c ∧ v = .sl (.ty 5 (.sub d j x.p)) 1 done.length ∧ M = [(.sub 0 0 x.p, .cells [.int .i64 0, .str [], .str []]), (.ty 5 (.sub d j x.p), .arr 1 (done.map byA))])) ∧
      s' = ⟨[(1, .str t), (4, .ptr (.sub 0 0 x.p) 0), (5, .str f), (6, .str g), (7, v), (8, .int .i64 i)], Mem.of M, c, []⟩) _ ⟨0, _, [], .nilSl, _, rfl, Nat.zero_le _, by omega, rfl, .inl ⟨rfl, rfl, rfl⟩, rfl⟩ ?_
  rintro k s' ⟨i, c, done, v, M, rfl, hi, hc3, hdn, hM, rfl⟩
  have hdl : done.length ≤ 4000000 := by
    have := flat_len (trB_one f g) (t.take i)
    rw [← hdn, List.length_take] at this; omega
  (repeat (first | (refine K_ifT rfl rfl ?_) | (refine K_ifF rfl rfl ?_) | (refine K_ev nmd [] hng (by kernel_rfl) fun hf C S K hC1 hC hS hK => ?_; simp (disch := first | omega | assumption) only [go_sem]; refine hK ?_; clear hK hS hC hC1 K S C hf) | ((first | refine zk ?_ | refine zn ?_ | refine ze ?_); with_reducible (constructor; repeat constructor); try refine zl ?_)))
  refine K_ifd rfl rfl (fun hb => ?_) (fun hb => ?_)
  · have hlt : i < t.length := by omega
    have hft := flat_take (h := trB f g) hlt
    rw [← hdn] at hft
    have hkl := lastK_le f (t.getD i 0) f.length
    (repeat (first | (refine K_ifT rfl rfl ?_) | (refine K_ifF rfl rfl ?_) | (refine K_ev nmd [] hng (by kernel_rfl) fun hf C S K hC1 hC hS hK => ?_; simp (disch := first | omega | assumption) only [go_sem]; (repeat ((first | refine hC1 _ (last_ok f (t.getD i 0) hfl _) (by simp (disch := first | omega | assumption) only [go_sem]) ?_); simp (disch := first | omega | assumption) only [go_sem])); refine hK ?_; clear hK hS hC hC1 K S C hf) | ((first | refine zk ?_ | refine zn ?_ | refine ze ?_); with_reducible (constructor; repeat constructor); try refine zl ?_)))
    refine K_ifd rfl rfl (fun hb => ?_) (fun hb => ?_)
    · have htb : trB f g (t.getD i 0) = [t.getD i 0] := by rw [trB, if_pos hb]
      rw [htb] at hft
      rcases hM with ⟨rfl, rfl, rfl⟩ | ⟨hd0, d, j, hdc, rfl, rfl⟩
      · (repeat (first | (refine K_ifT rfl rfl ?_) | (refine K_ifF rfl rfl ?_) | (refine K_ev nmd [] hng (by kernel_rfl) fun hf C S K hC1 hC hS hK => ?_; simp (disch := first | omega | assumption) only [go_sem]; refine hK ?_; clear hK hS hC hC1 K S C hf) | ((first | refine zk ?_ | refine zn ?_ | refine ze ?_); with_reducible (constructor; repeat constructor); try refine zl ?_)))
        refine ⟨_, _, by omega, fun _ _ h => h, i + 1, c + 1 + 1 + 1 + 1 + 1, [] ++ [t.getD i 0], .sl (.ty 5 (.sub (c + 1 + 1 + 1) 5 x.p)) 1 ([] ++ [t.getD i 0]).length, [(.sub 0 0 x.p, .cells [.int .i64 0, .str [], .str []]), ((.ty 5 (.sub (c + 1 + 1 + 1) 5 x.p)), .arr 1 (([] ++ [t.getD i 0]).map byA))], rfl, by omega, by omega, hft.symm, .inr ⟨by simp, c + 1 + 1 + 1, 5, by omega, rfl, rfl⟩, ?_⟩
        first | rfl | (rw [List.map_append, List.length_append]; rfl)
      · (repeat (first | (refine K_ifT rfl rfl ?_) | (refine K_ifF rfl rfl ?_) | (refine K_ev nmd [] hng (by kernel_rfl) fun hf C S K hC1 hC hS hK => ?_; simp (disch := first | omega | assumption) only [go_sem]; refine hK ?_; clear hK hS hC hC1 K S C hf) | ((first | refine zk ?_ | refine zn ?_ | refine ze ?_); with_reducible (constructor; repeat constructor); try refine zl ?_)))
        refine ⟨_, _, by omega, fun _ _ h => h, i + 1, c + 1 + 1 + 1 + 1 + 1, done ++ [t.getD i 0], .sl (.ty 5 (.sub (c + 1 + 1 + 1) 5 x.p)) 1 (done ++ [t.getD i 0]).length, [(.sub 0 0 x.p, .cells [.int .i64 0, .str [], .str []]), ((.ty 5 (.sub (c + 1 + 1 + 1) 5 x.p)), .arr 1 ((done ++ [t.getD i 0]).map byA))], rfl, by omega, by omega, hft.symm, .inr ⟨by simp, c + 1 + 1 + 1, 5, by omega, rfl, rfl⟩, ?_⟩
        first | rfl | (rw [List.map_append, List.length_append]; rfl)
    · have hk0 := hb
      (repeat (first | (refine K_ifT rfl rfl ?_) | (refine K_ifF rfl rfl ?_) | (refine K_ev nmd [] hng (by kernel_rfl) fun hf C S K hC1 hC hS hK => ?_; simp (disch := first | omega | assumption) only [go_sem]; refine hK ?_; clear hK hS hC hC1 K S C hf) | ((first | refine zk ?_ | refine zn ?_ | refine ze ?_); with_reducible (constructor; repeat constructor); try refine zl ?_)))
      refine K_ifd rfl rfl (fun hb => ?_) (fun hb => ?_)
      · have htb : trB f g (t.getD i 0) = [g.getD (min (lastK f (t.getD i 0) f.length).toNat (g.length - 1)) 0] := by rw [trB, if_neg hk0, if_neg hb]
        rw [htb] at hft
        have hgp := List.length_pos_iff.2 hb
        generalize hkk : lastK f (t.getD i 0) f.length = kk at hk0 hft hkl
        have hmin : (if (g.length : Int) - 1 < kk then (g.length : Int) - 1 else kk).toNat = min kk.toNat (g.length - 1) := by split <;> omega
        rcases hM with ⟨rfl, rfl, rfl⟩ | ⟨hd0, d, j, hdc, rfl, rfl⟩
        · (repeat (first | (refine K_ifT rfl rfl ?_) | (refine K_ifF rfl rfl ?_) | (refine K_ev nmd [] hng (by kernel_rfl) fun hf C S K hC1 hC hS hK => ?_; simp (disch := first | omega | assumption) only [go_sem, hmin]; (repeat ((first | refine hC1 _ () (by simp (disch := first | omega | assumption) only [go_sem]) ?_); simp (disch := first | omega | assumption) only [go_sem])); refine hK ?_; clear hK hS hC hC1 K S C hf) | ((first | refine zk ?_ | refine zn ?_ | refine ze ?_); with_reducible (constructor; repeat constructor); try refine zl ?_)))
          refine ⟨_, _, by omega, fun _ _ h => h, i + 1, c + 1 + 1 + 1 + 1 + 1 + 1, [] ++ [g.getD (min kk.toNat (g.length - 1)) 0], .sl (.ty 5 (.sub (c + 1 + 1 + 1 + 1) 9 x.p)) 1 ([] ++ [g.getD (min kk.toNat (g.length - 1)) 0]).length, [(.sub 0 0 x.p, .cells [.int .i64 0, .str [], .str []]), ((.ty 5 (.sub (c + 1 + 1 + 1 + 1) 9 x.p)), .arr 1 (([] ++ [g.getD (min kk.toNat (g.length - 1)) 0]).map byA))], rfl, by omega, by omega, hft.symm, .inr ⟨by simp, c + 1 + 1 + 1 + 1, 9, by omega, rfl, rfl⟩, ?_⟩
          first | rfl | (rw [List.map_append, List.length_append]; rfl)
        · (repeat (first | (refine K_ifT rfl rfl ?_) | (refine K_ifF rfl rfl ?_) | (refine K_ev nmd [] hng (by kernel_rfl) fun hf C S K hC1 hC hS hK => ?_; simp (disch := first | omega | assumption) only [go_sem, hmin]; (repeat ((first | refine hC1 _ () (by simp (disch := first | omega | assumption) only [go_sem]) ?_); simp (disch := first | omega | assumption) only [go_sem])); refine hK ?_; clear hK hS hC hC1 K S C hf) | ((first | refine zk ?_ | refine zn ?_ | refine ze ?_); with_reducible (constructor; repeat constructor); try refine zl ?_)))
          refine ⟨_, _, by omega, fun _ _ h => h, i + 1, c + 1 + 1 + 1 + 1 + 1 + 1, done ++ [g.getD (min kk.toNat (g.length - 1)) 0], .sl (.ty 5 (.sub (c + 1 + 1 + 1 + 1) 9 x.p)) 1 (done ++ [g.getD (min kk.toNat (g.length - 1)) 0]).length, [(.sub 0 0 x.p, .cells [.int .i64 0, .str [], .str []]), ((.ty 5 (.sub (c + 1 + 1 + 1 + 1) 9 x.p)), .arr 1 ((done ++ [g.getD (min kk.toNat (g.length - 1)) 0]).map byA))], rfl, by omega, by omega, hft.symm, .inr ⟨by simp, c + 1 + 1 + 1 + 1, 9, by omega, rfl, rfl⟩, ?_⟩
          first | rfl | (rw [List.map_append, List.length_append]; rfl)
      · have hg0 : g = [] := Classical.not_not.1 hb
        have htb : trB f g (t.getD i 0) = [] := by rw [trB, if_neg hk0, if_pos hg0]
        rw [htb, List.append_nil] at hft
        (repeat (first | (refine K_ifT rfl rfl ?_) | (refine K_ifF rfl rfl ?_) | (refine K_ev nmd [] hng (by kernel_rfl) fun hf C S K hC1 hC hS hK => ?_; simp (disch := first | omega | assumption) only [go_sem]; refine hK ?_; clear hK hS hC hC1 K S C hf) | ((first | refine zk ?_ | refine zn ?_ | refine ze ?_); with_reducible (constructor; repeat constructor); try refine zl ?_)))
        refine ⟨_, _, by omega, fun _ _ h => h, i + 1, _, done, _, _, rfl, by omega, by omega, hft.symm, ?_, rfl⟩
        rcases hM with ⟨h1, h2, h3⟩ | ⟨h1, d, j, h2, h3, h4⟩
        · exact .inl ⟨h1, h2, h3⟩
        · exact .inr ⟨h1, d, j, by omega, h3, h4⟩
  · obtain rfl : i = t.length := by omega
    rw [List.take_length] at hdn
    rw [← hdn]
    rcases hM with ⟨rfl, rfl, rfl⟩ | ⟨hd0, d, j, hdc, rfl, rfl⟩
    · (repeat (first | (refine K_ifT rfl rfl ?_) | (refine K_ifF rfl rfl ?_) | (refine K_ev nmd [] hng (by kernel_rfl) fun hf C S K hC1 hC hS hK => ?_; simp (disch := first | omega | assumption) only [go_sem]; refine hK ?_; clear hK hS hC hC1 K S C hf) | ((first | refine zk ?_ | refine zn ?_ | refine ze ?_); with_reducible (constructor; repeat constructor); try refine zl ?_)))
      exact K_ret (done_plain (by simp (disch := first | omega | assumption) only [go_sem, Res.av, toldR, badR, usageR]))
    · have hdp := List.length_pos_iff.2 hd0
      (try ((first | refine zk ?_ | refine zn ?_ | refine ze ?_); with_reducible (constructor; repeat constructor)); try refine zl ?_)
      refine K_freeze (.ty 5 (.sub d j x.p)) 1 (done.map byA) (by simp (disch := first | omega | assumption) only [go_sem]) ?_
      simp (disch := first | omega | assumption) only [go_sem]
      (repeat (first | (refine K_ifT rfl rfl ?_) | (refine K_ifF rfl rfl ?_) | (refine K_ev nmd [] hng (by kernel_rfl) fun hf C S K hC1 hC hS hK => ?_; simp (disch := first | omega | assumption) only [go_sem]; refine hK ?_; clear hK hS hC hC1 K S C hf) | ((first | refine zk ?_ | refine zn ?_ | refine ze ?_); with_reducible (constructor; repeat constructor); try refine zl ?_)))
      exact K_ret (done_plain (by simp (disch := first | omega | assumption) only [go_sem, Res.av, toldR, badR, usageR]))
theorem tr_bad (args : List Str) (t : Str) (h : ¬ args.length = 2 ∨ ∃ a, args = [a, []] ∧ ¬ a = [45, 100]) (p : Oid) :
    CallOK Tryz.prog 36 [.list 1 (args.map AV.str), .str t] (Oid.under p) ⟨[], .tuple [badR.av, .bool false], []⟩ := by
  rcases h with h | ⟨a, rfl, ha⟩
  · have hz2 : ((args.length : Int) = 2) = False := eq_false (by omega)
    refine fnOK (n := 106) (rs := [.cell 4 32, .tmp 5]) Tryz.func36 rfl rfl (by decide) rfl rfl rfl ?_; rintro x rfl hrd hng
    (try ((first | refine zk ?_ | refine zn ?_ | refine ze ?_); with_reducible (constructor; repeat constructor)); try refine zl ?_)
    refine K_ev nmd [] hng (by kernel_rfl) fun hf C S K hC1 hC hS hK => ?_; simp (disch := first | omega | assumption) only [go_sem]
    refine hK ?_; clear hK hS hC hC1 K S C hf
    (try ((first | refine zk ?_ | refine zn ?_ | refine ze ?_); with_reducible (constructor; repeat constructor)); try refine zl ?_)
    refine K_ev nmd [(3, 18), (8, 23)] hng (by kernel_rfl) fun hf C S K hC1 hC hS hK => ?_; simp (disch := first | omega | assumption) only [go_sem, List.length_map, hz2, decide_true, decide_false, ne_eq, not_true_eq_false, not_false_eq_true]
    (repeat' (first | (refine evG_split (fun hv => ?_) (fun hv => ?_) <;> (try simp only [zb1, zb2, zb3, zb4, zb5] at hv) <;> simp (disch := first | omega | assumption) only [go_sem, hv, List.length_map, hz2, decide_true, decide_false, ne_eq, not_true_eq_false, not_false_eq_true]) | (refine hK ?_; clear hK hS hC hC1 K S C hf)))
    all_goals first | contradiction | skip
    (repeat (first | (refine K_ifT rfl rfl ?_) | (refine K_ifF rfl rfl ?_) | (refine K_ev nmd [] hng (by kernel_rfl) fun hf C S K hC1 hC hS hK => ?_; simp (disch := first | omega | assumption) only [go_sem]; (repeat ((first | refine hC1 _ (bad_x _) (by simp (disch := first | omega | assumption) only [go_sem]) ?_); simp (disch := first | omega | assumption) only [go_sem])); refine hK ?_; clear hK hS hC hC1 K S C hf) | ((first | refine zk ?_ | refine zn ?_ | refine ze ?_); with_reducible (constructor; repeat constructor); try refine zl ?_)))
    exact K_ret (done_plain (by simp (disch := first | omega | assumption) only [go_sem, Res.av, badR]))
  · refine fnOK (n := 106) (rs := [.cell 4 32, .tmp 5]) Tryz.func36 rfl rfl (by decide) rfl rfl rfl ?_; rintro x rfl hrd hng
    (try ((first | refine zk ?_ | refine zn ?_ | refine ze ?_); with_reducible (constructor; repeat constructor)); try refine zl ?_)
    refine K_ev nmd [] hng (by kernel_rfl) fun hf C S K hC1 hC hS hK => ?_; simp (disch := first | omega | assumption) only [go_sem]
    refine hK ?_; clear hK hS hC hC1 K S C hf
    (try ((first | refine zk ?_ | refine zn ?_ | refine ze ?_); with_reducible (constructor; repeat constructor)); try refine zl ?_)
    refine K_ev nmd [(3, 18), (8, 23)] hng (by kernel_rfl) fun hf C S K hC1 hC hS hK => ?_; simp (disch := first | omega | assumption) only [go_sem, ha, decide_true, decide_false, ne_eq, not_true_eq_false, not_false_eq_true]
    (repeat' (first | (refine evG_split (fun hv => ?_) (fun hv => ?_) <;> (try simp only [zb1, zb2, zb3, zb4, zb5] at hv) <;> simp (disch := first | omega | assumption) only [go_sem, hv, ha, decide_true, decide_false, ne_eq, not_true_eq_false, not_false_eq_true]) | (refine hK ?_; clear hK hS hC hC1 K S C hf)))
    all_goals first | exact absurd rfl hv | skip
    (repeat (first | (refine K_ifT rfl rfl ?_) | (refine K_ifF rfl rfl ?_) | (refine K_ev nmd [] hng (by kernel_rfl) fun hf C S K hC1 hC hS hK => ?_; simp (disch := first | omega | assumption) only [go_sem]; (repeat ((first | refine hC1 _ (bad_x _) (by simp (disch := first | omega | assumption) only [go_sem]) ?_); simp (disch := first | omega | assumption) only [go_sem])); refine hK ?_; clear hK hS hC hC1 K S C hf) | ((first | refine zk ?_ | refine zn ?_ | refine ze ?_); with_reducible (constructor; repeat constructor); try refine zl ?_)))
    exact K_ret (done_plain (by simp (disch := first | omega | assumption) only [go_sem, Res.av, badR]))
theorem translate_bad (args : List Str) (t : Str) (h : ¬ args.length = 2 ∨ ∃ a, args = [a, []] ∧ ¬ a = [45, 100]) (p : Oid) :
    CallOK Tryz.prog 47 [.list 1 (args.map AV.str), .str t] (Oid.under p) ⟨[], (usageR [116, 114]).av, []⟩ := by
  have hu := fun p => usageR_ok [116, 114] (by decide) p
  simp only [Res.av, usageR] at hu
  rcases h with h | ⟨a, rfl, ha⟩
  · have hz2 : ((args.length : Int) = 2) = False := eq_false (by omega)
    refine fnOK (n := 75) (rs := [.cell 4 32]) Tryz.func47 rfl rfl (by decide) rfl rfl rfl ?_; rintro x rfl hrd hng
    (try ((first | refine zk ?_ | refine zn ?_ | refine ze ?_); with_reducible (constructor; repeat constructor)); try refine zl ?_)
    refine K_ev nmd [] hng (by kernel_rfl) fun hf C S K hC1 hC hS hK => ?_; simp (disch := first | omega | assumption) only [go_sem]
    refine hK ?_; clear hK hS hC hC1 K S C hf
    (try ((first | refine zk ?_ | refine zn ?_ | refine ze ?_); with_reducible (constructor; repeat constructor)); try refine zl ?_)
    refine K_ev nmd [(3, 13), (8, 18)] hng (by kernel_rfl) fun hf C S K hC1 hC hS hK => ?_; simp (disch := first | omega | assumption) only [go_sem, List.length_map, hz2, decide_true, decide_false, ne_eq, not_true_eq_false, not_false_eq_true]
    (repeat' (first | (refine evG_split (fun hv => ?_) (fun hv => ?_) <;> (try simp only [zb1, zb2, zb3, zb4, zb5] at hv) <;> simp (disch := first | omega | assumption) only [go_sem, hv, List.length_map, hz2, decide_true, decide_false, ne_eq, not_true_eq_false, not_false_eq_true]) | (refine hK ?_; clear hK hS hC hC1 K S C hf)))
    all_goals first | contradiction | skip
    (repeat (first | (refine K_ifT rfl rfl ?_) | (refine K_ifF rfl rfl ?_) | (refine K_ev nmd [] hng (by kernel_rfl) fun hf C S K hC1 hC hS hK => ?_; simp (disch := first | omega | assumption) only [go_sem]; (repeat ((first | refine hC1 _ (hu _) (by simp (disch := first | omega | assumption) only [go_sem]) ?_); simp (disch := first | omega | assumption) only [go_sem])); refine hK ?_; clear hK hS hC hC1 K S C hf) | ((first | refine zk ?_ | refine zn ?_ | refine ze ?_); with_reducible (constructor; repeat constructor); try refine zl ?_)))
    exact K_ret (done_plain (by simp (disch := first | omega | assumption) only [go_sem, Res.av, toldR, badR, usageR]))
  · refine fnOK (n := 75) (rs := [.cell 4 32]) Tryz.func47 rfl rfl (by decide) rfl rfl rfl ?_; rintro x rfl hrd hng
    (try ((first | refine zk ?_ | refine zn ?_ | refine ze ?_); with_reducible (constructor; repeat constructor)); try refine zl ?_)
    refine K_ev nmd [] hng (by kernel_rfl) fun hf C S K hC1 hC hS hK => ?_; simp (disch := first | omega | assumption) only [go_sem]
    refine hK ?_; clear hK hS hC hC1 K S C hf
    (try ((first | refine zk ?_ | refine zn ?_ | refine ze ?_); with_reducible (constructor; repeat constructor)); try refine zl ?_)
    refine K_ev nmd [(3, 13), (8, 18)] hng (by kernel_rfl) fun hf C S K hC1 hC hS hK => ?_; simp (disch := first | omega | assumption) only [go_sem, ha, decide_true, decide_false, ne_eq, not_true_eq_false, not_false_eq_true]
    (repeat' (first | (refine evG_split (fun hv => ?_) (fun hv => ?_) <;> (try simp only [zb1, zb2, zb3, zb4, zb5] at hv) <;> simp (disch := first | omega | assumption) only [go_sem, hv, ha, decide_true, decide_false, ne_eq, not_true_eq_false, not_false_eq_true]) | (refine hK ?_; clear hK hS hC hC1 K S C hf)))
    all_goals first | exact absurd rfl hv | skip
    (repeat (first | (refine K_ifT rfl rfl ?_) | (refine K_ifF rfl rfl ?_) | (refine K_ev nmd [] hng (by kernel_rfl) fun hf C S K hC1 hC hS hK => ?_; simp (disch := first | omega | assumption) only [go_sem]; (repeat ((first | refine hC1 _ (hu _) (by simp (disch := first | omega | assumption) only [go_sem]) ?_); simp (disch := first | omega | assumption) only [go_sem])); refine hK ?_; clear hK hS hC hC1 K S C hf) | ((first | refine zk ?_ | refine zn ?_ | refine ze ?_); with_reducible (constructor; repeat constructor); try refine zl ?_)))
    exact K_ret (done_plain (by simp (disch := first | omega | assumption) only [go_sem, Res.av, toldR, badR, usageR]))
end Go.Proofs.YtiaiggbimlbkfaaGreatDoor
namespace Go.Proofs.YtiaiggbimlbkfaaGreatDoor
open Go Go.Ab
set_option maxRecDepth 20000
set_option maxHeartbeats 2000000
/-- Does the walk over what is out go past y, to put in x? -/
def pB (rv : Bool) (x y : Str) : Bool := (decide (y < x) != rv) || decide (y = x)
/-- Is a ahead of b? -/
def rel (rv : Bool) (a b : Str) : Prop := if rv = true then b ≤ a else a ≤ b
theorem str_le {a b : Str} : a ≤ b ↔ a < b ∨ a = b := by
  constructor
  · intro h
    by_cases he : a = b
    · exact .inr he
    · exact .inl (Std.lt_of_le_of_ne h he)
  · rintro (h | rfl)
    · exact List.le_of_lt h
    · exact List.le_refl _
theorem pB_rel {rv : Bool} {x y : Str} : pB rv x y = true ↔ rel rv y x := by
  unfold pB rel
  cases rv with
  | false => simp [str_le]
  | true =>
    have hd : (decide (y < x) != true) = decide (¬ y < x) := by by_cases h : y < x <;> simp [h]
    rw [hd, Bool.or_eq_true, decide_eq_true_eq, decide_eq_true_eq, List.not_lt, if_pos rfl]
    constructor
    · rintro (h | rfl)
      · exact h
      · exact List.le_refl _
    · intro h; exact .inl h
theorem rel_total (rv : Bool) (a b : Str) : rel rv a b ∨ rel rv b a := by
  unfold rel; cases rv
  · exact (List.le_total _ _)
  · exact (List.le_total _ _)
theorem rel_trans {rv : Bool} {a b c : Str} (h1 : rel rv a b) (h2 : rel rv b c) : rel rv a c := by
  unfold rel at *; cases rv
  · exact List.le_trans h1 h2
  · exact List.le_trans h2 h1
theorem rel_anti {rv : Bool} {a b : Str} (h1 : rel rv a b) (h2 : rel rv b a) : a = b := by
  unfold rel at *; cases rv
  · exact List.le_antisymm h1 h2
  · exact List.le_antisymm h2 h1
theorem rel_refl (rv : Bool) (a : Str) : rel rv a a := by
  unfold rel; cases rv
  · exact List.le_refl _
  · exact List.le_refl _
/-- How far the walk goes. -/
def kI (rv : Bool) (x : Str) (o : List Str) : Nat := (o.takeWhile (pB rv x)).length
def ins (rv on : Bool) (x : Str) (o : List Str) : List Str :=
  if on = true ∧ 0 < kI rv x o ∧ o.getD (kI rv x o - 1) default = x then o else o.take (kI rv x o) ++ x :: o.drop (kI rv x o)
def insAll (rv on : Bool) (l : List Str) : List Str := l.foldl (fun o x => ins rv on x o) []
theorem tw_len (q : Str → Bool) : ∀ o : List Str, o.take (o.takeWhile q).length = o.takeWhile q
  | [] => rfl
  | a :: o => by
    rw [List.takeWhile_cons]
    split
    · rw [List.length_cons, List.take_succ_cons, tw_len q o]
    · rfl
theorem dw_len (q : Str → Bool) : ∀ o : List Str, o.drop (o.takeWhile q).length = o.dropWhile q
  | [] => rfl
  | a :: o => by
    rw [List.takeWhile_cons, List.dropWhile_cons]
    split
    · rw [List.length_cons, List.drop_succ_cons, dw_len q o]
    · rfl
theorem tw_all (q : Str → Bool) : ∀ (o : List Str), ∀ y ∈ o.takeWhile q, q y = true
  | [], _, h => by cases h
  | a :: o, y, h => by
    rw [List.takeWhile_cons] at h
    split at h
    · rename_i ha
      rcases List.mem_cons.1 h with rfl | h
      · exact ha
      · exact tw_all q o y h
    · cases h
theorem dw_head (q : Str → Bool) : ∀ (o : List Str) z w, o.dropWhile q = z :: w → ¬ q z = true
  | [], _, _, h => by cases h
  | a :: o, z, w, h => by
    rw [List.dropWhile_cons] at h
    split at h
    · exact dw_head q o z w h
    · rename_i ha
      rw [List.cons.injEq] at h
      rw [← h.1]; exact ha
/-- Whoever stands behind the place where x goes is behind x. -/
theorem behind {rv : Bool} {x : Str} {o : List Str} (h : o.Pairwise (rel rv)) : ∀ y ∈ o.dropWhile (pB rv x), rel rv x y ∧ ¬ rel rv y x := by
  cases hd : o.dropWhile (pB rv x) with
  | nil => intro y hy; cases hy
  | cons z w =>
    have hz := dw_head _ _ _ _ hd
    rw [pB_rel] at hz
    have hxz : rel rv x z := (rel_total rv x z).resolve_right hz
    have hp : (z :: w).Pairwise (rel rv) := by
      rw [← hd]; exact h.sublist (List.dropWhile_sublist _)
    intro y hy
    rcases List.mem_cons.1 hy with rfl | hy
    · exact ⟨hxz, hz⟩
    · have hzy := (List.pairwise_cons.1 hp).1 y hy
      exact ⟨rel_trans hxz hzy, fun hyx => hz (rel_trans hzy hyx)⟩
theorem put_pair {rv : Bool} {x : Str} {o : List Str} (h : o.Pairwise (rel rv)) : (o.take (kI rv x o) ++ x :: o.drop (kI rv x o)).Pairwise (rel rv) := by
  unfold kI
  rw [tw_len, dw_len, List.pairwise_append, List.pairwise_cons]
  have hb := behind (x := x) h
  refine ⟨h.sublist (List.takeWhile_sublist _), ⟨fun y hy => (hb y hy).1, h.sublist (List.dropWhile_sublist _)⟩, fun y hy z hz => ?_⟩
  have hyx := pB_rel.1 (tw_all _ _ y hy)
  rcases List.mem_cons.1 hz with rfl | hz
  · exact hyx
  · exact rel_trans hyx (hb z hz).1
theorem put_perm (rv : Bool) (x : Str) (o : List Str) : (o.take (kI rv x o) ++ x :: o.drop (kI rv x o)).Perm (x :: o) := by
  refine List.perm_middle.trans ?_
  rw [List.take_append_drop]
theorem insAll_off (rv : Bool) : ∀ (l o : List Str), o.Pairwise (rel rv) → (l.foldl (fun o x => ins rv false x o) o).Pairwise (rel rv) ∧ (l.foldl (fun o x => ins rv false x o) o).Perm (o ++ l)
  | [], o, h => ⟨h, by rw [List.append_nil]; exact List.Perm.refl _⟩
  | x :: l, o, h => by
    have he : ins rv false x o = o.take (kI rv x o) ++ x :: o.drop (kI rv x o) := by rw [ins, if_neg (fun h => Bool.false_ne_true h.1)]
    rw [List.foldl_cons, he]
    have ih := insAll_off rv l _ (put_pair (x := x) h)
    refine ⟨ih.1, ih.2.trans ?_⟩
    refine ((put_perm rv x o).append_right l).trans ?_
    rw [List.cons_append]
    exact List.perm_middle.symm
/-- No two are the same. -/
def strict (rv : Bool) (o : List Str) : Prop := o.Pairwise (rel rv) ∧ o.Nodup
/-- x is there just if it stands right ahead of its place. -/
theorem there {rv : Bool} {x : Str} {o : List Str} (h : strict rv o) : (0 < kI rv x o ∧ o.getD (kI rv x o - 1) default = x) ↔ x ∈ o := by
  unfold kI
  have hsp : o.takeWhile (pB rv x) ++ o.dropWhile (pB rv x) = o := List.takeWhile_append_dropWhile
  constructor
  · rintro ⟨h0, he⟩
    have hl : (o.takeWhile (pB rv x)).length ≤ o.length := (List.takeWhile_sublist _).length_le
    rw [← he, List.getD_eq_getElem?_getD, List.getElem?_eq_getElem (by omega)]
    exact List.getElem_mem _
  · intro hx
    have hx1 : x ∈ o.takeWhile (pB rv x) := by
      rw [← hsp] at hx
      rcases List.mem_append.1 hx with hx | hx
      · exact hx
      · exact absurd (rel_refl rv x) (behind h.1 x hx).2
    obtain ⟨a, b, hab⟩ := List.append_of_mem hx1
    have hb : b = [] := by
      cases b with
      | nil => rfl
      | cons y b =>
        have h2 : strict rv (o.takeWhile (pB rv x)) := ⟨h.1.sublist (List.takeWhile_sublist _), h.2.sublist (List.takeWhile_sublist _)⟩
        have hyx := pB_rel.1 (tw_all (pB rv x) o y (by rw [hab]; simp))
        rw [hab] at h2
        have h3 := (List.pairwise_cons.1 (List.pairwise_append.1 h2.1).2.1).1 y List.mem_cons_self
        have h4 := (List.nodup_cons.1 (List.nodup_append.1 h2.2).2.1).1
        exact absurd (by rw [rel_anti hyx h3]; exact List.mem_cons_self) h4
    subst hb
    have hlen : (o.takeWhile (pB rv x)).length = a.length + 1 := by rw [hab]; simp
    refine ⟨by omega, ?_⟩
    rw [hlen, Nat.add_sub_cancel]
    conv => lhs; rw [← hsp, hab]
    simp
theorem ins_on {rv : Bool} {x : Str} {o : List Str} (h : strict rv o) : strict rv (ins rv true x o) ∧ ∀ y, y ∈ ins rv true x o ↔ y ∈ o ∨ y = x := by
  have ht := there (x := x) h
  by_cases hx : x ∈ o
  · have he : ins rv true x o = o := by rw [ins, if_pos ⟨rfl, ht.2 hx⟩]
    rw [he]
    exact ⟨h, fun y => ⟨.inl, fun hy => hy.elim id fun e => e ▸ hx⟩⟩
  · have he : ins rv true x o = o.take (kI rv x o) ++ x :: o.drop (kI rv x o) := by rw [ins, if_neg (fun h => hx (ht.1 h.2))]
    rw [he]
    have hp := put_perm rv x o
    refine ⟨⟨put_pair h.1, hp.nodup_iff.2 (List.nodup_cons.2 ⟨hx, h.2⟩)⟩, fun y => ?_⟩
    rw [hp.mem_iff, List.mem_cons]; exact Or.comm
theorem insAll_on (rv : Bool) : ∀ (l o : List Str), strict rv o → strict rv (l.foldl (fun o x => ins rv true x o) o) ∧ ∀ y, y ∈ l.foldl (fun o x => ins rv true x o) o ↔ y ∈ o ∨ y ∈ l
  | [], o, h => ⟨h, fun y => by simp⟩
  | x :: l, o, h => by
    have h1 := ins_on (x := x) h
    have ih := insAll_on rv l _ h1.1
    rw [List.foldl_cons]
    refine ⟨ih.1, fun y => ?_⟩
    rw [ih.2, h1.2, List.mem_cons, or_assoc]
theorem arr_get (l : List Str) {m : Nat} (h : m < l.length) : l.toArray[m]! = l.getD m default := by
  simp [List.getD_eq_getElem?_getD, List.getElem?_eq_getElem h, h]
theorem compact_pairs {l : List Str} (h : l.Pairwise (rel false)) : ∀ m, m ≤ l.length → strict false (Lib.compactUpTo l.toArray m) ∧ (∀ y, y ∈ Lib.compactUpTo l.toArray m ↔ y ∈ l.take m) ∧ ∀ y ∈ Lib.compactUpTo l.toArray m, 0 < m ∧ rel false y (l.getD (m - 1) default)
  | 0, _ => ⟨⟨List.Pairwise.nil, List.nodup_nil⟩, fun y => by simp [Lib.compactUpTo], fun y hy => by simp [Lib.compactUpTo] at hy⟩
  | m + 1, hm => by
    have hml : m < l.length := by omega
    obtain ⟨⟨i1, i2⟩, i3, i4⟩ := compact_pairs h m (by omega)
    have hstep : ∀ y ∈ Lib.compactUpTo l.toArray m, rel false y (l.getD m default) := fun y hy => by
      obtain ⟨h0, h1⟩ := i4 y hy
      refine rel_trans h1 ?_
      have := List.pairwise_iff_getElem.1 h (m - 1) m (by omega) hml (by omega)
      rwa [List.getD_eq_getElem?_getD, List.getElem?_eq_getElem (by omega), List.getD_eq_getElem?_getD, List.getElem?_eq_getElem hml]
    have hmem : ∀ y, y ∈ l.take (m + 1) ↔ y ∈ l.take m ∨ y = l.getD m default := fun y => by
      rw [List.take_add_one, List.mem_append, List.getD_eq_getElem?_getD, List.getElem?_eq_getElem hml]; simp
    rw [Lib.compactUpTo_succ, arr_get l hml]
    by_cases hk : Lib.keeps l.toArray m = true
    · rw [if_pos hk]
      have hnot : l.getD m default ∉ Lib.compactUpTo l.toArray m := fun hin => by
        obtain ⟨h0, h1⟩ := i4 _ hin
        simp only [Lib.keeps, decide_eq_true_eq] at hk
        rcases hk with hk | hk
        · omega
        · rw [arr_get l hml, arr_get l (by omega)] at hk
          have h2 : rel false (l.getD (m - 1) default) (l.getD m default) := by
            have := List.pairwise_iff_getElem.1 h (m - 1) m (by omega) hml (by omega)
            rwa [List.getD_eq_getElem?_getD, List.getElem?_eq_getElem (by omega), List.getD_eq_getElem?_getD, List.getElem?_eq_getElem hml]
          exact hk (rel_anti h1 h2)
      refine ⟨⟨?_, ?_⟩, fun y => ?_, fun y hy => ⟨by omega, ?_⟩⟩
      · rw [List.pairwise_append]
        exact ⟨i1, List.pairwise_singleton _ _, fun a ha b hb => by rw [List.mem_singleton.1 hb]; exact hstep a ha⟩
      · rw [List.nodup_append]
        exact ⟨i2, by simp, fun a ha b hb => by rw [List.mem_singleton.1 hb]; exact fun e => hnot (e ▸ ha)⟩
      · rw [List.mem_append, i3, hmem, List.mem_singleton]
      · rw [Nat.add_sub_cancel]
        rcases List.mem_append.1 hy with hy | hy
        · exact hstep y hy
        · rw [List.mem_singleton.1 hy]; exact rel_refl _ _
    · rw [if_neg hk, List.append_nil]
      have h0 : ¬ m = 0 := fun e => hk (by simp [Lib.keeps, e])
      have he : l.getD m default = l.getD (m - 1) default := by
        simp only [Lib.keeps, decide_eq_true_eq, not_or, ne_eq, Classical.not_not] at hk
        have := hk.2
        rwa [arr_get l hml, arr_get l (by omega)] at this
      refine ⟨⟨i1, i2⟩, fun y => ?_, fun y hy => ⟨by omega, ?_⟩⟩
      · rw [i3, hmem]
        refine ⟨.inl, fun h => h.elim id fun e => ?_⟩
        have : l.getD (m - 1) default ∈ l.take m := by
          rw [List.getD_eq_getElem?_getD, List.getElem?_eq_getElem (by omega)]
          exact List.mem_take_iff_getElem.2 ⟨m - 1, by omega, rfl⟩
        rw [e, he]; exact this
      · rw [Nat.add_sub_cancel]; exact hstep y hy
theorem compact_strict {l : List Str} (h : l.Pairwise (rel false)) : strict false (Lib.compact l) ∧ ∀ y, y ∈ Lib.compact l ↔ y ∈ l := by
  have := compact_pairs h l.length (Nat.le_refl _)
  rw [List.take_length] at this
  exact ⟨this.1, this.2.1⟩
theorem sortS_pair (l : List Str) : (sortS l).Pairwise (rel false) := by
  have h := List.pairwise_mergeSort (le := fun x y : Str => decide (x ≤ y)) (fun a b c h1 h2 => by
      rw [decide_eq_true_eq] at *; exact List.le_trans h1 h2) (fun a b => by
      rw [Bool.or_eq_true, decide_eq_true_eq, decide_eq_true_eq]; exact (List.le_total _ _)) l
  refine h.imp ?_
  intro a b hab
  show a ≤ b
  simpa using hab
theorem rev_pair {l : List Str} (h : l.Pairwise (rel false)) : l.reverse.Pairwise (rel true) := by
  rw [List.pairwise_reverse]
  refine h.imp ?_
  intro a b hab; exact hab
theorem one_row {rv : Bool} {a b : List Str} (ha : a.Pairwise (rel rv)) (hb : b.Pairwise (rel rv)) (hp : a.Perm b) : a = b :=
  List.Perm.eq_of_pairwise (le := rel rv) (fun _ _ _ _ h3 h4 => rel_anti h3 h4) ha hb hp
theorem one_set {rv : Bool} {a b : List Str} (ha : strict rv a) (hb : strict rv b) (hm : ∀ y, y ∈ a ↔ y ∈ b) : a = b :=
  one_row ha.1 hb.1 ((List.perm_ext_iff_of_nodup ha.2 hb.2).2 hm)
theorem rev_strict {l : List Str} (h : strict false l) : strict true l.reverse := ⟨rev_pair h.1, (List.reverse_perm l).nodup_iff.2 h.2⟩
/-- The reference's row is the program's. -/
theorem insAll_row (rv on : Bool) (l : List Str) : insAll rv on l = if rv = true then (if on = true then Lib.compact (sortS l) else sortS l).reverse else if on = true then Lib.compact (sortS l) else sortS l := by
  have hp := sortS_pair l
  have hm : ∀ y, y ∈ sortS l ↔ y ∈ l := fun y => (sortS_perm l).mem_iff
  unfold insAll
  cases on with
  | false =>
    have h1 := insAll_off rv l [] List.Pairwise.nil
    rw [List.nil_append] at h1
    cases rv with
    | false => simpa using one_row h1.1 hp (h1.2.trans (sortS_perm l).symm)
    | true => simpa using one_row h1.1 (rev_pair hp) (h1.2.trans ((List.reverse_perm _).trans (sortS_perm l)).symm)
  | true =>
    have h1 := insAll_on rv l [] ⟨List.Pairwise.nil, List.nodup_nil⟩
    have hc := compact_strict hp
    cases rv with
    | false => simpa using one_set h1.1 hc.1 (fun y => by rw [h1.2, hc.2, hm]; simp)
    | true => simpa using one_set h1.1 (rev_strict hc.1) (fun y => by rw [h1.2, List.mem_reverse, hc.2, hm]; simp)
end Go.Proofs.YtiaiggbimlbkfaaGreatDoor
namespace Go.Proofs.YtiaiggbimlbkfaaGreatDoor
open Go Go.Ab
set_option maxRecDepth 20000
set_option maxHeartbeats 4000000
theorem runR_nil (t : Str) (p : Oid) : CallOK Tryz.prog 26 [.list 1 [], .str t] (Oid.under p) ⟨[], .tuple [badR.av, .bool false], []⟩ := by
  refine fnOK (n := 90) (rs := [.cell 4 32, .tmp 5]) Tryz.func26 rfl rfl (by decide) rfl rfl rfl ?_; rintro x rfl hrd hng
  (repeat (first | (refine K_ifT rfl rfl ?_) | (refine K_ifF rfl rfl ?_) | (refine K_ev nmd [] hng (by kernel_rfl) fun hf C S K hC1 hC hS hK => ?_; simp (disch := first | omega | assumption) only [go_sem]; refine hK ?_; clear hK hS hC hC1 K S C hf) | ((first | refine zk ?_ | refine zn ?_ | refine ze ?_); with_reducible (constructor; repeat constructor); try refine zl ?_)))
  exact K_ret (done_plain (by simp (disch := first | omega | assumption) only [go_sem, Res.av, toldR, badR, usageR]))
theorem runR_tr (args : List Str) (t : Str) (r : Res) (hU : ∀ p, CallOK Tryz.prog 47 [.list 1 (args.map AV.str), .str t] (Oid.under p) ⟨[], r.av, []⟩) (p : Oid) :
    CallOK Tryz.prog 26 [.list 1 ((([116, 114] : Str) :: args).map AV.str), .str t] (Oid.under p) ⟨[], .tuple [r.av, .bool true], []⟩ := by
  obtain ⟨st, out, err⟩ := r
  simp only [Res.av] at hU
  refine fnOK (n := 90) (rs := [.cell 4 32, .tmp 5]) Tryz.func26 rfl rfl (by decide) rfl rfl rfl ?_; rintro x rfl hrd hng
  (repeat (first | (refine K_ifT rfl rfl ?_) | (refine K_ifF rfl rfl ?_) | (refine K_ev nmd [] hng (by kernel_rfl) fun hf C S K hC1 hC hS hK => ?_; simp (disch := first | omega | assumption) only [go_sem]; refine hK ?_; clear hK hS hC hC1 K S C hf) | ((first | refine zk ?_ | refine zn ?_ | refine ze ?_); with_reducible (constructor; repeat constructor); try refine zl ?_)))
  refine K_evd nmd [] [] mixed hng (by kernel_rfl) [1, 4, 6, 7] fun hf C S K hC hS hK => ?_; simp (disch := first | omega | assumption) only [go_sem]
  (first | refine hK (dynN_quiet rfl) ?_ | refine hK (by simp (disch := first | omega | assumption) only [go_sem, List.reverse_cons, List.reverse_nil, ne_eq, not_false_eq_true, implies_true]) ?_); clear hK hS hC K S C hf
  (repeat (first | (refine K_ifT rfl rfl ?_) | (refine K_ifF rfl rfl ?_) | (refine K_ev nmd [] hng (by kernel_rfl) fun hf C S K hC1 hC hS hK => ?_; simp (disch := first | omega | assumption) only [go_sem]; (repeat ((first | refine hC1 _ (hU _) (by simp (disch := first | omega | assumption) only [go_sem]) ?_); simp (disch := first | omega | assumption) only [go_sem])); refine hK ?_; clear hK hS hC hC1 K S C hf) | ((first | refine zk ?_ | refine zn ?_ | refine ze ?_); with_reducible (constructor; repeat constructor); try refine zl ?_)))
  exact K_ret (done_plain (by simp (disch := first | omega | assumption) only [go_sem, Res.av, toldR, badR, usageR]))
theorem same_of (argv : List Str) (t : Str) (r : Res) (ok : Bool) (hP : ∀ p, p.mono = false → CallOK Tryz.prog 19 [.list 1 (argv.map AV.str), .str t] (Oid.under p) ⟨[], .tuple [r.av, .bool ok], []⟩)
    (hQ : ∀ p, CallOK Tryz.prog 26 [.list 1 (argv.map AV.str), .str t] (Oid.under p) ⟨[], .tuple [r.av, .bool ok], []⟩) (p : Oid) (hp : p.mono = false) :
    CallOK Tryz.prog 17 [.list 1 (argv.map AV.str), .str t] (Oid.under p) ⟨[], .bool true, []⟩ := by
  obtain ⟨st, out, err⟩ := r
  simp only [Res.av] at hP hQ
  refine fnOK (n := 29) (rs := [.tmp 4]) Tryz.func17 rfl rfl (by decide) rfl rfl rfl ?_; rintro x rfl hrd hng
  (repeat (first | (refine K_ifT rfl rfl ?_) | (refine K_ifF rfl rfl ?_) | (refine K_ev nmd [] hng (by kernel_rfl) fun hf C S K hC1 hC hS hK => ?_; simp (disch := first | omega | assumption) only [go_sem]; (repeat ((first | refine hC1 _ (hP _ (mono_sub' rfl hp)) (by simp (disch := first | omega | assumption) only [go_sem]) ?_ | refine hC1 _ (hQ _) (by simp (disch := first | omega | assumption) only [go_sem]) ?_); simp (disch := first | omega | assumption) only [go_sem])); refine hK ?_; clear hK hS hC hC1 K S C hf) | ((first | refine zk ?_ | refine zn ?_ | refine ze ?_); with_reducible (constructor; repeat constructor); try refine zl ?_)))
  refine K_ev nmd [(3, 24)] hng (by kernel_rfl) fun hf C S K hC1 hC hS hK => ?_; simp (disch := first | omega | assumption) only [go_sem, decide_true, decide_false, ne_eq, not_true_eq_false, not_false_eq_true]
  (repeat' (first | (refine evG_split (fun hv => ?_) (fun hv => ?_) <;> (try simp only [zb1, zb2, zb3, zb4, zb5] at hv) <;> simp (disch := first | omega | assumption) only [go_sem, hv, decide_true, decide_false, ne_eq, not_true_eq_false, not_false_eq_true]) | (refine hK ?_; clear hK hS hC hC1 K S C hf)))
  (repeat (first | (refine K_ifT rfl rfl ?_) | (refine K_ifF rfl rfl ?_) | (refine K_ev nmd [] hng (by kernel_rfl) fun hf C S K hC1 hC hS hK => ?_; simp (disch := first | omega | assumption) only [go_sem]; refine hK ?_; clear hK hS hC hC1 K S C hf) | ((first | refine zk ?_ | refine zn ?_ | refine ze ?_); with_reducible (constructor; repeat constructor); try refine zl ?_)))
  exact K_ret (done1 rfl)
theorem cut_none (t : Str) (p : Oid) : CallOK Tryz.prog 35 [.list 1 [], .str t] (Oid.under p) ⟨[], .tuple [badR.av, .bool false], []⟩ := by
  refine fnOK (n := 93) (rs := [.cell 4 32, .tmp 5]) Tryz.func35 rfl rfl (by decide) rfl rfl rfl ?_; rintro x rfl hrd hng
  (try ((first | refine zk ?_ | refine zn ?_ | refine ze ?_); with_reducible (constructor; repeat constructor)); try refine zl ?_)
  refine K_ev nmd [] hng (by kernel_rfl) fun hf C S K hC1 hC hS hK => ?_; simp (disch := first | omega | assumption) only [go_sem]
  refine hK ?_; clear hK hS hC hC1 K S C hf
  (try ((first | refine zk ?_ | refine zn ?_ | refine ze ?_); with_reducible (constructor; repeat constructor)); try refine zl ?_)
  refine K_ev nmd [(3, 15), (9, 21), (16, 28)] hng (by kernel_rfl) fun hf C S K hC1 hC hS hK => ?_; simp (disch := first | omega | assumption) only [go_sem, decide_true, decide_false, ne_eq, not_true_eq_false, not_false_eq_true]
  (repeat' (first | (refine evG_split (fun hv => ?_) (fun hv => ?_) <;> (try simp only [zb1, zb2, zb3, zb4, zb5] at hv) <;> simp (disch := first | omega | assumption) only [go_sem, hv, decide_true, decide_false, ne_eq, not_true_eq_false, not_false_eq_true]) | (refine hK ?_; clear hK hS hC hC1 K S C hf)))
  all_goals first | contradiction | skip
  (repeat (first | (refine K_ifT rfl rfl ?_) | (refine K_ifF rfl rfl ?_) | (refine K_ev nmd [] hng (by kernel_rfl) fun hf C S K hC1 hC hS hK => ?_; simp (disch := first | omega | assumption) only [go_sem]; (repeat ((first | refine hC1 _ (bad_x _) (by simp (disch := first | omega | assumption) only [go_sem]) ?_); simp (disch := first | omega | assumption) only [go_sem])); refine hK ?_; clear hK hS hC hC1 K S C hf) | ((first | refine zk ?_ | refine zn ?_ | refine ze ?_); with_reducible (constructor; repeat constructor); try refine zl ?_)))
  exact K_ret (done_plain (by simp (disch := first | omega | assumption) only [go_sem, Res.av, badR]))
theorem run_sort_b (p : Oid) (hp : p.mono = false) : CallOK Tryz.prog 19 [.list 1 [.str [115, 111, 114, 116], .str [45, 114]], .str [98, 10, 97]] (Oid.under p) ⟨[], .tuple [.agg [.int .i64 0, .str [98, 10, 97, 10], .str []], .bool true], []⟩ := by
  have h := run_any [115, 111, 114, 116] (by decide) [[45, 114]] [98, 10, 97] 33 (by kernel_rfl) (by kernel_rfl) (toldR (joinN (sortRow [[45, 114]] [98, 10, 97]))) true p (fun p _ => sort_ok _ (by decide) _ (by decide) (by kernel_rfl) p) hp
  have e : joinN (sortRow [[45, 114]] [98, 10, 97]) = [98, 10, 97, 10] := by
    unfold sortRow
    rw [← insAll_row]
    kernel_rfl
  rw [e] at h
  exact h
theorem run_tr_abd (p : Oid) (hp : p.mono = false) : CallOK Tryz.prog 19 [.list 1 [.str [116, 114], .str [97, 45, 99], .str [120]], .str [97, 98, 100]] (Oid.under p) ⟨[], .tuple [.agg [.int .i64 0, .str [120, 120, 100], .str []], .bool true], []⟩ := by
  have h := run_any [116, 114] (by decide) [[97, 45, 99], [120]] [97, 98, 100] 36 (by kernel_rfl) (by kernel_rfl) (toldR ([97, 98, 100].flatMap (trB (setP [97, 45, 99]) (setP [120])))) true p (fun p _ => tr_ok _ _ _ _ _ (.inr ⟨by decide, by decide, rfl, rfl⟩) (by decide) (by decide) (by decide) p) hp
  have e : ([97, 98, 100] : Str).flatMap (trB (setP [97, 45, 99]) (setP [120])) = [120, 120, 100] := by kernel_rfl
  rw [e] at h
  exact h
theorem run_cut_0 (p : Oid) (hp : p.mono = false) : CallOK Tryz.prog 19 [.list 1 [.str [99, 117, 116]], .str []] (Oid.under p) ⟨[], .tuple [.agg [.int .i64 2, .str [], .str [99, 117, 116, 58, 32, 117, 115, 97, 103, 101, 10]], .bool true], []⟩ :=
  run_any [99, 117, 116] (by decide) [] [] 35 (by kernel_rfl) (by kernel_rfl) badR false p (fun p _ => cut_none [] p) hp
theorem run_none_0 (p : Oid) : CallOK Tryz.prog 19 [.list 1 [.str [110, 111, 110, 101]], .str []] (Oid.under p) ⟨[], .tuple [.agg [.int .i64 0, .str [], .str []], .bool false], []⟩ :=
  run_none [110, 111, 110, 101] [] [] (by kernel_rfl) p
theorem awake_ok (p : Oid) (hp : p.mono = false) : CallOK Tryz.prog 15 [] (Oid.under p) ⟨[], .bool true, []⟩ := by
  refine fnOK (n := 55) (rs := [.tmp 0]) Tryz.func15 rfl rfl (by decide) rfl rfl rfl ?_; rintro x rfl hrd hng
  (repeat (first | (refine K_ifT rfl rfl ?_) | (refine K_ifF rfl rfl ?_) | (refine K_ev nmd [] hng (by kernel_rfl) fun hf C S K hC1 hC hS hK => ?_; simp (disch := first | omega | assumption) only [go_sem]; (repeat ((first | refine hC1 _ (run_sort_b _ (mono_sub' rfl hp)) (by simp (disch := first | omega | assumption) only [go_sem]) ?_ | refine hC1 _ (run_tr_abd _ (mono_sub' rfl hp)) (by simp (disch := first | omega | assumption) only [go_sem]) ?_ | refine hC1 _ (run_cut_0 _ (mono_sub' rfl hp)) (by simp (disch := first | omega | assumption) only [go_sem]) ?_ | refine hC1 _ (run_none_0 _) (by simp (disch := first | omega | assumption) only [go_sem]) ?_); simp (disch := first | omega | assumption) only [go_sem])); refine hK ?_; clear hK hS hC hC1 K S C hf) | ((first | refine zk ?_ | refine zn ?_ | refine ze ?_); with_reducible (constructor; repeat constructor); try refine zl ?_)))
  refine K_ev nmd [(1, 30), (6, 35), (9, 38), (14, 43), (17, 46), (22, 51)] hng (by kernel_rfl) fun hf C S K hC1 hC hS hK => ?_; simp (disch := first | omega | assumption) only [go_sem, decide_true, decide_false, ne_eq, not_true_eq_false, not_false_eq_true]
  (repeat' (first | (refine evG_split (fun hv => ?_) (fun hv => ?_) <;> (try simp only [zb1, zb2, zb3, zb4, zb5] at hv) <;> simp (disch := first | omega | assumption) only [go_sem, hv, decide_true, decide_false, ne_eq, not_true_eq_false, not_false_eq_true]) | (refine hK ?_; clear hK hS hC hC1 K S C hf)))
  (repeat (first | (refine K_ifT rfl rfl ?_) | (refine K_ifF rfl rfl ?_) | (refine K_ev nmd [] hng (by kernel_rfl) fun hf C S K hC1 hC hS hK => ?_; simp (disch := first | omega | assumption) only [go_sem]; refine hK ?_; clear hK hS hC hC1 K S C hf) | ((first | refine zk ?_ | refine zn ?_ | refine ze ?_); with_reducible (constructor; repeat constructor); try refine zl ?_)))
  exact K_ret (done1 rfl)
end Go.Proofs.YtiaiggbimlbkfaaGreatDoor
namespace Go.Proofs.YtiaiggbimlbkfaaGreatDoor
open Go Go.Ab
set_option maxRecDepth 20000
set_option maxHeartbeats 4000000
theorem tr_cases (args : List Str) : (∃ a b, args = [a, b] ∧ (a = [45, 100] ∨ ¬ b = [])) ∨ (¬ args.length = 2 ∨ ∃ a, args = [a, []] ∧ ¬ a = [45, 100]) := by
  match args with
  | [] => exact .inr (.inl (by simp))
  | [a] => exact .inr (.inl (by simp))
  | [a, b] =>
    by_cases ha : a = [45, 100]
    · exact .inl ⟨a, b, rfl, .inl ha⟩
    · by_cases hb : b = []
      · subst hb; exact .inr (.inr ⟨a, rfl, ha⟩)
      · exact .inl ⟨a, b, rfl, .inr hb⟩
  | a :: b :: c :: r => exact .inr (.inl (by simp))
theorem same_tr (args : List Str) (t : Str) (ha : ∀ s ∈ args, s.length ≤ 4000000) (ht : t.length ≤ 4000000) (p : Oid) (hp : p.mono = false) :
    CallOK Tryz.prog 17 [.list 1 ((([116, 114] : Str) :: args).map AV.str), .str t] (Oid.under p) ⟨[], .bool true, []⟩ := by
  rcases tr_cases args with ⟨a, b, rfl, hc⟩ | h
  · have hal := ha a (by simp)
    have hbl := ha b (by simp)
    have hx : ∃ f g, (a = [45, 100] ∧ f = setP b ∧ g = []) ∨ (¬ a = [45, 100] ∧ ¬ b = [] ∧ f = setP a ∧ g = setP b) := by
      by_cases h1 : a = [45, 100]
      · exact ⟨_, _, .inl ⟨h1, rfl, rfl⟩⟩
      · exact ⟨_, _, .inr ⟨h1, hc.resolve_left h1, rfl, rfl⟩⟩
    obtain ⟨f, g, hfg⟩ := hx
    exact same_of _ t _ true (fun p hp => run_any [116, 114] (by decide) [a, b] t 36 (by kernel_rfl) (by kernel_rfl) (toldR (t.flatMap (trB f g))) true p (fun p _ => tr_ok a b t f g hfg hal hbl ht p) hp)
      (fun p => runR_tr [a, b] t _ (fun p => translate_ok a b t f g hfg hal hbl ht p) p) p hp
  · exact same_of _ t _ true (fun p hp => run_any [116, 114] (by decide) args t 36 (by kernel_rfl) (by kernel_rfl) badR false p (fun p _ => tr_bad args t h p) hp)
      (fun p => runR_tr args t _ (fun p => translate_bad args t h p) p) p hp
end Go.Proofs.YtiaiggbimlbkfaaGreatDoor
namespace Go.Proofs.YtiaiggbimlbkfaaGreatDoor
open Go Go.Ab
set_option maxRecDepth 20000
set_option maxHeartbeats 4000000
/-- The number of lines that arguments ask for; below nought: they may not be. -/
def manyN (args : List Str) : Int :=
  match args with
  | [] => 10
  | [a, b] => if a = [45, 110] then refN b else -1
  | _ => -1
def manyV (args : List Str) : Int :=
  match args with
  | [] => 10
  | [a, b] => if a = [45, 110] then atoiN b else 0
  | _ => 0
theorem manyV_eq {args : List Str} (h : 0 ≤ manyN args) : manyV args = manyN args := by
  unfold manyN at h
  unfold manyN manyV
  split
  · rfl
  · rename_i a b
    simp only at h
    by_cases ha : a = [45, 110]
    · rw [if_pos ha] at h; rw [if_pos ha, if_pos ha]
      exact (num_ref b).2 (by rw [(num_ref b).1, decide_eq_true h])
    · rw [if_neg ha] at h; omega
  · rename_i h1 h2
    split at h
    · exact absurd rfl h1
    · exact absurd rfl (h2 _ _)
    · omega
theorem refN_le (s : Str) : refN s ≤ 9223372036854775807 := by
  have := num_ref s
  have hb := atoiN_bounds s
  by_cases h : 0 ≤ refN s
  · rw [decide_eq_true h] at this; rw [← this.2 this.1]; exact hb.2
  · omega
theorem manyN_le (args : List Str) : manyN args ≤ 9223372036854775807 := by
  unfold manyN
  split
  · omega
  · split
    · exact refN_le _
    · omega
  · omega
theorem many_cases (args : List Str) : args = [] ∨ (∃ a b, args = [a, b]) ∨ (¬ args.length = 0 ∧ ¬ args.length = 2 ∧ manyN args = -1 ∧ manyV args = 0) := by
  match args with
  | [] => exact .inl rfl
  | [a] => exact .inr (.inr ⟨by simp, by simp, rfl, rfl⟩)
  | [a, b] => exact .inr (.inl ⟨a, b, rfl⟩)
  | a :: b :: c :: r => exact .inr (.inr ⟨by simp, by simp, rfl, rfl⟩)
theorem many_ok (args : List Str) (ha : ∀ s ∈ args, s.length ≤ 4000000) (p : Oid) (hp : p.mono = false) :
    CallOK Tryz.prog 54 [.list 1 (args.map AV.str)] (Oid.under p) ⟨[], .tuple [.int .i64 (manyV args), .bool (decide (0 ≤ manyN args))], []⟩ := by
  rcases many_cases args with rfl | ⟨a, b, rfl⟩ | ⟨h0, h2, hn, hv0⟩
  · refine fnOK (n := 24) (rs := [.tmp 2, .tmp 3]) Tryz.func54 rfl rfl (by decide) rfl rfl rfl ?_; rintro x rfl hrd hng
    (repeat (first | (refine K_ifT rfl rfl ?_) | (refine K_ifF rfl rfl ?_) | (refine K_ev nmd [] hng (by kernel_rfl) fun hf C S K hC1 hC hS hK => ?_; simp (disch := first | omega | assumption) only [go_sem]; refine hK ?_; clear hK hS hC hC1 K S C hf) | ((first | refine zk ?_ | refine zn ?_ | refine ze ?_); with_reducible (constructor; repeat constructor); try refine zl ?_)))
    exact K_ret (done_plain rfl)
  · have hbl := ha b (by simp)
    have hd : decide (0 ≤ refN b) = numG b := (num_ref b).1.symm
    refine fnOK (n := 24) (rs := [.tmp 2, .tmp 3]) Tryz.func54 rfl rfl (by decide) rfl rfl rfl ?_; rintro x rfl hrd hng
    (repeat (first | (refine K_ifT rfl rfl ?_) | (refine K_ifF rfl rfl ?_) | (refine K_ev nmd [] hng (by kernel_rfl) fun hf C S K hC1 hC hS hK => ?_; simp (disch := first | omega | assumption) only [go_sem]; refine hK ?_; clear hK hS hC hC1 K S C hf) | ((first | refine zk ?_ | refine zn ?_ | refine ze ?_); with_reducible (constructor; repeat constructor); try refine zl ?_)))
    refine K_cut [0, 8] (fun s' => s' = ⟨[(0, .list 1 [.str a, .str b]), (8, .bool (decide (a = [45, 110])))], Mem.of [], 0 + 1 + 1 + 1, []⟩) ?_ ?_
    · refine K_ev nmd [(3, 12)] hng (by kernel_rfl) fun hf C S K hC1 hC hS hK => ?_; simp (disch := first | omega | assumption) only [go_sem, decide_true, decide_false, ne_eq, not_true_eq_false, not_false_eq_true]
      (repeat' (first | (refine evG_split (fun hv => ?_) (fun hv => ?_) <;> (try simp only [zb1, zb2, zb3, zb4, zb5] at hv) <;> simp (disch := first | omega | assumption) only [go_sem, hv, decide_true, decide_false, ne_eq, not_true_eq_false, not_false_eq_true]) | (refine hK ?_; clear hK hS hC hC1 K S C hf)))
      all_goals first | exact absurd rfl hv | exact K_cutN rfl
    rintro s' rfl
    refine K_ifd rfl rfl (fun hb => ?_) (fun hb => ?_)
    · rw [show manyV [a, b] = atoiN b by simp only [manyV, if_pos hb], show manyN [a, b] = refN b by simp only [manyN, if_pos hb], hd]
      (repeat (first | (refine K_ifT rfl rfl ?_) | (refine K_ifF rfl rfl ?_) | (refine K_ev nmd [] hng (by kernel_rfl) fun hf C S K hC1 hC hS hK => ?_; simp (disch := first | omega | assumption) only [go_sem]; (repeat ((first | refine hC1 _ (number_ok b (by omega) _ (mono_sub' rfl hp)) (by simp (disch := first | omega | assumption) only [go_sem]) ?_); simp (disch := first | omega | assumption) only [go_sem])); refine hK ?_; clear hK hS hC hC1 K S C hf) | ((first | refine zk ?_ | refine zn ?_ | refine ze ?_); with_reducible (constructor; repeat constructor); try refine zl ?_)))
      exact K_ret (done_plain rfl)
    · rw [show manyV [a, b] = 0 by simp only [manyV, if_neg hb], show manyN [a, b] = -1 by simp only [manyN, if_neg hb]]
      (repeat (first | (refine K_ifT rfl rfl ?_) | (refine K_ifF rfl rfl ?_) | (refine K_ev nmd [] hng (by kernel_rfl) fun hf C S K hC1 hC hS hK => ?_; simp (disch := first | omega | assumption) only [go_sem]; refine hK ?_; clear hK hS hC hC1 K S C hf) | ((first | refine zk ?_ | refine zn ?_ | refine ze ?_); with_reducible (constructor; repeat constructor); try refine zl ?_)))
      exact K_ret (done_plain rfl)
  · rw [hn, hv0]
    have hz : ((args.length : Int) = 0) = False := eq_false (by omega)
    have hz2 : ((args.length : Int) = 2) = False := eq_false (by omega)
    refine fnOK (n := 24) (rs := [.tmp 2, .tmp 3]) Tryz.func54 rfl rfl (by decide) rfl rfl rfl ?_; rintro x rfl hrd hng
    (repeat (first | (refine K_ifT rfl rfl ?_) | (refine K_ifF rfl rfl ?_) | (refine K_ev nmd [] hng (by kernel_rfl) fun hf C S K hC1 hC hS hK => ?_; simp (disch := first | omega | assumption) only [go_sem, List.length_map, hz, decide_true, decide_false, ne_eq, not_true_eq_false, not_false_eq_true]; (repeat ((first | refine hC1 _ () (by simp (disch := first | omega | assumption) only [go_sem]) ?_); simp (disch := first | omega | assumption) only [go_sem])); refine hK ?_; clear hK hS hC hC1 K S C hf) | ((first | refine zk ?_ | refine zn ?_ | refine ze ?_); with_reducible (constructor; repeat constructor); try refine zl ?_)))
    refine K_ev nmd [(3, 12)] hng (by kernel_rfl) fun hf C S K hC1 hC hS hK => ?_; simp (disch := first | omega | assumption) only [go_sem, List.length_map, hz2, decide_true, decide_false, ne_eq, not_true_eq_false, not_false_eq_true]
    (repeat' (first | (refine evG_split (fun hv => ?_) (fun hv => ?_) <;> (try simp only [zb1, zb2, zb3, zb4, zb5] at hv) <;> simp (disch := first | omega | assumption) only [go_sem, hv, List.length_map, hz2, decide_true, decide_false, ne_eq, not_true_eq_false, not_false_eq_true]) | (refine hK ?_; clear hK hS hC hC1 K S C hf)))
    all_goals first | exact absurd rfl hv | ((repeat (first | (refine K_ifT rfl rfl ?_) | (refine K_ifF rfl rfl ?_) | (refine K_ev nmd [] hng (by kernel_rfl) fun hf C S K hC1 hC hS hK => ?_; simp (disch := first | omega | assumption) only [go_sem]; refine hK ?_; clear hK hS hC hC1 K S C hf) | ((first | refine zk ?_ | refine zn ?_ | refine ze ?_); with_reducible (constructor; repeat constructor); try refine zl ?_))); exact K_ret (done_plain rfl))
theorem number17_ok (args : List Str) (ha : ∀ s ∈ args, s.length ≤ 4000000) (p : Oid) :
    CallOK Tryz.prog 80 [.list 1 (args.map AV.str)] (Oid.under p) ⟨[], .int .i64 (manyN args), []⟩ := by
  rcases many_cases args with rfl | ⟨a, b, rfl⟩ | ⟨h0, h2, hn, _⟩
  · refine fnOK (n := 19) (rs := [.tmp 2]) Tryz.func80 rfl rfl (by decide) rfl rfl rfl ?_; rintro x rfl hrd hng
    (repeat (first | (refine K_ifT rfl rfl ?_) | (refine K_ifF rfl rfl ?_) | (refine K_ev nmd [] hng (by kernel_rfl) fun hf C S K hC1 hC hS hK => ?_; simp (disch := first | omega | assumption) only [go_sem]; refine hK ?_; clear hK hS hC hC1 K S C hf) | ((first | refine zk ?_ | refine zn ?_ | refine ze ?_); with_reducible (constructor; repeat constructor); try refine zl ?_)))
    exact K_ret (done1 rfl)
  · have hbl := ha b (by simp)
    refine fnOK (n := 19) (rs := [.tmp 2]) Tryz.func80 rfl rfl (by decide) rfl rfl rfl ?_; rintro x rfl hrd hng
    (repeat (first | (refine K_ifT rfl rfl ?_) | (refine K_ifF rfl rfl ?_) | (refine K_ev nmd [] hng (by kernel_rfl) fun hf C S K hC1 hC hS hK => ?_; simp (disch := first | omega | assumption) only [go_sem]; refine hK ?_; clear hK hS hC hC1 K S C hf) | ((first | refine zk ?_ | refine zn ?_ | refine ze ?_); with_reducible (constructor; repeat constructor); try refine zl ?_)))
    by_cases hab : a = [45, 110]
    · subst hab
      refine K_ev nmd [(3, 9)] hng (by kernel_rfl) fun hf C S K hC1 hC hS hK => ?_; simp (disch := first | omega | assumption) only [go_sem, decide_true, decide_false, ne_eq, not_true_eq_false, not_false_eq_true]
      (repeat' (first | (refine evG_split (fun hv => ?_) (fun hv => ?_) <;> (try simp only [zb1, zb2, zb3, zb4, zb5] at hv) <;> simp (disch := first | omega | assumption) only [go_sem, hv, decide_true, decide_false, ne_eq, not_true_eq_false, not_false_eq_true]) | (refine hK ?_; clear hK hS hC hC1 K S C hf)))
      all_goals first | exact absurd rfl hv | skip
      (repeat (first | (refine K_ifT rfl rfl ?_) | (refine K_ifF rfl rfl ?_) | (refine K_ev nmd [] hng (by kernel_rfl) fun hf C S K hC1 hC hS hK => ?_; simp (disch := first | omega | assumption) only [go_sem]; (repeat ((first | refine hC1 _ (numberR_ok b (by omega) _) (by simp (disch := first | omega | assumption) only [go_sem]) ?_); simp (disch := first | omega | assumption) only [go_sem])); refine hK ?_; clear hK hS hC hC1 K S C hf) | ((first | refine zk ?_ | refine zn ?_ | refine ze ?_); with_reducible (constructor; repeat constructor); try refine zl ?_)))
      exact K_ret (done1 rfl)
    · rw [show manyN [a, b] = -1 by simp only [manyN, if_neg hab]]
      refine K_ev nmd [(3, 9)] hng (by kernel_rfl) fun hf C S K hC1 hC hS hK => ?_; simp (disch := first | omega | assumption) only [go_sem, hab, decide_true, decide_false, ne_eq, not_true_eq_false, not_false_eq_true]
      (repeat' (first | (refine evG_split (fun hv => ?_) (fun hv => ?_) <;> (try simp only [zb1, zb2, zb3, zb4, zb5] at hv) <;> simp (disch := first | omega | assumption) only [go_sem, hv, hab, decide_true, decide_false, ne_eq, not_true_eq_false, not_false_eq_true]) | (refine hK ?_; clear hK hS hC hC1 K S C hf)))
      all_goals first | exact absurd rfl hv | skip
      (repeat (first | (refine K_ifT rfl rfl ?_) | (refine K_ifF rfl rfl ?_) | (refine K_ev nmd [] hng (by kernel_rfl) fun hf C S K hC1 hC hS hK => ?_; simp (disch := first | omega | assumption) only [go_sem]; refine hK ?_; clear hK hS hC hC1 K S C hf) | ((first | refine zk ?_ | refine zn ?_ | refine ze ?_); with_reducible (constructor; repeat constructor); try refine zl ?_)))
      exact K_ret (done1 rfl)
  · rw [hn]
    have hz : ((args.length : Int) = 0) = False := eq_false (by omega)
    have hz2 : ((args.length : Int) = 2) = False := eq_false (by omega)
    refine fnOK (n := 19) (rs := [.tmp 2]) Tryz.func80 rfl rfl (by decide) rfl rfl rfl ?_; rintro x rfl hrd hng
    (repeat (first | (refine K_ifT rfl rfl ?_) | (refine K_ifF rfl rfl ?_) | (refine K_ev nmd [] hng (by kernel_rfl) fun hf C S K hC1 hC hS hK => ?_; simp (disch := first | omega | assumption) only [go_sem, List.length_map, hz, decide_true, decide_false, ne_eq, not_true_eq_false, not_false_eq_true]; (repeat ((first | refine hC1 _ () (by simp (disch := first | omega | assumption) only [go_sem]) ?_); simp (disch := first | omega | assumption) only [go_sem])); refine hK ?_; clear hK hS hC hC1 K S C hf) | ((first | refine zk ?_ | refine zn ?_ | refine ze ?_); with_reducible (constructor; repeat constructor); try refine zl ?_)))
    refine K_ev nmd [(3, 9)] hng (by kernel_rfl) fun hf C S K hC1 hC hS hK => ?_; simp (disch := first | omega | assumption) only [go_sem, List.length_map, hz2, decide_true, decide_false, ne_eq, not_true_eq_false, not_false_eq_true]
    (repeat' (first | (refine evG_split (fun hv => ?_) (fun hv => ?_) <;> (try simp only [zb1, zb2, zb3, zb4, zb5] at hv) <;> simp (disch := first | omega | assumption) only [go_sem, hv, List.length_map, hz2, decide_true, decide_false, ne_eq, not_true_eq_false, not_false_eq_true]) | (refine hK ?_; clear hK hS hC hC1 K S C hf)))
    all_goals first | exact absurd rfl hv | skip
    (repeat (first | (refine K_ifT rfl rfl ?_) | (refine K_ifF rfl rfl ?_) | (refine K_ev nmd [] hng (by kernel_rfl) fun hf C S K hC1 hC hS hK => ?_; simp (disch := first | omega | assumption) only [go_sem]; refine hK ?_; clear hK hS hC hC1 K S C hf) | ((first | refine zk ?_ | refine zn ?_ | refine ze ?_); with_reducible (constructor; repeat constructor); try refine zl ?_)))
    exact K_ret (done1 rfl)
def headL (n : Int) (l : List Str) : List Str := l.take n.toNat
def tailL (n : Int) (l : List Str) : List Str := l.drop (l.length - n.toNat)
theorem joinN_take_le2 (l : List Str) (n : Nat) : (joinN (l.take n)).length ≤ (joinN l).length := joinN_sub (List.take_sublist _ _)
theorem joinN_drop_le2 (l : List Str) (n : Nat) : (joinN (l.drop n)).length ≤ (joinN l).length := joinN_sub (List.drop_sublist _ _)
theorem head_ok (args : List Str) (ha : ∀ s ∈ args, s.length ≤ 4000000) (t : Str) (htl : t.length ≤ 4000000) (h : 0 ≤ manyN args) (p : Oid) (hp : p.mono = false) :
    CallOK Tryz.prog 30 [.list 1 (args.map AV.str), .str t] (Oid.under p) ⟨[], .tuple [(toldR (joinN (headL (manyN args) (linesL t)))).av, .bool true], []⟩ := by
  have hjl := joinN_lines t
  have hjn := joinN_len (linesL t)
  have hm := fun p hp => many_ok args ha p hp
  rw [manyV_eq h, decide_eq_true h] at hm
  have hml := manyN_le args
  generalize manyN args = n at hm h hml
  have hj : (joinN (headL n (linesL t))).length ≤ (joinN (linesL t)).length := joinN_take_le2 (linesL t) n.toNat
  have hmin : (if ((linesL t).length : Int) < n then ((linesL t).length : Int) else n).toNat = min n.toNat (linesL t).length := by split <;> omega
  have htk : (linesL t).take (min n.toNat (linesL t).length) = headL n (linesL t) := by rw [headL]; simp [List.take_eq_take_iff]
  refine fnOK (n := 31) (rs := [.cell 4 32, .tmp 5]) Tryz.func30 rfl rfl (by decide) rfl rfl rfl ?_; rintro x rfl hrd hng
  (repeat (first | (refine K_ifT rfl rfl ?_) | (refine K_ifF rfl rfl ?_) | (refine K_ev nmd [] hng (by kernel_rfl) fun hf C S K hC1 hC hS hK => ?_; simp (disch := first | omega | assumption) only [go_sem, List.length_map, hmin, ← List.map_take, htk]; (repeat ((first | refine hC1 _ (hm _ (mono_sub' rfl hp)) (by simp (disch := first | omega | assumption) only [go_sem]) ?_ | refine hC1 _ (lines_ok t (by omega) _) (by simp (disch := first | omega | assumption) only [go_sem]) ?_ | refine hC1 _ (joined_ok (headL n (linesL t)) (by omega) _) (by simp (disch := first | omega | assumption) only [go_sem]) ?_ | refine hC1 _ (told_x (joinN (headL n (linesL t))) _) (by simp (disch := first | omega | assumption) only [go_sem]) ?_); simp (disch := first | omega | assumption) only [go_sem])); refine hK ?_; clear hK hS hC hC1 K S C hf) | ((first | refine zk ?_ | refine zn ?_ | refine ze ?_); with_reducible (constructor; repeat constructor); try refine zl ?_)))
  exact K_ret (done_plain (by simp (disch := first | omega | assumption) only [go_sem, Res.av, toldR, badR, usageR]))
theorem tail_ok (args : List Str) (ha : ∀ s ∈ args, s.length ≤ 4000000) (t : Str) (htl : t.length ≤ 4000000) (h : 0 ≤ manyN args) (p : Oid) (hp : p.mono = false) :
    CallOK Tryz.prog 31 [.list 1 (args.map AV.str), .str t] (Oid.under p) ⟨[], .tuple [(toldR (joinN (tailL (manyN args) (linesL t)))).av, .bool true], []⟩ := by
  have hjl := joinN_lines t
  have hjn := joinN_len (linesL t)
  have hm := fun p hp => many_ok args ha p hp
  rw [manyV_eq h, decide_eq_true h] at hm
  have hml := manyN_le args
  generalize manyN args = n at hm h hml
  have hj : (joinN (tailL n (linesL t))).length ≤ (joinN (linesL t)).length := joinN_drop_le2 (linesL t) _
  have hmax : (if (0 : Int) < ((linesL t).length : Int) - n then ((linesL t).length : Int) - n else 0).toNat = (linesL t).length - n.toNat := by split <;> omega
  have htk : (linesL t).drop ((linesL t).length - n.toNat) = tailL n (linesL t) := rfl
  refine fnOK (n := 32) (rs := [.cell 4 32, .tmp 5]) Tryz.func31 rfl rfl (by decide) rfl rfl rfl ?_; rintro x rfl hrd hng
  (repeat (first | (refine K_ifT rfl rfl ?_) | (refine K_ifF rfl rfl ?_) | (refine K_ev nmd [] hng (by kernel_rfl) fun hf C S K hC1 hC hS hK => ?_; simp (disch := first | omega | assumption) only [go_sem, List.length_map, hmax, ← List.map_drop, htk]; (repeat ((first | refine hC1 _ (hm _ (mono_sub' rfl hp)) (by simp (disch := first | omega | assumption) only [go_sem]) ?_ | refine hC1 _ (lines_ok t (by omega) _) (by simp (disch := first | omega | assumption) only [go_sem]) ?_ | refine hC1 _ (joined_ok (tailL n (linesL t)) (by omega) _) (by simp (disch := first | omega | assumption) only [go_sem]) ?_ | refine hC1 _ (told_x (joinN (tailL n (linesL t))) _) (by simp (disch := first | omega | assumption) only [go_sem]) ?_); simp (disch := first | omega | assumption) only [go_sem])); refine hK ?_; clear hK hS hC hC1 K S C hf) | ((first | refine zk ?_ | refine zn ?_ | refine ze ?_); with_reducible (constructor; repeat constructor); try refine zl ?_)))
  exact K_ret (done_plain (by simp (disch := first | omega | assumption) only [go_sem, Res.av, toldR, badR, usageR]))
theorem head_bad (args : List Str) (ha : ∀ s ∈ args, s.length ≤ 4000000) (t : Str) (h : ¬ 0 ≤ manyN args) (p : Oid) (hp : p.mono = false) :
    CallOK Tryz.prog 30 [.list 1 (args.map AV.str), .str t] (Oid.under p) ⟨[], .tuple [badR.av, .bool false], []⟩ := by
  have hm := fun p hp => many_ok args ha p hp
  rw [decide_eq_false h] at hm
  refine fnOK (n := 31) (rs := [.cell 4 32, .tmp 5]) Tryz.func30 rfl rfl (by decide) rfl rfl rfl ?_; rintro x rfl hrd hng
  (repeat (first | (refine K_ifT rfl rfl ?_) | (refine K_ifF rfl rfl ?_) | (refine K_ev nmd [] hng (by kernel_rfl) fun hf C S K hC1 hC hS hK => ?_; simp (disch := first | omega | assumption) only [go_sem]; (repeat ((first | refine hC1 _ (hm _ (mono_sub' rfl hp)) (by simp (disch := first | omega | assumption) only [go_sem]) ?_ | refine hC1 _ (bad_x _) (by simp (disch := first | omega | assumption) only [go_sem]) ?_); simp (disch := first | omega | assumption) only [go_sem])); refine hK ?_; clear hK hS hC hC1 K S C hf) | ((first | refine zk ?_ | refine zn ?_ | refine ze ?_); with_reducible (constructor; repeat constructor); try refine zl ?_)))
  exact K_ret (done_plain (by simp (disch := first | omega | assumption) only [go_sem, Res.av, badR]))
theorem tail_bad (args : List Str) (ha : ∀ s ∈ args, s.length ≤ 4000000) (t : Str) (h : ¬ 0 ≤ manyN args) (p : Oid) (hp : p.mono = false) :
    CallOK Tryz.prog 31 [.list 1 (args.map AV.str), .str t] (Oid.under p) ⟨[], .tuple [badR.av, .bool false], []⟩ := by
  have hm := fun p hp => many_ok args ha p hp
  rw [decide_eq_false h] at hm
  refine fnOK (n := 32) (rs := [.cell 4 32, .tmp 5]) Tryz.func31 rfl rfl (by decide) rfl rfl rfl ?_; rintro x rfl hrd hng
  (repeat (first | (refine K_ifT rfl rfl ?_) | (refine K_ifF rfl rfl ?_) | (refine K_ev nmd [] hng (by kernel_rfl) fun hf C S K hC1 hC hS hK => ?_; simp (disch := first | omega | assumption) only [go_sem]; (repeat ((first | refine hC1 _ (hm _ (mono_sub' rfl hp)) (by simp (disch := first | omega | assumption) only [go_sem]) ?_ | refine hC1 _ (bad_x _) (by simp (disch := first | omega | assumption) only [go_sem]) ?_); simp (disch := first | omega | assumption) only [go_sem])); refine hK ?_; clear hK hS hC hC1 K S C hf) | ((first | refine zk ?_ | refine zn ?_ | refine ze ?_); with_reducible (constructor; repeat constructor); try refine zl ?_)))
  exact K_ret (done_plain (by simp (disch := first | omega | assumption) only [go_sem, Res.av, badR]))
theorem ends_bad (nm : Str) (hn : nm.length ≤ 4000000) (args : List Str) (ha : ∀ s ∈ args, s.length ≤ 4000000) (t : Str) (h : ¬ 0 ≤ manyN args) (p : Oid) :
    CallOK Tryz.prog 42 [.str nm, .list 1 (args.map AV.str), .str t] (Oid.under p) ⟨[], (usageR nm).av, []⟩ := by
  have hm := fun p => number17_ok args ha p
  have hu := fun p => usageR_ok nm (by omega) p
  simp only [Res.av, usageR] at hu
  generalize manyN args = n at hm h
  have hz : (n < 0) = True := eq_true (by omega)
  refine fnOK (n := 36) (rs := [.cell 6 32]) Tryz.func42 rfl rfl (by decide) rfl rfl rfl ?_; rintro x rfl hrd hng
  (repeat (first | (refine K_ifT rfl rfl ?_) | (refine K_ifF rfl rfl ?_) | (refine K_ev nmd [] hng (by kernel_rfl) fun hf C S K hC1 hC hS hK => ?_; simp (disch := first | omega | assumption) only [go_sem, hz, decide_true]; (repeat ((first | refine hC1 _ (hm _) (by simp (disch := first | omega | assumption) only [go_sem]) ?_ | refine hC1 _ (hu _) (by simp (disch := first | omega | assumption) only [go_sem]) ?_); simp (disch := first | omega | assumption) only [go_sem])); refine hK ?_; clear hK hS hC hC1 K S C hf) | ((first | refine zk ?_ | refine zn ?_ | refine ze ?_); with_reducible (constructor; repeat constructor); try refine zl ?_)))
  exact K_ret (done_plain (by simp (disch := first | omega | assumption) only [go_sem, Res.av, toldR, badR, usageR]))
theorem ends_head (args : List Str) (ha : ∀ s ∈ args, s.length ≤ 4000000) (t : Str) (htl : t.length ≤ 4000000) (h : 0 ≤ manyN args) (p : Oid) :
    CallOK Tryz.prog 42 [.str [104, 101, 97, 100], .list 1 (args.map AV.str), .str t] (Oid.under p) ⟨[], (toldR (joinN (headL (manyN args) (linesL t)))).av, []⟩ := by
  have hjl := joinN_lines t
  have hjn := joinN_len (linesL t)
  have hm := fun p => number17_ok args ha p
  have hml := manyN_le args
  generalize manyN args = n at hm h hml
  have hz : (n < 0) = False := eq_false (by omega)
  have hj : (joinN (headL n (linesL t))).length ≤ (joinN (linesL t)).length := joinN_take_le2 (linesL t) n.toNat
  have hmin : (if ((linesL t).length : Int) < n then ((linesL t).length : Int) else n).toNat = min n.toNat (linesL t).length := by split <;> omega
  have htk : (linesL t).take (min n.toNat (linesL t).length) = headL n (linesL t) := by rw [headL]; simp [List.take_eq_take_iff]
  refine fnOK (n := 36) (rs := [.cell 6 32]) Tryz.func42 rfl rfl (by decide) rfl rfl rfl ?_; rintro x rfl hrd hng
  (repeat (first | (refine K_ifT rfl rfl ?_) | (refine K_ifF rfl rfl ?_) | (refine K_ev nmd [] hng (by kernel_rfl) fun hf C S K hC1 hC hS hK => ?_; simp (disch := first | omega | assumption) only [go_sem, hz, decide_false, List.length_map, hmin, ← List.map_take, htk]; (repeat ((first | refine hC1 _ (hm _) (by simp (disch := first | omega | assumption) only [go_sem]) ?_ | refine hC1 _ (linesR_ok t (by omega) _) (by simp (disch := first | omega | assumption) only [go_sem]) ?_ | refine hC1 _ (joinedR_ok (headL n (linesL t)) (by omega) _) (by simp (disch := first | omega | assumption) only [go_sem]) ?_); simp (disch := first | omega | assumption) only [go_sem])); refine hK ?_; clear hK hS hC hC1 K S C hf) | ((first | refine zk ?_ | refine zn ?_ | refine ze ?_); with_reducible (constructor; repeat constructor); try refine zl ?_)))
  exact K_ret (done_plain (by simp (disch := first | omega | assumption) only [go_sem, Res.av, toldR, badR, usageR]))
theorem ends_tail (args : List Str) (ha : ∀ s ∈ args, s.length ≤ 4000000) (t : Str) (htl : t.length ≤ 4000000) (h : 0 ≤ manyN args) (p : Oid) :
    CallOK Tryz.prog 42 [.str [116, 97, 105, 108], .list 1 (args.map AV.str), .str t] (Oid.under p) ⟨[], (toldR (joinN (tailL (manyN args) (linesL t)))).av, []⟩ := by
  have hjl := joinN_lines t
  have hjn := joinN_len (linesL t)
  have hm := fun p => number17_ok args ha p
  have hml := manyN_le args
  generalize manyN args = n at hm h hml
  have hz : (n < 0) = False := eq_false (by omega)
  have hj : (joinN (tailL n (linesL t))).length ≤ (joinN (linesL t)).length := joinN_drop_le2 (linesL t) _
  have hmin : (((linesL t).length : Int) - (if ((linesL t).length : Int) < n then ((linesL t).length : Int) else n)).toNat = (linesL t).length - n.toNat := by split <;> omega
  have htk : (linesL t).drop ((linesL t).length - n.toNat) = tailL n (linesL t) := rfl
  refine fnOK (n := 36) (rs := [.cell 6 32]) Tryz.func42 rfl rfl (by decide) rfl rfl rfl ?_; rintro x rfl hrd hng
  (repeat (first | (refine K_ifT rfl rfl ?_) | (refine K_ifF rfl rfl ?_) | (refine K_ev nmd [] hng (by kernel_rfl) fun hf C S K hC1 hC hS hK => ?_; simp (disch := first | omega | assumption) only [go_sem, hz, decide_false, List.length_map, hmin, ← List.map_drop, htk]; (repeat ((first | refine hC1 _ (hm _) (by simp (disch := first | omega | assumption) only [go_sem]) ?_ | refine hC1 _ (linesR_ok t (by omega) _) (by simp (disch := first | omega | assumption) only [go_sem]) ?_ | refine hC1 _ (joinedR_ok (tailL n (linesL t)) (by omega) _) (by simp (disch := first | omega | assumption) only [go_sem]) ?_); simp (disch := first | omega | assumption) only [go_sem])); refine hK ?_; clear hK hS hC hC1 K S C hf) | ((first | refine zk ?_ | refine zn ?_ | refine ze ?_); with_reducible (constructor; repeat constructor); try refine zl ?_)))
  exact K_ret (done_plain (by simp (disch := first | omega | assumption) only [go_sem, Res.av, toldR, badR, usageR]))
end Go.Proofs.YtiaiggbimlbkfaaGreatDoor
namespace Go.Proofs.YtiaiggbimlbkfaaGreatDoor
open Go Go.Ab
set_option maxRecDepth 20000
set_option maxHeartbeats 4000000
theorem runR_head (args : List Str) (t : Str) (r : Res) (hU : ∀ p, CallOK Tryz.prog 42 [.str ([104, 101, 97, 100] : Str), .list 1 (args.map AV.str), .str t] (Oid.under p) ⟨[], r.av, []⟩) (p : Oid) :
    CallOK Tryz.prog 26 [.list 1 ((([104, 101, 97, 100] : Str) :: args).map AV.str), .str t] (Oid.under p) ⟨[], .tuple [r.av, .bool true], []⟩ := by
  obtain ⟨st, out, err⟩ := r
  simp only [Res.av] at hU
  refine fnOK (n := 90) (rs := [.cell 4 32, .tmp 5]) Tryz.func26 rfl rfl (by decide) rfl rfl rfl ?_; rintro x rfl hrd hng
  (repeat (first | (refine K_ifT rfl rfl ?_) | (refine K_ifF rfl rfl ?_) | (refine K_ev nmd [] hng (by kernel_rfl) fun hf C S K hC1 hC hS hK => ?_; simp (disch := first | omega | assumption) only [go_sem]; refine hK ?_; clear hK hS hC hC1 K S C hf) | ((first | refine zk ?_ | refine zn ?_ | refine ze ?_); with_reducible (constructor; repeat constructor); try refine zl ?_)))
  refine K_evd nmd [] [] mixed hng (by kernel_rfl) [1, 4, 6, 7] fun hf C S K hC hS hK => ?_; simp (disch := first | omega | assumption) only [go_sem]
  (first | refine hK (dynN_quiet rfl) ?_ | refine hK (by simp (disch := first | omega | assumption) only [go_sem, List.reverse_cons, List.reverse_nil, ne_eq, not_false_eq_true, implies_true]) ?_); clear hK hS hC K S C hf
  (repeat (first | (refine K_ifT rfl rfl ?_) | (refine K_ifF rfl rfl ?_) | (refine K_ev nmd [] hng (by kernel_rfl) fun hf C S K hC1 hC hS hK => ?_; simp (disch := first | omega | assumption) only [go_sem]; (repeat ((first | refine hC1 _ (hU _) (by simp (disch := first | omega | assumption) only [go_sem]) ?_); simp (disch := first | omega | assumption) only [go_sem])); refine hK ?_; clear hK hS hC hC1 K S C hf) | ((first | refine zk ?_ | refine zn ?_ | refine ze ?_); with_reducible (constructor; repeat constructor); try refine zl ?_)))
  exact K_ret (done_plain (by simp (disch := first | omega | assumption) only [go_sem, Res.av, toldR, badR, usageR]))
theorem runR_tail (args : List Str) (t : Str) (r : Res) (hU : ∀ p, CallOK Tryz.prog 42 [.str ([116, 97, 105, 108] : Str), .list 1 (args.map AV.str), .str t] (Oid.under p) ⟨[], r.av, []⟩) (p : Oid) :
    CallOK Tryz.prog 26 [.list 1 ((([116, 97, 105, 108] : Str) :: args).map AV.str), .str t] (Oid.under p) ⟨[], .tuple [r.av, .bool true], []⟩ := by
  obtain ⟨st, out, err⟩ := r
  simp only [Res.av] at hU
  refine fnOK (n := 90) (rs := [.cell 4 32, .tmp 5]) Tryz.func26 rfl rfl (by decide) rfl rfl rfl ?_; rintro x rfl hrd hng
  (repeat (first | (refine K_ifT rfl rfl ?_) | (refine K_ifF rfl rfl ?_) | (refine K_ev nmd [] hng (by kernel_rfl) fun hf C S K hC1 hC hS hK => ?_; simp (disch := first | omega | assumption) only [go_sem]; refine hK ?_; clear hK hS hC hC1 K S C hf) | ((first | refine zk ?_ | refine zn ?_ | refine ze ?_); with_reducible (constructor; repeat constructor); try refine zl ?_)))
  refine K_evd nmd [] [] mixed hng (by kernel_rfl) [1, 4, 6, 7] fun hf C S K hC hS hK => ?_; simp (disch := first | omega | assumption) only [go_sem]
  (first | refine hK (dynN_quiet rfl) ?_ | refine hK (by simp (disch := first | omega | assumption) only [go_sem, List.reverse_cons, List.reverse_nil, ne_eq, not_false_eq_true, implies_true]) ?_); clear hK hS hC K S C hf
  (repeat (first | (refine K_ifT rfl rfl ?_) | (refine K_ifF rfl rfl ?_) | (refine K_ev nmd [] hng (by kernel_rfl) fun hf C S K hC1 hC hS hK => ?_; simp (disch := first | omega | assumption) only [go_sem]; (repeat ((first | refine hC1 _ (hU _) (by simp (disch := first | omega | assumption) only [go_sem]) ?_); simp (disch := first | omega | assumption) only [go_sem])); refine hK ?_; clear hK hS hC hC1 K S C hf) | ((first | refine zk ?_ | refine zn ?_ | refine ze ?_); with_reducible (constructor; repeat constructor); try refine zl ?_)))
  exact K_ret (done_plain (by simp (disch := first | omega | assumption) only [go_sem, Res.av, toldR, badR, usageR]))
theorem same_head (args : List Str) (t : Str) (ha : ∀ s ∈ args, s.length ≤ 4000000) (ht : t.length ≤ 4000000) (p : Oid) (hp : p.mono = false) :
    CallOK Tryz.prog 17 [.list 1 ((([104, 101, 97, 100] : Str) :: args).map AV.str), .str t] (Oid.under p) ⟨[], .bool true, []⟩ := by
  by_cases h : 0 ≤ manyN args
  · exact same_of _ t _ true (fun p hp => run_any ([104, 101, 97, 100] : Str) (by decide) args t 30 (by kernel_rfl) (by kernel_rfl) (toldR (joinN (headL (manyN args) (linesL t)))) true p (fun p hp => head_ok args ha t ht h p hp) hp)
      (fun p => runR_head args t _ (fun p => ends_head args ha t ht h p) p) p hp
  · exact same_of _ t _ true (fun p hp => run_any ([104, 101, 97, 100] : Str) (by decide) args t 30 (by kernel_rfl) (by kernel_rfl) badR false p (fun p hp => head_bad args ha t h p hp) hp)
      (fun p => runR_head args t _ (fun p => ends_bad ([104, 101, 97, 100] : Str) (by decide) args ha t h p) p) p hp
theorem same_tail (args : List Str) (t : Str) (ha : ∀ s ∈ args, s.length ≤ 4000000) (ht : t.length ≤ 4000000) (p : Oid) (hp : p.mono = false) :
    CallOK Tryz.prog 17 [.list 1 ((([116, 97, 105, 108] : Str) :: args).map AV.str), .str t] (Oid.under p) ⟨[], .bool true, []⟩ := by
  by_cases h : 0 ≤ manyN args
  · exact same_of _ t _ true (fun p hp => run_any ([116, 97, 105, 108] : Str) (by decide) args t 31 (by kernel_rfl) (by kernel_rfl) (toldR (joinN (tailL (manyN args) (linesL t)))) true p (fun p hp => tail_ok args ha t ht h p hp) hp)
      (fun p => runR_tail args t _ (fun p => ends_tail args ha t ht h p) p) p hp
  · exact same_of _ t _ true (fun p hp => run_any ([116, 97, 105, 108] : Str) (by decide) args t 31 (by kernel_rfl) (by kernel_rfl) badR false p (fun p hp => tail_bad args ha t h p hp) hp)
      (fun p => runR_tail args t _ (fun p => ends_bad ([116, 97, 105, 108] : Str) (by decide) args ha t h p) p) p hp
end Go.Proofs.YtiaiggbimlbkfaaGreatDoor
namespace Go.Proofs.YtiaiggbimlbkfaaGreatDoor
open Go Go.Ab
set_option maxRecDepth 20000
set_option maxHeartbeats 4000000
/-- How many of the first k bytes stay if slashes at their end go. -/
def stripN (s : Str) : Nat → Nat
  | 0 => 0
  | k + 1 => if s.getD k 0 = 47 then stripN s k else k + 1
theorem stripN_le (s : Str) : ∀ k, stripN s k ≤ k
  | 0 => Nat.le_refl _
  | k + 1 => by have := stripN_le s k; rw [stripN]; split <;> omega
theorem stripN_behind (s : Str) : ∀ k j, stripN s k ≤ j → j < k → s.getD j 0 = 47
  | 0, _, _, h => absurd h (Nat.not_lt_zero _)
  | k + 1, j, h1, h2 => by
    rw [stripN] at h1
    split at h1
    · rename_i he
      by_cases hj : j = k
      · subst hj; exact he
      · exact stripN_behind s k j h1 (by omega)
    · omega
theorem stripN_at (s : Str) : ∀ k, 0 < stripN s k → ¬ s.getD (stripN s k - 1) 0 = 47
  | 0, h => absurd h (Nat.lt_irrefl _)
  | k + 1, h => by
    rw [stripN] at h ⊢
    split
    · rename_i he; rw [if_pos he] at h; exact stripN_at s k h
    · rename_i he; exact he
theorem strip_trim (s : Str) : Lib.trimRightB s 47 = s.take (stripN s s.length) := by
  refine Lib.trimRightB_take s 47 _ (stripN_le _ _) (fun j b hj hb => ?_) (fun b h0 hb => ?_)
  · obtain ⟨hj2, rfl⟩ := List.getElem?_eq_some_iff.1 hb
    have := stripN_behind s _ j hj hj2
    rwa [List.getD_eq_getElem?_getD, hb, Option.getD_some] at this
  · have := stripN_at s _ h0
    rwa [List.getD_eq_getElem?_getD, hb, Option.getD_some] at this
/-- The same, but one byte stays. -/
def bareN (s : Str) : Nat → Nat
  | 0 => 0
  | 1 => 1
  | k + 2 => if s.getD (k + 1) 0 = 47 then bareN s (k + 1) else k + 2
theorem bareN_strip (s : Str) : ∀ k, (0 < stripN s k ∧ bareN s k = stripN s k) ∨ (stripN s k = 0 ∧ k = 0) ∨ (stripN s k = 0 ∧ 0 < k ∧ bareN s k = 1 ∧ s.getD 0 0 = 47)
  | 0 => .inr (.inl ⟨rfl, rfl⟩)
  | 1 => by
    rw [stripN, bareN]
    by_cases h : s.getD 0 0 = 47
    · rw [if_pos h]; exact .inr (.inr ⟨rfl, by omega, rfl, h⟩)
    · rw [if_neg h]; exact .inl ⟨by omega, rfl⟩
  | k + 2 => by
    have ih := bareN_strip s (k + 1)
    rw [stripN, bareN]
    by_cases h : s.getD (k + 1) 0 = 47
    · rw [if_pos h, if_pos h]
      rcases ih with h1 | h1 | h1
      · exact .inl h1
      · omega
      · exact .inr (.inr ⟨h1.1, by omega, h1.2.2⟩)
    · rw [if_neg h, if_neg h]; exact .inl ⟨by omega, rfl⟩
/-- A path without slashes at its end. -/
def bareX (s : Str) : Str := s.take (bareN s s.length)
theorem take_one {s : Str} (h0 : 0 < s.length) : s.take 1 = [s.getD 0 0] := by
  cases s with
  | nil => simp at h0
  | cons b s => simp
theorem bareX_eq (s : Str) : bareX s = if ¬ Lib.trimRightB s 47 = [] ∨ s = [] then Lib.trimRightB s 47 else [47] := by
  rw [strip_trim]; unfold bareX
  have hl := stripN_le s s.length
  rcases bareN_strip s s.length with ⟨h1, h2⟩ | ⟨h1, h2⟩ | ⟨h1, h2, h3, h4⟩
  · rw [if_pos (.inl fun e => by have := congrArg List.length e; rw [List.length_take, List.length_nil] at this; omega), h2]
  · have : s = [] := List.eq_nil_of_length_eq_zero h2
    subst this; rfl
  · rw [if_neg (fun hh => hh.elim (fun h => h (by rw [h1, List.take_zero])) (fun e => by rw [e] at h2; simp at h2)), h3, take_one h2, h4]
theorem bareX_len (s : Str) : (bareX s).length ≤ s.length := by unfold bareX; rw [List.length_take]; omega
theorem bare_ok (s : Str) (hl : s.length ≤ 4000000000) (p : Oid) : CallOK Tryz.prog 78 [.str s] (Oid.under p) ⟨[], .str (bareX s), []⟩ := by
  rw [bareX_eq]
  refine fnOK (n := 13) (rs := [.tmp 2]) Tryz.func78 rfl rfl (by decide) rfl rfl rfl ?_; rintro x rfl hrd hng
  (repeat (first | (refine K_ifT rfl rfl ?_) | (refine K_ifF rfl rfl ?_) | (refine K_ev nmd [] hng (by kernel_rfl) fun hf C S K hC1 hC hS hK => ?_; simp (disch := first | omega | assumption) only [go_sem]; (repeat ((first | refine hC1 _ (trimRight_ok s (by omega) _) (by simp (disch := first | omega | assumption) only [go_sem]) ?_); simp (disch := first | omega | assumption) only [go_sem])); refine hK ?_; clear hK hS hC hC1 K S C hf) | ((first | refine zk ?_ | refine zn ?_ | refine ze ?_); with_reducible (constructor; repeat constructor); try refine zl ?_)))
  by_cases h0 : Lib.trimRightB s 47 = []
  · by_cases h1 : s = []
    · rw [if_pos (.inr h1)]
      refine K_ev nmd [(2, 8)] hng (by kernel_rfl) fun hf C S K hC1 hC hS hK => ?_; simp (disch := first | omega | assumption) only [go_sem, h0, h1, decide_true, decide_false, ne_eq, not_true_eq_false, not_false_eq_true]
      (repeat' (first | (refine evG_split (fun hv => ?_) (fun hv => ?_) <;> (try simp only [zb1, zb2, zb3, zb4, zb5] at hv) <;> simp (disch := first | omega | assumption) only [go_sem, hv, h0, h1, decide_true, decide_false, ne_eq, not_true_eq_false, not_false_eq_true]) | (refine hK ?_; clear hK hS hC hC1 K S C hf)))
      all_goals first | exact absurd rfl hv | ((repeat (first | (refine K_ifT rfl rfl ?_) | (refine K_ifF rfl rfl ?_) | (refine K_ev nmd [] hng (by kernel_rfl) fun hf C S K hC1 hC hS hK => ?_; simp (disch := first | omega | assumption) only [go_sem]; refine hK ?_; clear hK hS hC hC1 K S C hf) | ((first | refine zk ?_ | refine zn ?_ | refine ze ?_); with_reducible (constructor; repeat constructor); try refine zl ?_))); exact K_ret (done1 (congrArg AV.str (by subst h1; exact h0))))
    · rw [if_neg (fun hh => hh.elim (fun h => h h0) h1)]
      refine K_ev nmd [(2, 8)] hng (by kernel_rfl) fun hf C S K hC1 hC hS hK => ?_; simp (disch := first | omega | assumption) only [go_sem, h0, h1, decide_true, decide_false, ne_eq, not_true_eq_false, not_false_eq_true]
      (repeat' (first | (refine evG_split (fun hv => ?_) (fun hv => ?_) <;> (try simp only [zb1, zb2, zb3, zb4, zb5] at hv) <;> simp (disch := first | omega | assumption) only [go_sem, hv, h0, h1, decide_true, decide_false, ne_eq, not_true_eq_false, not_false_eq_true]) | (refine hK ?_; clear hK hS hC hC1 K S C hf)))
      all_goals first | exact absurd rfl hv | ((repeat (first | (refine K_ifT rfl rfl ?_) | (refine K_ifF rfl rfl ?_) | (refine K_ev nmd [] hng (by kernel_rfl) fun hf C S K hC1 hC hS hK => ?_; simp (disch := first | omega | assumption) only [go_sem]; refine hK ?_; clear hK hS hC hC1 K S C hf) | ((first | refine zk ?_ | refine zn ?_ | refine ze ?_); with_reducible (constructor; repeat constructor); try refine zl ?_))); exact K_ret (done1 rfl))
  · rw [if_pos (.inl h0)]
    refine K_ev nmd [(2, 8)] hng (by kernel_rfl) fun hf C S K hC1 hC hS hK => ?_; simp (disch := first | omega | assumption) only [go_sem, h0, decide_true, decide_false, ne_eq, not_true_eq_false, not_false_eq_true]
    (repeat' (first | (refine evG_split (fun hv => ?_) (fun hv => ?_) <;> (try simp only [zb1, zb2, zb3, zb4, zb5] at hv) <;> simp (disch := first | omega | assumption) only [go_sem, hv, h0, decide_true, decide_false, ne_eq, not_true_eq_false, not_false_eq_true]) | (refine hK ?_; clear hK hS hC hC1 K S C hf)))
    all_goals first | exact absurd rfl hv | ((repeat (first | (refine K_ifT rfl rfl ?_) | (refine K_ifF rfl rfl ?_) | (refine K_ev nmd [] hng (by kernel_rfl) fun hf C S K hC1 hC hS hK => ?_; simp (disch := first | omega | assumption) only [go_sem]; refine hK ?_; clear hK hS hC hC1 K S C hf) | ((first | refine zk ?_ | refine zn ?_ | refine ze ?_); with_reducible (constructor; repeat constructor); try refine zl ?_))); exact K_ret (done1 rfl))
theorem lastIdx_K (s : Str) (b : UInt8) : ∀ k, k ≤ s.length → Lib.lastIdx ⟨s.toArray⟩ (b.toNat : Int) k = lastK s b k
  | 0, _ => rfl
  | k + 1, h => by
    have ih := lastIdx_K s b k (by omega)
    have hg : (⟨s.toArray⟩ : ByteArray).data[k]! = s.getD k 0 := by
      show s.toArray[k]! = _
      rw [List.getD_eq_getElem?_getD, List.getElem?_eq_getElem h]
      simp [show k < s.length from h]
    have h' : k < s.length := h
    rw [Lib.lastIdx, lastK, hg, ih]
    by_cases he : s.getD k 0 = b
    · rw [if_pos (by rw [he]), if_pos he]
    · rw [if_neg (fun e => he (UInt8.toNat_inj.1 (by omega))), if_neg he]
theorem lastIdx_ok (s : Str) (b : UInt8) (hl : s.length ≤ 4000000000) (sp : Oid → Prop) : CallOK Tryz.prog 79 [.str s, .int .u8 (b.toNat : Int)] sp ⟨[], .int .i64 (lastK s b s.length), []⟩ :=
  callOK_same (by kernel_rfl) fun g args w ha _ => by
    obtain ⟨v, u, rfl, hv, hu⟩ := ha.two
    obtain ⟨c, rfl, hb⟩ := hv.str_inv
    rw [hu.int_inv, str_ba hb]
    refine (Tryz.strings_LastIndexByte ⟨s.toArray⟩ b.toNat (by show s.toArray.size < _; simp; omega) w).mono ?_
    rintro e w' ⟨rfl, rfl⟩
    exact ⟨_, rfl, by unfold Lib.lastIndexByte; rw [lastIdx_K s b _ (by show s.toArray.size ≤ _; simp)]; exact .int _ _, rfl⟩
/-- The last piece of a path. -/
def baseX (s : Str) : Str := if bareX s = [47] then [47] else (bareX s).drop (lastK (bareX s) 47 (bareX s).length + 1).toNat
theorem baseX_len (s : Str) : (baseX s).length ≤ s.length + 1 := by
  have := bareX_len s
  unfold baseX; split
  · simp
  · rw [List.length_drop]; omega
theorem base_ok (s : Str) (hl : s.length ≤ 4000000000) (p : Oid) : CallOK Tryz.prog 77 [.str s] (Oid.under p) ⟨[], .str (baseX s), []⟩ := by
  have hbl := bareX_len s
  have hk := lastK_le (bareX s) 47 (bareX s).length
  refine fnOK (n := 13) (rs := [.tmp 2]) Tryz.func77 rfl rfl (by decide) rfl rfl rfl ?_; rintro x rfl hrd hng
  (repeat (first | (refine K_ifT rfl rfl ?_) | (refine K_ifF rfl rfl ?_) | (refine K_ev nmd [] hng (by kernel_rfl) fun hf C S K hC1 hC hS hK => ?_; simp (disch := first | omega | assumption) only [go_sem]; (repeat ((first | refine hC1 _ (bare_ok s hl _) (by simp (disch := first | omega | assumption) only [go_sem]) ?_); simp (disch := first | omega | assumption) only [go_sem])); refine hK ?_; clear hK hS hC hC1 K S C hf) | ((first | refine zk ?_ | refine zn ?_ | refine ze ?_); with_reducible (constructor; repeat constructor); try refine zl ?_)))
  refine K_ifd rfl rfl (fun hb => ?_) (fun hb => ?_)
  · (repeat (first | (refine K_ifT rfl rfl ?_) | (refine K_ifF rfl rfl ?_) | (refine K_ev nmd [] hng (by kernel_rfl) fun hf C S K hC1 hC hS hK => ?_; simp (disch := first | omega | assumption) only [go_sem]; refine hK ?_; clear hK hS hC hC1 K S C hf) | ((first | refine zk ?_ | refine zn ?_ | refine ze ?_); with_reducible (constructor; repeat constructor); try refine zl ?_)))
    exact K_ret (done1 (congrArg AV.str (hb.trans (by rw [baseX, if_pos hb]))))
  · (repeat (first | (refine K_ifT rfl rfl ?_) | (refine K_ifF rfl rfl ?_) | (refine K_ev nmd [] hng (by kernel_rfl) fun hf C S K hC1 hC hS hK => ?_; simp (disch := first | omega | assumption) only [go_sem]; (repeat ((first | refine hC1 _ (lastIdx_ok (bareX s) 47 (by omega) _) (by simp (disch := first | omega | assumption) only [go_sem]) ?_); simp (disch := first | omega | assumption) only [go_sem])); refine hK ?_; clear hK hS hC hC1 K S C hf) | ((first | refine zk ?_ | refine zn ?_ | refine ze ?_); with_reducible (constructor; repeat constructor); try refine zl ?_)))
    exact K_ret (done1 (congrArg AV.str (by rw [baseX, if_neg hb])))
/-- What is above a path. -/
def aboveX (s : Str) : Str := if lastK (bareX s) 47 (bareX s).length < 0 then [46] else if stripN (bareX s) (lastK (bareX s) 47 (bareX s).length).toNat = 0 then [47] else (bareX s).take (stripN (bareX s) (lastK (bareX s) 47 (bareX s).length).toNat)
theorem aboveX_len (s : Str) : (aboveX s).length ≤ s.length + 1 := by
  have := bareX_len s
  unfold aboveX; split
  · simp
  · split
    · simp
    · rw [List.length_take]; omega
theorem lastK_hit (l : Str) (b : UInt8) : ∀ k, 0 ≤ lastK l b k → l.getD (lastK l b k).toNat 0 = b
  | 0, h => by simp [lastK] at h
  | k + 1, h => by
    rw [lastK] at h ⊢
    split
    · rename_i he; simpa using he
    · rename_i he; rw [if_neg he] at h; exact lastK_hit l b k h
theorem stripN_take (s : Str) (n : Nat) : ∀ k, k ≤ n → stripN (s.take n) k = stripN s k
  | 0, _ => rfl
  | k + 1, h => by
    have hg : (s.take n).getD k 0 = s.getD k 0 := by simp [List.getD_eq_getElem?_getD, List.getElem?_take, show k < n by omega]
    rw [stripN, stripN, hg, stripN_take s n k (by omega)]
theorem above_bare (b : Str) (k : Nat) (hk : k < b.length) (h : b.getD k 0 = 47) : bareX (b.take (k + 1)) = if stripN b k = 0 then [47] else b.take (stripN b k) := by
  have hl : (b.take (k + 1)).length = k + 1 := by rw [List.length_take]; omega
  have hs : stripN (b.take (k + 1)) (k + 1) = stripN b k := by rw [stripN_take b (k + 1) (k + 1) (Nat.le_refl _), stripN, if_pos h]
  have hle := stripN_le b k
  rw [bareX_eq, strip_trim, hl, hs, List.take_take, Nat.min_eq_left (by omega)]
  by_cases h0 : stripN b k = 0
  · rw [if_pos h0, h0, List.take_zero, if_neg (fun hh => hh.elim (fun h => h rfl) (fun e => by rw [e] at hl; simp at hl))]
  · rw [if_neg h0, if_pos (.inl fun e => by have := congrArg List.length e; rw [List.length_take, List.length_nil] at this; omega)]
theorem basename_ok (s t : Str) (hl : s.length ≤ 4000000000) (p : Oid) : CallOK Tryz.prog 38 [.list 1 [.str s], .str t] (Oid.under p) ⟨[], .tuple [(toldR (baseX s ++ [10])).av, .bool true], []⟩ := by
  have hbl := baseX_len s
  refine fnOK (n := 20) (rs := [.cell 4 32, .tmp 5]) Tryz.func38 rfl rfl (by decide) rfl rfl rfl ?_; rintro x rfl hrd hng
  (repeat (first | (refine K_ifT rfl rfl ?_) | (refine K_ifF rfl rfl ?_) | (refine K_ev nmd [] hng (by kernel_rfl) fun hf C S K hC1 hC hS hK => ?_; simp (disch := first | omega | assumption) only [go_sem]; (repeat ((first | refine hC1 _ (base_ok s hl _) (by simp (disch := first | omega | assumption) only [go_sem]) ?_ | refine hC1 _ (told_x (baseX s ++ [10]) _) (by simp (disch := first | omega | assumption) only [go_sem]) ?_); simp (disch := first | omega | assumption) only [go_sem])); refine hK ?_; clear hK hS hC hC1 K S C hf) | ((first | refine zk ?_ | refine zn ?_ | refine ze ?_); with_reducible (constructor; repeat constructor); try refine zl ?_)))
  exact K_ret (done_plain (by simp (disch := first | omega | assumption) only [go_sem, Res.av, toldR, badR, usageR]))
theorem dirname_ok (s t : Str) (hl : s.length ≤ 4000000000) (p : Oid) : CallOK Tryz.prog 39 [.list 1 [.str s], .str t] (Oid.under p) ⟨[], .tuple [(toldR (aboveX s ++ [10])).av, .bool true], []⟩ := by
  have hbl := bareX_len s
  have hal := aboveX_len s
  have hk := lastK_le (bareX s) 47 (bareX s).length
  refine fnOK (n := 33) (rs := [.cell 4 32, .tmp 5]) Tryz.func39 rfl rfl (by decide) rfl rfl rfl ?_; rintro x rfl hrd hng
  (repeat (first | (refine K_ifT rfl rfl ?_) | (refine K_ifF rfl rfl ?_) | (refine K_ev nmd [] hng (by kernel_rfl) fun hf C S K hC1 hC hS hK => ?_; simp (disch := first | omega | assumption) only [go_sem]; (repeat ((first | refine hC1 _ (bare_ok s hl _) (by simp (disch := first | omega | assumption) only [go_sem]) ?_ | refine hC1 _ (lastIdx_ok (bareX s) 47 (by omega) _) (by simp (disch := first | omega | assumption) only [go_sem]) ?_); simp (disch := first | omega | assumption) only [go_sem])); refine hK ?_; clear hK hS hC hC1 K S C hf) | ((first | refine zk ?_ | refine zn ?_ | refine ze ?_); with_reducible (constructor; repeat constructor); try refine zl ?_)))
  refine K_ifd rfl rfl (fun hb => ?_) (fun hb => ?_)
  · have hx : aboveX s = [46] := by rw [aboveX, if_pos hb]
    rw [hx]
    (repeat (first | (refine K_ifT rfl rfl ?_) | (refine K_ifF rfl rfl ?_) | (refine K_ev nmd [] hng (by kernel_rfl) fun hf C S K hC1 hC hS hK => ?_; simp (disch := first | omega | assumption) only [go_sem, gd_T]; (repeat ((first | refine hC1 _ (told_x [46, 10] _) (by simp (disch := first | omega | assumption) only [go_sem]) ?_); simp (disch := first | omega | assumption) only [go_sem])); refine hK ?_; clear hK hS hC hC1 K S C hf) | ((first | refine zk ?_ | refine zn ?_ | refine ze ?_); with_reducible (constructor; repeat constructor); try refine zl ?_)))
    exact K_ret (done_plain (by simp (disch := first | omega | assumption) only [go_sem, Res.av, toldR, badR, usageR]))
  · have h0 : ¬ lastK (bareX s) 47 (bareX s).length < 0 := hb
    have hx : aboveX s = bareX ((bareX s).take (lastK (bareX s) 47 (bareX s).length + 1).toNat) := by
      rw [aboveX, if_neg h0, show (lastK (bareX s) 47 (bareX s).length + 1).toNat = (lastK (bareX s) 47 (bareX s).length).toNat + 1 by omega, above_bare _ _ (by omega) (lastK_hit _ _ _ (by omega))]
    have htl : ((bareX s).take (lastK (bareX s) 47 (bareX s).length + 1).toNat).length ≤ 4000000000 := by rw [List.length_take]; omega
    rw [hx] at hal ⊢
    (repeat (first | (refine K_ifT rfl rfl ?_) | (refine K_ifF rfl rfl ?_) | (refine K_ev nmd [] hng (by kernel_rfl) fun hf C S K hC1 hC hS hK => ?_; simp (disch := first | omega | assumption) only [go_sem]; (repeat ((first | refine hC1 _ (bare_ok ((bareX s).take (lastK (bareX s) 47 (bareX s).length + 1).toNat) htl _) (by simp (disch := first | omega | assumption) only [go_sem]) ?_ | refine hC1 _ (told_x (bareX ((bareX s).take (lastK (bareX s) 47 (bareX s).length + 1).toNat) ++ [10]) _) (by simp (disch := first | omega | assumption) only [go_sem]) ?_); simp (disch := first | omega | assumption) only [go_sem])); refine hK ?_; clear hK hS hC hC1 K S C hf) | ((first | refine zk ?_ | refine zn ?_ | refine ze ?_); with_reducible (constructor; repeat constructor); try refine zl ?_)))
    exact K_ret (done_plain (by simp (disch := first | omega | assumption) only [go_sem, Res.av, toldR, badR, usageR]))
end Go.Proofs.YtiaiggbimlbkfaaGreatDoor
namespace Go.Proofs.YtiaiggbimlbkfaaGreatDoor
open Go Go.Ab
set_option maxRecDepth 20000
set_option maxHeartbeats 4000000
theorem take_getD {s : Str} {n k : Nat} (h : k < n) : (s.take n).getD k 0 = s.getD k 0 := by simp [List.getD_eq_getElem?_getD, List.getElem?_take, h]
theorem bareN_stop {s : Str} {k : Nat} (h : ¬ (1 < k ∧ s.getD (k - 1) 0 = 47)) : bareN s k = k := by
  match k, h with
  | 0, _ => rfl
  | 1, _ => rfl
  | k + 2, h => rw [bareN, if_neg (fun e => h ⟨by omega, show s.getD (k + 1) 0 = 47 from e⟩)]
theorem bareN_go {s : Str} {k : Nat} (h : 1 < k) (he : s.getD (k - 1) 0 = 47) : bareN s k = bareN s (k - 1) := by
  match k, h, he with
  | k + 2, _, he => rw [bareN, if_pos (by simpa using he)]; rfl
theorem lastK_go {l : Str} {b : UInt8} {i : Nat} (h0 : 0 < i) (h : ¬ l.getD (i - 1) 0 = b) : lastK l b i = lastK l b (i - 1) := by
  match i, h0, h with
  | i + 1, _, h => rw [lastK, if_neg (by simpa using h)]; rfl
theorem lastK_at {l : Str} {b : UInt8} {i : Nat} (h0 : 0 < i) (h : l.getD (i - 1) 0 = b) : lastK l b i = ((i - 1 : Nat) : Int) := by
  match i, h0, h with
  | i + 1, _, h => rw [lastK, if_pos (by simpa using h)]; rfl
theorem stripN_stop {s : Str} {k : Nat} (h : ¬ (0 < k ∧ s.getD (k - 1) 0 = 47)) : stripN s k = k := by
  match k, h with
  | 0, _ => rfl
  | k + 1, h => rw [stripN, if_neg (fun e => h ⟨by omega, show s.getD k 0 = 47 from e⟩)]
theorem stripN_go {s : Str} {k : Nat} (h : 0 < k) (he : s.getD (k - 1) 0 = 47) : stripN s k = stripN s (k - 1) := by
  match k, h, he with
  | k + 1, _, he => rw [stripN, if_pos (by simpa using he)]; rfl
theorem b47 (b : UInt8) : (b.toNat : Int) = 47 ↔ b = 47 := by
  constructor
  · intro h; exact UInt8.toNat_inj.1 (by have : (47 : UInt8).toNat = 47 := rfl; omega)
  · rintro rfl; rfl
theorem baseX_big {s : Str} (h : 1 < (bareX s).length) : baseX s = (bareX s).drop (lastK (bareX s) 47 (bareX s).length + 1).toNat := by
  rw [baseX, if_neg (fun e => by rw [e] at h; simp at h)]
theorem baseX_small {s : Str} (h : ¬ 1 < (bareX s).length) : baseX s = bareX s := by
  unfold baseX
  split
  · rename_i he; rw [he]
  · rename_i he
    generalize bareX s = b at h he
    match b, h, he with
    | [], _, _ => rfl
    | [c], _, he =>
      have hc : ¬ ([c] : Str).getD 0 0 = 47 := fun e => he (by rw [show c = 47 from e])
      have : lastK [c] 47 ([c] : Str).length = -1 := by show lastK [c] 47 (0 + 1) = _; rw [lastK, if_neg hc]; rfl
      rw [this]; rfl
    | _ :: _ :: _, h, _ => exact absurd (by simp) h
theorem baseR_ok (s : Str) (hl : s.length ≤ 4000000000) (p : Oid) : CallOK Tryz.prog 50 [.str s] (Oid.under p) ⟨[], .str (baseX s), []⟩ := by
  refine fnOK (n := 41) (rs := [.tmp 2]) Tryz.func50 rfl rfl (by decide) rfl rfl rfl ?_; rintro x rfl hrd hng
  (repeat (first | (refine K_ifT rfl rfl ?_) | (refine K_ifF rfl rfl ?_) | (refine K_ev nmd [] hng (by kernel_rfl) fun hf C S K hC1 hC hS hK => ?_; simp (disch := first | omega | assumption) only [go_sem]; refine hK ?_; clear hK hS hC hC1 K S C hf) | ((first | refine zk ?_ | refine zn ?_ | refine ze ?_); with_reducible (constructor; repeat constructor); try refine zl ?_)))
  refine K_loop [0] (fun k s' => ∃ (n c : Nat), n = k ∧ n ≤ s.length ∧ bareN s s.length = bareN s n ∧ s' = ⟨[(0, .str (s.take n))], Mem.of [], c, []⟩) _ ⟨s.length, _, rfl, Nat.le_refl _, rfl, by rw [List.take_length]; rfl⟩ ?_
  rintro k s' ⟨n, c, rfl, hn, hbn, rfl⟩
  have htl : (s.take n).length = n := by rw [List.length_take]; omega
  have hz : ((n : Int) - 1).toNat = n - 1 := by omega
  (try ((first | refine zk ?_ | refine zn ?_ | refine ze ?_); with_reducible (constructor; repeat constructor)); try refine zl ?_)
  refine K_cut [0, 14] (fun s' => ∃ (b : Bool) (c' : Nat), s' = ⟨[(0, .str (s.take n)), (14, .bool b)], Mem.of [], c', []⟩ ∧ (b = true ↔ (1 < n ∧ s.getD (n - 1) 0 = 47))) ?_ ?_
  · refine K_ev nmd [(3, 7)] hng (by kernel_rfl) fun hf C S K hC1 hC hS hK => ?_; simp (disch := first | omega | assumption) only [go_sem, htl, hz, decide_true, decide_false, ne_eq, not_true_eq_false, not_false_eq_true]
    (repeat' (first | (refine evG_split (fun hv => ?_) (fun hv => ?_) <;> (try simp only [zb1, zb2, zb3, zb4, zb5] at hv) <;> simp (disch := first | omega | assumption) only [go_sem, hv, htl, hz, decide_true, decide_false, ne_eq, not_true_eq_false, not_false_eq_true]) | (refine hK ?_; clear hK hS hC hC1 K S C hf)))
    all_goals first
      | contradiction
      | exact K_cutN ⟨_, _, rfl, by simp only [decide_eq_true_eq, b47]; rw [take_getD (by omega)]; exact ⟨fun h => ⟨by omega, h⟩, fun h => h.2⟩⟩
      | exact K_cutN ⟨_, _, rfl, by simp only [Bool.false_eq_true, false_iff]; omega⟩
  rintro s' ⟨b, c', rfl, hiff⟩
  refine K_if rfl rfl (fun hb => ?_) (fun hb => ?_)
  · obtain ⟨h1, h47⟩ := hiff.1 hb
    (repeat (first | (refine K_ifT rfl rfl ?_) | (refine K_ifF rfl rfl ?_) | (refine K_ev nmd [] hng (by kernel_rfl) fun hf C S K hC1 hC hS hK => ?_; simp (disch := first | omega | assumption) only [go_sem, htl, hz]; (repeat ((first | refine hC1 _ () (by simp (disch := first | omega | assumption) only [go_sem]) ?_); simp (disch := first | omega | assumption) only [go_sem])); refine hK ?_; clear hK hS hC hC1 K S C hf) | ((first | refine zk ?_ | refine zn ?_ | refine ze ?_); with_reducible (constructor; repeat constructor); try refine zl ?_)))
    exact ⟨_, _, by omega, fun _ _ h => h, n - 1, _, rfl, by omega, by rw [hbn, bareN_go h1 h47], by rw [List.take_take, Nat.min_eq_left (by omega)]; rfl⟩
  · have hst : ¬ (1 < n ∧ s.getD (n - 1) 0 = 47) := fun h => by rw [hiff.2 h] at hb; cases hb
    have hB : s.take n = bareX s := by unfold bareX; rw [hbn, bareN_stop hst]
    have hbl : (bareX s).length = n := by rw [← hB, htl]
    rw [hB]
    (repeat (first | (refine K_ifT rfl rfl ?_) | (refine K_ifF rfl rfl ?_) | (refine K_ev nmd [] hng (by kernel_rfl) fun hf C S K hC1 hC hS hK => ?_; simp (disch := first | omega | assumption) only [go_sem, hbl]; (repeat ((first | refine hC1 _ () (by simp (disch := first | omega | assumption) only [go_sem]) ?_); simp (disch := first | omega | assumption) only [go_sem])); refine hK ?_; clear hK hS hC hC1 K S C hf) | ((first | refine zk ?_ | refine zn ?_ | refine ze ?_); with_reducible (constructor; repeat constructor); try refine zl ?_)))
    refine K_loop [0, 3] (fun k s' => ∃ (m c : Nat), m = k ∧ m ≤ n ∧ (1 < n → lastK (bareX s) 47 n = lastK (bareX s) 47 m) ∧ s' = ⟨[(0, .str (bareX s)), (3, .int .i64 ((m : Int) - 1))], Mem.of [], c, []⟩) _ ⟨n, _, rfl, Nat.le_refl _, fun _ => rfl, rfl⟩ ?_
    rintro k s' ⟨m, c, rfl, hm, hlk, rfl⟩
    (repeat (first | (refine K_ifT rfl rfl ?_) | (refine K_ifF rfl rfl ?_) | (refine K_ev nmd [] hng (by kernel_rfl) fun hf C S K hC1 hC hS hK => ?_; simp (disch := first | omega | assumption) only [go_sem]; refine hK ?_; clear hK hS hC hC1 K S C hf) | ((first | refine zk ?_ | refine zn ?_ | refine ze ?_); with_reducible (constructor; repeat constructor); try refine zl ?_)))
    refine K_ifd rfl rfl (fun hb => ?_) (fun hb => ?_)
    · have hm0 : 0 < m := by omega
      have hz1 : ((m : Int) - 1).toNat = m - 1 := by omega
      have hz2 : ((m : Int) - 1 + 1).toNat = m := by omega
      (try ((first | refine zk ?_ | refine zn ?_ | refine ze ?_); with_reducible (constructor; repeat constructor)); try refine zl ?_)
      refine K_cut [0, 3, 35] (fun s' => ∃ (b : Bool) (c' : Nat), s' = ⟨[(0, .str (bareX s)), (3, .int .i64 ((m : Int) - 1)), (35, .bool b)], Mem.of [], c', []⟩ ∧ (b = true ↔ (1 < n ∧ (bareX s).getD (m - 1) 0 = 47))) ?_ ?_
      · refine K_ev nmd [(4, 31)] hng (by kernel_rfl) fun hf C S K hC1 hC hS hK => ?_; simp (disch := first | omega | assumption) only [go_sem, hbl, hz1, decide_true, decide_false, ne_eq, not_true_eq_false, not_false_eq_true]
        (repeat' (first | (refine evG_split (fun hv => ?_) (fun hv => ?_) <;> (try simp only [zb1, zb2, zb3, zb4, zb5] at hv) <;> simp (disch := first | omega | assumption) only [go_sem, hv, hbl, hz1, decide_true, decide_false, ne_eq, not_true_eq_false, not_false_eq_true]) | (refine hK ?_; clear hK hS hC hC1 K S C hf)))
        all_goals first
          | contradiction
          | exact K_cutN ⟨_, _, rfl, by simp only [decide_eq_true_eq]; rw [b47] at hv; exact ⟨fun h => ⟨by omega, hv⟩, fun h => by omega⟩⟩
          | exact K_cutN ⟨_, _, rfl, by rw [b47] at hv; simp only [Bool.false_eq_true, false_iff]; exact fun h => hv h.2⟩
      rintro s' ⟨b, c', rfl, hif⟩
      refine K_if rfl rfl (fun hb => ?_) (fun hb => ?_)
      · obtain ⟨h1, h47⟩ := hif.1 hb
        (repeat (first | (refine K_ifT rfl rfl ?_) | (refine K_ifF rfl rfl ?_) | (refine K_ev nmd [] hng (by kernel_rfl) fun hf C S K hC1 hC hS hK => ?_; simp (disch := first | omega | assumption) only [go_sem, hbl, hz2]; (repeat ((first | refine hC1 _ () (by simp (disch := first | omega | assumption) only [go_sem]) ?_); simp (disch := first | omega | assumption) only [go_sem])); refine hK ?_; clear hK hS hC hC1 K S C hf) | ((first | refine zk ?_ | refine zn ?_ | refine ze ?_); with_reducible (constructor; repeat constructor); try refine zl ?_)))
        have hm1 : (((m - 1 : Nat) : Int) + 1).toNat = m := by omega
        exact K_ret (done1 (congrArg AV.str (by rw [baseX_big (by omega), hbl, hlk h1, lastK_at hm0 h47, hm1])))
      · (repeat (first | (refine K_ifT rfl rfl ?_) | (refine K_ifF rfl rfl ?_) | (refine K_ev nmd [] hng (by kernel_rfl) fun hf C S K hC1 hC hS hK => ?_; simp (disch := first | omega | assumption) only [go_sem]; refine hK ?_; clear hK hS hC hC1 K S C hf) | ((first | refine zk ?_ | refine zn ?_ | refine ze ?_); with_reducible (constructor; repeat constructor); try refine zl ?_)))
        refine ⟨_, _, ?_, fun _ _ h => h, m - 1, c' + 1, rfl, by omega, fun h1 => ?_, ?_⟩
        · omega
        · rw [hlk h1, lastK_go hm0 (fun e => by rw [hif.2 ⟨h1, e⟩] at hb; cases hb)]
        · rw [show (((m - 1 : Nat) : Int) - 1) = (m : Int) - 1 - 1 by omega]; rfl
    · obtain rfl : m = 0 := by omega
      (repeat (first | (refine K_ifT rfl rfl ?_) | (refine K_ifF rfl rfl ?_) | (refine K_ev nmd [] hng (by kernel_rfl) fun hf C S K hC1 hC hS hK => ?_; simp (disch := first | omega | assumption) only [go_sem]; refine hK ?_; clear hK hS hC hC1 K S C hf) | ((first | refine zk ?_ | refine zn ?_ | refine ze ?_); with_reducible (constructor; repeat constructor); try refine zl ?_)))
      refine K_ret (done1 (congrArg AV.str ?_))
      by_cases h1 : 1 < n
      · rw [baseX_big (by omega), hbl, hlk h1]; rfl
      · rw [baseX_small (by omega)]
theorem aboveR_ok (s : Str) (hl : s.length ≤ 4000000000) (p : Oid) : CallOK Tryz.prog 51 [.str s] (Oid.under p) ⟨[], .str (aboveX s), []⟩ := by
  refine fnOK (n := 51) (rs := [.tmp 2]) Tryz.func51 rfl rfl (by decide) rfl rfl rfl ?_; rintro x rfl hrd hng
  (repeat (first | (refine K_ifT rfl rfl ?_) | (refine K_ifF rfl rfl ?_) | (refine K_ev nmd [] hng (by kernel_rfl) fun hf C S K hC1 hC hS hK => ?_; simp (disch := first | omega | assumption) only [go_sem]; refine hK ?_; clear hK hS hC hC1 K S C hf) | ((first | refine zk ?_ | refine zn ?_ | refine ze ?_); with_reducible (constructor; repeat constructor); try refine zl ?_)))
  refine K_loop [0] (fun k s' => ∃ (n c : Nat), n = k ∧ n ≤ s.length ∧ bareN s s.length = bareN s n ∧ s' = ⟨[(0, .str (s.take n))], Mem.of [], c, []⟩) _ ⟨s.length, _, rfl, Nat.le_refl _, rfl, by rw [List.take_length]; rfl⟩ ?_
  rintro k s' ⟨n, c, rfl, hn, hbn, rfl⟩
  have htl : (s.take n).length = n := by rw [List.length_take]; omega
  have hz : ((n : Int) - 1).toNat = n - 1 := by omega
  (try ((first | refine zk ?_ | refine zn ?_ | refine ze ?_); with_reducible (constructor; repeat constructor)); try refine zl ?_)
  refine K_cut [0, 14] (fun s' => ∃ (b : Bool) (c' : Nat), s' = ⟨[(0, .str (s.take n)), (14, .bool b)], Mem.of [], c', []⟩ ∧ (b = true ↔ (1 < n ∧ s.getD (n - 1) 0 = 47))) ?_ ?_
  · refine K_ev nmd [(3, 7)] hng (by kernel_rfl) fun hf C S K hC1 hC hS hK => ?_; simp (disch := first | omega | assumption) only [go_sem, htl, hz, decide_true, decide_false, ne_eq, not_true_eq_false, not_false_eq_true]
    (repeat' (first | (refine evG_split (fun hv => ?_) (fun hv => ?_) <;> (try simp only [zb1, zb2, zb3, zb4, zb5] at hv) <;> simp (disch := first | omega | assumption) only [go_sem, hv, htl, hz, decide_true, decide_false, ne_eq, not_true_eq_false, not_false_eq_true]) | (refine hK ?_; clear hK hS hC hC1 K S C hf)))
    all_goals first
      | contradiction
      | exact K_cutN ⟨_, _, rfl, by simp only [decide_eq_true_eq, b47]; rw [take_getD (by omega)]; exact ⟨fun h => ⟨by omega, h⟩, fun h => h.2⟩⟩
      | exact K_cutN ⟨_, _, rfl, by simp only [Bool.false_eq_true, false_iff]; omega⟩
  rintro s' ⟨b, c', rfl, hiff⟩
  refine K_if rfl rfl (fun hb => ?_) (fun hb => ?_)
  · obtain ⟨h1, h47⟩ := hiff.1 hb
    (repeat (first | (refine K_ifT rfl rfl ?_) | (refine K_ifF rfl rfl ?_) | (refine K_ev nmd [] hng (by kernel_rfl) fun hf C S K hC1 hC hS hK => ?_; simp (disch := first | omega | assumption) only [go_sem, htl, hz]; (repeat ((first | refine hC1 _ () (by simp (disch := first | omega | assumption) only [go_sem]) ?_); simp (disch := first | omega | assumption) only [go_sem])); refine hK ?_; clear hK hS hC hC1 K S C hf) | ((first | refine zk ?_ | refine zn ?_ | refine ze ?_); with_reducible (constructor; repeat constructor); try refine zl ?_)))
    exact ⟨_, _, by omega, fun _ _ h => h, n - 1, _, rfl, by omega, by rw [hbn, bareN_go h1 h47], by rw [List.take_take, Nat.min_eq_left (by omega)]; rfl⟩
  · have hst : ¬ (1 < n ∧ s.getD (n - 1) 0 = 47) := fun h => by rw [hiff.2 h] at hb; cases hb
    have hB : s.take n = bareX s := by unfold bareX; rw [hbn, bareN_stop hst]
    have hbl : (bareX s).length = n := by rw [← hB, htl]
    have hax : aboveX s = if lastK (bareX s) 47 n < 0 then [46] else if stripN (bareX s) (lastK (bareX s) 47 n).toNat = 0 then [47] else (bareX s).take (stripN (bareX s) (lastK (bareX s) 47 n).toNat) := by rw [aboveX, hbl]
    rw [hB, hax]
    (repeat (first | (refine K_ifT rfl rfl ?_) | (refine K_ifF rfl rfl ?_) | (refine K_ev nmd [] hng (by kernel_rfl) fun hf C S K hC1 hC hS hK => ?_; simp (disch := first | omega | assumption) only [go_sem, hbl]; (repeat ((first | refine hC1 _ () (by simp (disch := first | omega | assumption) only [go_sem]) ?_); simp (disch := first | omega | assumption) only [go_sem])); refine hK ?_; clear hK hS hC hC1 K S C hf) | ((first | refine zk ?_ | refine zn ?_ | refine ze ?_); with_reducible (constructor; repeat constructor); try refine zl ?_)))
    refine K_loop [0, 3] (fun k s' => ∃ (m c : Nat), m = k ∧ m ≤ n ∧ lastK (bareX s) 47 n = lastK (bareX s) 47 m ∧ s' = ⟨[(0, .str (bareX s)), (3, .int .i64 ((m : Int) - 1))], Mem.of [], c, []⟩) _ ⟨n, _, rfl, Nat.le_refl _, rfl, rfl⟩ ?_
    rintro k s' ⟨m, c, rfl, hm, hlk, rfl⟩
    have hz1 : ((m : Int) - 1).toNat = m - 1 := by omega
    (try ((first | refine zk ?_ | refine zn ?_ | refine ze ?_); with_reducible (constructor; repeat constructor)); try refine zl ?_)
    refine K_cut [0, 3, 30] (fun s' => ∃ (b : Bool) (c' : Nat), s' = ⟨[(0, .str (bareX s)), (3, .int .i64 ((m : Int) - 1)), (30, .bool b)], Mem.of [], c', []⟩ ∧ (b = true ↔ (0 < m ∧ ¬ (bareX s).getD (m - 1) 0 = 47))) ?_ ?_
    · refine K_ev nmd [(2, 25)] hng (by kernel_rfl) fun hf C S K hC1 hC hS hK => ?_; simp (disch := first | omega | assumption) only [go_sem, hbl, hz1, decide_true, decide_false, ne_eq, not_true_eq_false, not_false_eq_true]
      (repeat' (first | (refine evG_split (fun hv => ?_) (fun hv => ?_) <;> (try simp only [zb1, zb2, zb3, zb4, zb5] at hv) <;> simp (disch := first | omega | assumption) only [go_sem, hv, hbl, hz1, decide_true, decide_false, ne_eq, not_true_eq_false, not_false_eq_true]) | (refine hK ?_; clear hK hS hC hC1 K S C hf)))
      all_goals first
        | contradiction
        | exact K_cutN ⟨_, _, rfl, by simp only [decide_eq_true_eq, b47, ne_eq, decide_not, Bool.not_eq_true', decide_eq_false_iff_not]; exact ⟨fun h => ⟨by omega, h⟩, fun h => h.2⟩⟩
        | exact K_cutN ⟨_, _, rfl, by simp only [Bool.false_eq_true, false_iff]; omega⟩
    rintro s' ⟨b, c', rfl, hif⟩
    refine K_if rfl rfl (fun hb => ?_) (fun hb => ?_)
    · obtain ⟨h0, h47⟩ := hif.1 hb
      (repeat (first | (refine K_ifT rfl rfl ?_) | (refine K_ifF rfl rfl ?_) | (refine K_ev nmd [] hng (by kernel_rfl) fun hf C S K hC1 hC hS hK => ?_; simp (disch := first | omega | assumption) only [go_sem]; refine hK ?_; clear hK hS hC hC1 K S C hf) | ((first | refine zk ?_ | refine zn ?_ | refine ze ?_); with_reducible (constructor; repeat constructor); try refine zl ?_)))
      refine ⟨_, _, ?_, fun _ _ h => h, m - 1, c' + 1, rfl, by omega, by rw [hlk, lastK_go h0 h47], ?_⟩
      · omega
      · rw [show (((m - 1 : Nat) : Int) - 1) = (m : Int) - 1 - 1 by omega]; rfl
    · have hst2 : ¬ (0 < m ∧ ¬ (bareX s).getD (m - 1) 0 = 47) := fun h => by rw [hif.2 h] at hb; cases hb
      by_cases h0 : m = 0
      · subst h0
        have e1 : lastK (bareX s) 47 n = -1 := hlk
        rw [e1, if_pos (by decide)]
        (repeat (first | (refine K_ifT rfl rfl ?_) | (refine K_ifF rfl rfl ?_) | (refine K_ev nmd [] hng (by kernel_rfl) fun hf C S K hC1 hC hS hK => ?_; simp (disch := first | omega | assumption) only [go_sem, Int.reduceSub, Int.reduceLT, decide_true]; (repeat ((first | refine hC1 _ () (by simp (disch := first | omega | assumption) only [go_sem]) ?_); simp (disch := first | omega | assumption) only [go_sem])); refine hK ?_; clear hK hS hC hC1 K S C hf) | ((first | refine zk ?_ | refine zn ?_ | refine ze ?_); with_reducible (constructor; repeat constructor); try refine zl ?_)))
        exact K_ret (done1 rfl)
      · have h47 : (bareX s).getD (m - 1) 0 = 47 := Classical.byContradiction fun h => hst2 ⟨by omega, h⟩
        have e1 : lastK (bareX s) 47 n = ((m - 1 : Nat) : Int) := by rw [hlk, lastK_at (by omega) h47]
        have hlt : ((m : Int) - 1 < 0) = False := eq_false (by omega)
        have hcast : (m : Int) - 1 = ((m - 1 : Nat) : Int) := by omega
        rw [e1, if_neg (by omega), Int.toNat_natCast]
        rw [hcast] at *
        generalize hq : m - 1 = q0 at *
        (repeat (first | (refine K_ifT rfl rfl ?_) | (refine K_ifF rfl rfl ?_) | (refine K_ev nmd [] hng (by kernel_rfl) fun hf C S K hC1 hC hS hK => ?_; simp (disch := first | omega | assumption) only [go_sem, hlt, decide_false]; (repeat ((first | refine hC1 _ () (by simp (disch := first | omega | assumption) only [go_sem]) ?_); simp (disch := first | omega | assumption) only [go_sem])); refine hK ?_; clear hK hS hC hC1 K S C hf) | ((first | refine zk ?_ | refine zn ?_ | refine ze ?_); with_reducible (constructor; repeat constructor); try refine zl ?_)))
        refine K_loop [0, 3] (fun k s' => ∃ (q c : Nat), q = k ∧ q ≤ q0 ∧ stripN (bareX s) q0 = stripN (bareX s) q ∧ s' = ⟨[(0, .str (bareX s)), (3, .int .i64 (q : Int))], Mem.of [], c, []⟩) _ ⟨q0, _, rfl, Nat.le_refl _, rfl, rfl⟩ ?_
        rintro k s' ⟨q, c, rfl, hq2, hsk, rfl⟩
        have hz3 : ((q : Int) - 1).toNat = q - 1 := by omega
        (try ((first | refine zk ?_ | refine zn ?_ | refine ze ?_); with_reducible (constructor; repeat constructor)); try refine zl ?_)
        refine K_cut [0, 3, 43] (fun s' => ∃ (b : Bool) (c' : Nat), s' = ⟨[(0, .str (bareX s)), (3, .int .i64 (q : Int)), (43, .bool b)], Mem.of [], c', []⟩ ∧ (b = true ↔ (0 < q ∧ (bareX s).getD (q - 1) 0 = 47))) ?_ ?_
        · refine K_ev nmd [(2, 37)] hng (by kernel_rfl) fun hf C S K hC1 hC hS hK => ?_; simp (disch := first | omega | assumption) only [go_sem, hbl, hz3, decide_true, decide_false, ne_eq, not_true_eq_false, not_false_eq_true]
          (repeat' (first | (refine evG_split (fun hv => ?_) (fun hv => ?_) <;> (try simp only [zb1, zb2, zb3, zb4, zb5] at hv) <;> simp (disch := first | omega | assumption) only [go_sem, hv, hbl, hz3, decide_true, decide_false, ne_eq, not_true_eq_false, not_false_eq_true]) | (refine hK ?_; clear hK hS hC hC1 K S C hf)))
          all_goals first
            | contradiction
            | exact K_cutN ⟨_, _, rfl, by simp only [decide_eq_true_eq, b47]; exact ⟨fun h => ⟨by omega, h⟩, fun h => h.2⟩⟩
            | exact K_cutN ⟨_, _, rfl, by simp only [Bool.false_eq_true, false_iff]; omega⟩
        rintro s' ⟨b, c', rfl, hi2⟩
        refine K_if rfl rfl (fun hb => ?_) (fun hb => ?_)
        · obtain ⟨h5, h6⟩ := hi2.1 hb
          (repeat (first | (refine K_ifT rfl rfl ?_) | (refine K_ifF rfl rfl ?_) | (refine K_ev nmd [] hng (by kernel_rfl) fun hf C S K hC1 hC hS hK => ?_; simp (disch := first | omega | assumption) only [go_sem]; refine hK ?_; clear hK hS hC hC1 K S C hf) | ((first | refine zk ?_ | refine zn ?_ | refine ze ?_); with_reducible (constructor; repeat constructor); try refine zl ?_)))
          refine ⟨_, _, ?_, fun _ _ h => h, q - 1, c' + 1, rfl, by omega, by rw [hsk, stripN_go h5 h6], ?_⟩
          · omega
          · rw [show ((q - 1 : Nat) : Int) = (q : Int) - 1 by omega]; rfl
        · have hs0 : stripN (bareX s) q0 = q := by rw [hsk, stripN_stop (fun h => by rw [hi2.2 h] at hb; cases hb)]
          rw [hs0]
          (repeat (first | (refine K_ifT rfl rfl ?_) | (refine K_ifF rfl rfl ?_) | (refine K_ev nmd [] hng (by kernel_rfl) fun hf C S K hC1 hC hS hK => ?_; simp (disch := first | omega | assumption) only [go_sem]; refine hK ?_; clear hK hS hC hC1 K S C hf) | ((first | refine zk ?_ | refine zn ?_ | refine ze ?_); with_reducible (constructor; repeat constructor); try refine zl ?_)))
          refine K_ifd rfl rfl (fun hb => ?_) (fun hb => ?_)
          · rw [if_pos (by omega)]
            (repeat (first | (refine K_ifT rfl rfl ?_) | (refine K_ifF rfl rfl ?_) | (refine K_ev nmd [] hng (by kernel_rfl) fun hf C S K hC1 hC hS hK => ?_; simp (disch := first | omega | assumption) only [go_sem]; refine hK ?_; clear hK hS hC hC1 K S C hf) | ((first | refine zk ?_ | refine zn ?_ | refine ze ?_); with_reducible (constructor; repeat constructor); try refine zl ?_)))
            exact K_ret (done1 rfl)
          · rw [if_neg (by omega)]
            (repeat (first | (refine K_ifT rfl rfl ?_) | (refine K_ifF rfl rfl ?_) | (refine K_ev nmd [] hng (by kernel_rfl) fun hf C S K hC1 hC hS hK => ?_; simp (disch := first | omega | assumption) only [go_sem, hbl]; (repeat ((first | refine hC1 _ () (by simp (disch := first | omega | assumption) only [go_sem]) ?_); simp (disch := first | omega | assumption) only [go_sem])); refine hK ?_; clear hK hS hC hC1 K S C hf) | ((first | refine zk ?_ | refine zn ?_ | refine ze ?_); with_reducible (constructor; repeat constructor); try refine zl ?_)))
            exact K_ret (done1 rfl)
end Go.Proofs.YtiaiggbimlbkfaaGreatDoor
namespace Go.Proofs.YtiaiggbimlbkfaaGreatDoor
open Go Go.Ab
set_option maxRecDepth 20000
set_option maxHeartbeats 4000000
theorem basename_bad (args : List Str) (t : Str) (h : ¬ args.length = 1) (p : Oid) :
    CallOK Tryz.prog 38 [.list 1 (args.map AV.str), .str t] (Oid.under p) ⟨[], .tuple [badR.av, .bool false], []⟩ := by
  have hz : ((args.length : Int) = 1) = False := eq_false (by omega)
  refine fnOK (n := 20) (rs := [.cell 4 32, .tmp 5]) Tryz.func38 rfl rfl (by decide) rfl rfl rfl ?_; rintro x rfl hrd hng
  (repeat (first | (refine K_ifT rfl rfl ?_) | (refine K_ifF rfl rfl ?_) | (refine K_ev nmd [] hng (by kernel_rfl) fun hf C S K hC1 hC hS hK => ?_; simp (disch := first | omega | assumption) only [go_sem, List.length_map, hz, decide_true, decide_false, ne_eq, not_true_eq_false, not_false_eq_true]; (repeat ((first | refine hC1 _ (bad_x _) (by simp (disch := first | omega | assumption) only [go_sem]) ?_); simp (disch := first | omega | assumption) only [go_sem])); refine hK ?_; clear hK hS hC hC1 K S C hf) | ((first | refine zk ?_ | refine zn ?_ | refine ze ?_); with_reducible (constructor; repeat constructor); try refine zl ?_)))
  exact K_ret (done_plain (by simp (disch := first | omega | assumption) only [go_sem, Res.av, badR]))
theorem dirname_bad (args : List Str) (t : Str) (h : ¬ args.length = 1) (p : Oid) :
    CallOK Tryz.prog 39 [.list 1 (args.map AV.str), .str t] (Oid.under p) ⟨[], .tuple [badR.av, .bool false], []⟩ := by
  have hz : ((args.length : Int) = 1) = False := eq_false (by omega)
  refine fnOK (n := 33) (rs := [.cell 4 32, .tmp 5]) Tryz.func39 rfl rfl (by decide) rfl rfl rfl ?_; rintro x rfl hrd hng
  (repeat (first | (refine K_ifT rfl rfl ?_) | (refine K_ifF rfl rfl ?_) | (refine K_ev nmd [] hng (by kernel_rfl) fun hf C S K hC1 hC hS hK => ?_; simp (disch := first | omega | assumption) only [go_sem, List.length_map, hz, decide_true, decide_false, ne_eq, not_true_eq_false, not_false_eq_true]; (repeat ((first | refine hC1 _ (bad_x _) (by simp (disch := first | omega | assumption) only [go_sem]) ?_); simp (disch := first | omega | assumption) only [go_sem])); refine hK ?_; clear hK hS hC hC1 K S C hf) | ((first | refine zk ?_ | refine zn ?_ | refine ze ?_); with_reducible (constructor; repeat constructor); try refine zl ?_)))
  exact K_ret (done_plain (by simp (disch := first | omega | assumption) only [go_sem, Res.av, badR]))
theorem runR_base (s t : Str) (hl : s.length ≤ 4000000) (p : Oid) :
    CallOK Tryz.prog 26 [.list 1 [.str ([98, 97, 115, 101, 110, 97, 109, 101] : Str), .str s], .str t] (Oid.under p) ⟨[], .tuple [(toldR (baseX s ++ [10])).av, .bool true], []⟩ := by
  have hb := baseX_len s
  refine fnOK (n := 90) (rs := [.cell 4 32, .tmp 5]) Tryz.func26 rfl rfl (by decide) rfl rfl rfl ?_; rintro x rfl hrd hng
  (repeat (first | (refine K_ifT rfl rfl ?_) | (refine K_ifF rfl rfl ?_) | (refine K_ev nmd [] hng (by kernel_rfl) fun hf C S K hC1 hC hS hK => ?_; simp (disch := first | omega | assumption) only [go_sem]; refine hK ?_; clear hK hS hC hC1 K S C hf) | ((first | refine zk ?_ | refine zn ?_ | refine ze ?_); with_reducible (constructor; repeat constructor); try refine zl ?_)))
  refine K_evd nmd [] [] mixed hng (by kernel_rfl) [1, 4, 6, 7] fun hf C S K hC hS hK => ?_; simp (disch := first | omega | assumption) only [go_sem]
  (first | refine hK (dynN_quiet rfl) ?_ | refine hK (by simp (disch := first | omega | assumption) only [go_sem, List.reverse_cons, List.reverse_nil, ne_eq, not_false_eq_true, implies_true]) ?_); clear hK hS hC K S C hf
  (repeat (first | (refine K_ifT rfl rfl ?_) | (refine K_ifF rfl rfl ?_) | (refine K_ev nmd [] hng (by kernel_rfl) fun hf C S K hC1 hC hS hK => ?_; simp (disch := first | omega | assumption) only [go_sem]; (repeat ((first | refine hC1 _ (baseR_ok s (by omega) _) (by simp (disch := first | omega | assumption) only [go_sem]) ?_); simp (disch := first | omega | assumption) only [go_sem])); refine hK ?_; clear hK hS hC hC1 K S C hf) | ((first | refine zk ?_ | refine zn ?_ | refine ze ?_); with_reducible (constructor; repeat constructor); try refine zl ?_)))
  exact K_ret (done_plain (by simp (disch := first | omega | assumption) only [go_sem, Res.av, toldR, badR, usageR]))
theorem runR_dir (s t : Str) (hl : s.length ≤ 4000000) (p : Oid) :
    CallOK Tryz.prog 26 [.list 1 [.str ([100, 105, 114, 110, 97, 109, 101] : Str), .str s], .str t] (Oid.under p) ⟨[], .tuple [(toldR (aboveX s ++ [10])).av, .bool true], []⟩ := by
  have hb := aboveX_len s
  refine fnOK (n := 90) (rs := [.cell 4 32, .tmp 5]) Tryz.func26 rfl rfl (by decide) rfl rfl rfl ?_; rintro x rfl hrd hng
  (repeat (first | (refine K_ifT rfl rfl ?_) | (refine K_ifF rfl rfl ?_) | (refine K_ev nmd [] hng (by kernel_rfl) fun hf C S K hC1 hC hS hK => ?_; simp (disch := first | omega | assumption) only [go_sem]; refine hK ?_; clear hK hS hC hC1 K S C hf) | ((first | refine zk ?_ | refine zn ?_ | refine ze ?_); with_reducible (constructor; repeat constructor); try refine zl ?_)))
  refine K_evd nmd [] [] mixed hng (by kernel_rfl) [1, 4, 6, 7] fun hf C S K hC hS hK => ?_; simp (disch := first | omega | assumption) only [go_sem]
  (first | refine hK (dynN_quiet rfl) ?_ | refine hK (by simp (disch := first | omega | assumption) only [go_sem, List.reverse_cons, List.reverse_nil, ne_eq, not_false_eq_true, implies_true]) ?_); clear hK hS hC K S C hf
  (repeat (first | (refine K_ifT rfl rfl ?_) | (refine K_ifF rfl rfl ?_) | (refine K_ev nmd [] hng (by kernel_rfl) fun hf C S K hC1 hC hS hK => ?_; simp (disch := first | omega | assumption) only [go_sem]; (repeat ((first | refine hC1 _ (aboveR_ok s (by omega) _) (by simp (disch := first | omega | assumption) only [go_sem]) ?_); simp (disch := first | omega | assumption) only [go_sem])); refine hK ?_; clear hK hS hC hC1 K S C hf) | ((first | refine zk ?_ | refine zn ?_ | refine ze ?_); with_reducible (constructor; repeat constructor); try refine zl ?_)))
  exact K_ret (done_plain (by simp (disch := first | omega | assumption) only [go_sem, Res.av, toldR, badR, usageR]))
theorem runR_basebad (args : List Str) (t : Str) (h : ¬ args.length = 1) (p : Oid) :
    CallOK Tryz.prog 26 [.list 1 ((([98, 97, 115, 101, 110, 97, 109, 101] : Str) :: args).map AV.str), .str t] (Oid.under p) ⟨[], .tuple [(usageR ([98, 97, 115, 101, 110, 97, 109, 101] : Str)).av, .bool true], []⟩ := by
  have hu := fun p => usageR_ok ([98, 97, 115, 101, 110, 97, 109, 101] : Str) (by decide) p
  simp only [Res.av, usageR] at hu
  have hz : ((args.length : Int) = 1) = False := eq_false (by omega)
  refine fnOK (n := 90) (rs := [.cell 4 32, .tmp 5]) Tryz.func26 rfl rfl (by decide) rfl rfl rfl ?_; rintro x rfl hrd hng
  (repeat (first | (refine K_ifT rfl rfl ?_) | (refine K_ifF rfl rfl ?_) | (refine K_ev nmd [] hng (by kernel_rfl) fun hf C S K hC1 hC hS hK => ?_; simp (disch := first | omega | assumption) only [go_sem]; refine hK ?_; clear hK hS hC hC1 K S C hf) | ((first | refine zk ?_ | refine zn ?_ | refine ze ?_); with_reducible (constructor; repeat constructor); try refine zl ?_)))
  refine K_evd nmd [] [] mixed hng (by kernel_rfl) [1, 4, 6, 7] fun hf C S K hC hS hK => ?_; simp (disch := first | omega | assumption) only [go_sem]
  (first | refine hK (dynN_quiet rfl) ?_ | refine hK (by simp (disch := first | omega | assumption) only [go_sem, List.reverse_cons, List.reverse_nil, ne_eq, not_false_eq_true, implies_true]) ?_); clear hK hS hC K S C hf
  (repeat (first | (refine K_ifT rfl rfl ?_) | (refine K_ifF rfl rfl ?_) | (refine K_ev nmd [] hng (by kernel_rfl) fun hf C S K hC1 hC hS hK => ?_; simp (disch := first | omega | assumption) only [go_sem, List.length_map, hz, decide_true, decide_false, ne_eq, not_true_eq_false, not_false_eq_true]; (repeat ((first | refine hC1 _ (hu _) (by simp (disch := first | omega | assumption) only [go_sem]) ?_); simp (disch := first | omega | assumption) only [go_sem])); refine hK ?_; clear hK hS hC hC1 K S C hf) | ((first | refine zk ?_ | refine zn ?_ | refine ze ?_); with_reducible (constructor; repeat constructor); try refine zl ?_)))
  exact K_ret (done_plain (by simp (disch := first | omega | assumption) only [go_sem, Res.av, toldR, badR, usageR]))
theorem runR_dirbad (args : List Str) (t : Str) (h : ¬ args.length = 1) (p : Oid) :
    CallOK Tryz.prog 26 [.list 1 ((([100, 105, 114, 110, 97, 109, 101] : Str) :: args).map AV.str), .str t] (Oid.under p) ⟨[], .tuple [(usageR ([100, 105, 114, 110, 97, 109, 101] : Str)).av, .bool true], []⟩ := by
  have hu := fun p => usageR_ok ([100, 105, 114, 110, 97, 109, 101] : Str) (by decide) p
  simp only [Res.av, usageR] at hu
  have hz : ((args.length : Int) = 1) = False := eq_false (by omega)
  refine fnOK (n := 90) (rs := [.cell 4 32, .tmp 5]) Tryz.func26 rfl rfl (by decide) rfl rfl rfl ?_; rintro x rfl hrd hng
  (repeat (first | (refine K_ifT rfl rfl ?_) | (refine K_ifF rfl rfl ?_) | (refine K_ev nmd [] hng (by kernel_rfl) fun hf C S K hC1 hC hS hK => ?_; simp (disch := first | omega | assumption) only [go_sem]; refine hK ?_; clear hK hS hC hC1 K S C hf) | ((first | refine zk ?_ | refine zn ?_ | refine ze ?_); with_reducible (constructor; repeat constructor); try refine zl ?_)))
  refine K_evd nmd [] [] mixed hng (by kernel_rfl) [1, 4, 6, 7] fun hf C S K hC hS hK => ?_; simp (disch := first | omega | assumption) only [go_sem]
  (first | refine hK (dynN_quiet rfl) ?_ | refine hK (by simp (disch := first | omega | assumption) only [go_sem, List.reverse_cons, List.reverse_nil, ne_eq, not_false_eq_true, implies_true]) ?_); clear hK hS hC K S C hf
  (repeat (first | (refine K_ifT rfl rfl ?_) | (refine K_ifF rfl rfl ?_) | (refine K_ev nmd [] hng (by kernel_rfl) fun hf C S K hC1 hC hS hK => ?_; simp (disch := first | omega | assumption) only [go_sem, List.length_map, hz, decide_true, decide_false, ne_eq, not_true_eq_false, not_false_eq_true]; (repeat ((first | refine hC1 _ (hu _) (by simp (disch := first | omega | assumption) only [go_sem]) ?_); simp (disch := first | omega | assumption) only [go_sem])); refine hK ?_; clear hK hS hC hC1 K S C hf) | ((first | refine zk ?_ | refine zn ?_ | refine ze ?_); with_reducible (constructor; repeat constructor); try refine zl ?_)))
  exact K_ret (done_plain (by simp (disch := first | omega | assumption) only [go_sem, Res.av, toldR, badR, usageR]))
theorem one_cases (args : List Str) : (∃ a, args = [a]) ∨ ¬ args.length = 1 := by
  match args with
  | [] => exact .inr (by simp)
  | [a] => exact .inl ⟨a, rfl⟩
  | a :: b :: r => exact .inr (by simp)
theorem same_base (args : List Str) (t : Str) (ha : ∀ s ∈ args, s.length ≤ 4000000) (p : Oid) (hp : p.mono = false) :
    CallOK Tryz.prog 17 [.list 1 ((([98, 97, 115, 101, 110, 97, 109, 101] : Str) :: args).map AV.str), .str t] (Oid.under p) ⟨[], .bool true, []⟩ := by
  rcases one_cases args with ⟨a, rfl⟩ | h
  · have hl := ha a (by simp)
    exact same_of _ t _ true (fun p hp => run_any ([98, 97, 115, 101, 110, 97, 109, 101] : Str) (by decide) [a] t 38 (by kernel_rfl) (by kernel_rfl) (toldR (baseX a ++ [10])) true p (fun p _ => basename_ok a t (by omega) p) hp)
      (fun p => runR_base a t hl p) p hp
  · exact same_of _ t _ true (fun p hp => run_any ([98, 97, 115, 101, 110, 97, 109, 101] : Str) (by decide) args t 38 (by kernel_rfl) (by kernel_rfl) badR false p (fun p _ => basename_bad args t h p) hp)
      (fun p => runR_basebad args t h p) p hp
theorem same_dir (args : List Str) (t : Str) (ha : ∀ s ∈ args, s.length ≤ 4000000) (p : Oid) (hp : p.mono = false) :
    CallOK Tryz.prog 17 [.list 1 ((([100, 105, 114, 110, 97, 109, 101] : Str) :: args).map AV.str), .str t] (Oid.under p) ⟨[], .bool true, []⟩ := by
  rcases one_cases args with ⟨a, rfl⟩ | h
  · have hl := ha a (by simp)
    exact same_of _ t _ true (fun p hp => run_any ([100, 105, 114, 110, 97, 109, 101] : Str) (by decide) [a] t 39 (by kernel_rfl) (by kernel_rfl) (toldR (aboveX a ++ [10])) true p (fun p _ => dirname_ok a t (by omega) p) hp)
      (fun p => runR_dir a t hl p) p hp
  · exact same_of _ t _ true (fun p hp => run_any ([100, 105, 114, 110, 97, 109, 101] : Str) (by decide) args t 39 (by kernel_rfl) (by kernel_rfl) badR false p (fun p _ => dirname_bad args t h p) hp)
      (fun p => runR_dirbad args t h p) p hp
end Go.Proofs.YtiaiggbimlbkfaaGreatDoor
