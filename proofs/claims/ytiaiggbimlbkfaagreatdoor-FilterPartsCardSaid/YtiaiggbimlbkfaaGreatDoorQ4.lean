/- Filter: a row of strings that the library turns in its place: sort, reverse, compact. -/
import Derived.Test.YtiaiggbimlbkfaaGreatDoorQ3
import Derived.Sort.Row
import Derived.Lib.RowBridge
set_option linter.unusedVariables false
set_option linter.unusedSimpArgs false
namespace Go.Proofs.YtiaiggbimlbkfaaGreatDoor
open Go Go.Ab
open Go.Sort Go.RowKit
set_option maxRecDepth 20000
set_option maxHeartbeats 4000000
def sortS (l : List Str) : List Str := l.mergeSort fun x y => decide (x ≤ y)
theorem sr_other {w : World} {b n : Nat} {d : Array Str} {os : Array Obj} {b' : Nat} (hb : b' ≠ b) (hlt : b' < w.heap.size) : (grow (putRow encStr (Sort.ahead w n) b 0 d) os).heap[b']? = w.heap[b']? := by
  unfold putRow mapBlock
  rw [heap_grow_old _ _ (by simpa [ahead] using hlt)]
  simp [Array.getElem?_modify, Ne.symm hb, ahead]
theorem sr_same {w : World} {b n : Nat} {d : Array Str} {os : Array Obj} {c : Array Value} {t : TypeId} {fz : Nat × Nat} (hb : w.heap[b]? = some (.cells c t fz)) :
    (grow (putRow encStr (Sort.ahead w n) b 0 d) os).heap[b]? = some (.cells (putCells encStr 0 d c) t fz) := by
  have hlt := (Array.getElem?_eq_some_iff.1 hb).1
  unfold putRow mapBlock
  rw [heap_grow_old _ _ (by simpa [ahead] using hlt)]
  simp [Array.getElem?_modify, hb, ahead, onCells]
theorem sr_size {w : World} {b n : Nat} {d : Array Str} {os : Array Obj} : w.heap.size ≤ (grow (putRow encStr (Sort.ahead w n) b 0 d) os).heap.size := by
  unfold putRow mapBlock
  simp [grow, ahead]
theorem pc_size (d : Array Str) (c : Array Value) : (putCells encStr 0 d c).size = c.size := by simp [putCells]
theorem str_enc {g : Gh} {s : Str} {v : Value} : VR g (.str s) v ↔ v = encStr s := by
  constructor
  · intro h
    obtain ⟨b, rfl, hb⟩ := h.str_inv
    show Value.string b = Value.string _
    congr 1
    cases b
    simp only at hb
    congr 1
    rw [← hb]
  · rintro rfl
    exact .str _ _ rfl
theorem sortS_perm (l : List Str) : (sortS l).Perm l := List.mergeSort_perm _ _
theorem sortS_length (l : List Str) : (sortS l).length = l.length := (sortS_perm l).length_eq
/-- A contract of the shelf that turns a row of strings. -/
theorem row_turn (l l' tl : List Str) (f : FuncId) (he : entersB Tryz.prog f = true) (hl : ¬ l = []) (ht : l'.length + tl.length = l.length) (id p : Oid) (av : AV) (val : Nat → Nat → Value)
    (hval : ∀ (g : Gh) (b cap : Nat), g.loc id = some (some b) → l.length ≤ cap → g.row b = some (cap * 1) → VR g av (val b cap))
    (h : ∀ (b cap : Nat) (w : World), Holds encStr w b 0 l.toArray → b < w.heap.size → l.length ≤ cap → Calls Tryz.prog f #[.slice (some ⟨b, 0, none⟩) l.length cap] w fun e w' =>
      e = .returned (val b cap) ∧ ∃ n os, w' = grow (putRow encStr (Sort.ahead w n) b 0 (l' ++ tl).toArray) os) :
    CallOK Tryz.prog f [.sl id 1 l.length] (Oid.under p) ⟨[(id, .arr 1 (l.map .str))], av, [(id, some (.arr 1 (l'.map .str)))]⟩ := by
  refine ⟨he, fun x g args w m hm hn hargs hsp hng => ?_⟩
  have hmi := hn _ List.mem_cons_self
  simp only at hmi
  obtain ⟨v, rfl, a0⟩ := hargs.one
  have hne : l.length ≠ 0 := fun e => hl (List.eq_nil_of_length_eq_zero e)
  obtain ⟨b, cap, rfl, hloc, hcap, hrow⟩ := a0.sl_inv'.resolve_left fun h => hne h.1
  obtain ⟨b0, hb0, hcom, hmay, hobj⟩ := hm.objL hmi hloc
  rw [hloc] at hb0; simp only [Option.some.injEq] at hb0; subst hb0
  obtain ⟨c, t, fz, hh, hcs, hfz, hxl, hone, hv⟩ := hobj
  have hlt := (Array.getElem?_eq_some_iff.1 hh).1
  simp only [List.length_map, Nat.mul_one] at hcs hxl hone hv
  have hav : ∀ (l : List Str) i, i < l.length → (l.map AV.str).getD i .undef = .str (l.getD i []) := fun l i hi => by simp [List.getD_eq_getElem?_getD, List.getElem?_map, List.getElem?_eq_getElem hi]
  have hcell : ∀ i, i < l.length → c.getD i undef = encStr (l.getD i []) := fun i hi => by
    have := hv i 0 hi (by omega)
    rw [hav l i hi] at this
    simp only [AV.cells, List.getD_cons_zero, Nat.mul_one, Nat.add_zero] at this
    exact str_enc.1 this
  have hH : Holds encStr w b 0 l.toArray := by
    intro j hj
    have hj' : j < l.length := by simpa using hj
    have hjc : j < c.size := by omega
    constructor
    · have h3 := hcell j hj'
      simp only [World.cell?, hh, Nat.zero_add, Option.isSome_none, Bool.false_eq_true, if_false, Array.getElem?_eq_getElem hjc, Option.some.injEq]
      rw [Array.getD_eq_getD_getElem?, Array.getElem?_eq_getElem hjc, Option.getD_some] at h3
      rw [h3]
      have h5 : l.toArray[j]! = l.getD j [] := by simp [List.getElem?_eq_getElem hj', hj']
      rw [h5]
    · simp only [World.frozen?, hh, Nat.zero_add]
      have := hfz j hjc
      by_cases h : fz.1 ≤ j
      · have : ¬ j < fz.2 := fun h' => this ⟨h, h'⟩
        simp [this]
      · simp [h]
  refine (h b cap w hH hlt hcap).mono ?_
  rintro en w' ⟨rfl, n, os, rfl⟩
  show ∃ _ _, _
  refine ⟨g, _, rfl, Gh.le_refl g, fun _ _ => rfl, hval g b cap hloc hcap hrow, ?_⟩
  refine hm.turn (o := .arr 1 (l'.map .str)) hmi hloc rfl rfl ⟨rfl, Nat.le_add_right _ _⟩ sr_size (fun b' hb' hlt' => sr_other hb' hlt') (fun r hr => ?_) ?_ ?_
  · obtain ⟨c', t', fz', h2, h3⟩ := hm.rows b r hr
    exact ⟨_, _, _, sr_same h2, by rw [pc_size]; exact h3⟩
  · intro c9 t9 fz9 h9; exact ⟨_, _, sr_same h9⟩
  · have hget : ∀ i, i < l'.length → (putCells encStr 0 (l' ++ tl).toArray c).getD i undef = encStr (l'.getD i []) := fun i hi => by
      have hc2 : i < c.size := by omega
      have hi2 : i < l'.length + tl.length := by omega
      simp only [putCells, Array.getD_eq_getD_getElem?, Array.getElem?_mapIdx, Array.getElem?_eq_getElem hc2, Option.map_some, Option.getD_some, Nat.zero_le, true_and, Nat.zero_add, Nat.sub_zero, List.size_toArray, List.length_append, hi2, if_true]
      congr 1
      simp [List.getElem?_eq_getElem hi, hi, hi2, List.getElem_append_left hi]
    refine ⟨_, t, fz, sr_same hh, ?_, ?_, ?_, ?_, ?_⟩
    · rw [pc_size, List.length_map, Nat.mul_one]; omega
    · rw [pc_size]; exact hfz
    · intro i hi
      rw [hav _ i (by simpa using hi)]; rfl
    · intro j hj
      have hj' : j < l'.length := by simpa using hj
      rw [hget j hj']; rfl
    · intro i j hi hj
      have hi' : i < l'.length := by simpa using hi
      obtain rfl : j = 0 := by omega
      rw [hav _ i hi', Nat.mul_one, Nat.add_zero, hget i hi']
      exact .str _ _ rfl
theorem grow_none (w : World) : grow w #[] = w := by
  cases w; simp [grow]
theorem sortStr_ok (l : List Str) (hl : ¬ l = []) (hsz : l.length < 4611686018427387904) (id p : Oid) :
    CallOK Tryz.prog 64 [.sl id 1 l.length] (Oid.under p) ⟨[(id, .arr 1 (l.map .str))], .tuple [], [(id, some (.arr 1 ((sortS l).map .str)))]⟩ :=
  row_turn l (sortS l) [] _ (by kernel_rfl) hl (by rw [sortS_length]; rfl) id p _ (fun _ _ => .tuple #[]) (fun g b cap _ _ _ => .tuple _ _ rfl (fun j hj => absurd hj (Nat.not_lt_zero _))) fun b cap w hH hb hcap => by
    rw [List.append_nil]
    exact Tryz.slices_Sort_string b 0 cap l w hH hb hsz
theorem reverse_ok (l : List Str) (hl : ¬ l = []) (hsz : l.length < 4611686018427387904) (id p : Oid) :
    CallOK Tryz.prog 67 [.sl id 1 l.length] (Oid.under p) ⟨[(id, .arr 1 (l.map .str))], .tuple [], [(id, some (.arr 1 (l.reverse.map .str)))]⟩ :=
  row_turn l l.reverse [] _ (by kernel_rfl) hl (by rw [List.length_reverse]; rfl) id p _ (fun _ _ => .tuple #[]) (fun g b cap _ _ _ => .tuple _ _ rfl (fun j hj => absurd hj (Nat.not_lt_zero _))) fun b cap w hH hb hcap => by
    rw [List.append_nil]
    refine (Tryz.slices_Reverse_string b 0 cap l w hH (by omega)).mono ?_
    rintro e w' ⟨h1, n, rfl⟩
    exact ⟨h1, n, #[], (grow_none _).symm⟩
theorem compact_le (l : List Str) : (Lib.compact l).length ≤ l.length := Lib.compact_length_le l
theorem compact_ok (l : List Str) (hl : ¬ l = []) (hsz : l.length < 4611686018427387904) (id p : Oid) :
    CallOK Tryz.prog 66 [.sl id 1 l.length] (Oid.under p) ⟨[(id, .arr 1 (l.map .str))], .sl id 1 (Lib.compact l).length, [(id, some (.arr 1 ((Lib.compact l).map .str)))]⟩ :=
  row_turn l (Lib.compact l) (List.replicate (l.length - (Lib.compact l).length) []) _ (by kernel_rfl) hl (by have := compact_le l; rw [List.length_replicate]; omega) id p _ (fun b cap => .slice (some ⟨b, 0, none⟩) (Lib.compact l).length cap)
    (fun g b cap h1 h2 h3 => .sl _ _ _ _ _ h1 (Nat.le_trans (compact_le l) h2) h3) fun b cap w hH hb hcap => by
    refine (Tryz.slices_Compact_string b 0 cap l w hH (by omega) hcap).mono ?_
    rintro e w' ⟨h1, n, rfl⟩
    exact ⟨h1, n, #[], (grow_none _).symm⟩
theorem sort_nil (p : Oid) : CallOK Tryz.prog 64 [.nilSl] (Oid.under p) ⟨[], .tuple [], []⟩ :=
  callOK_same (by kernel_rfl) fun g args w ha _ => by
    obtain ⟨v, rfl, hv⟩ := ha.one
    rw [hv.nilSl_inv]
    refine (Tryz.slices_Sort_string_none none 0 w).mono ?_
    rintro e w' ⟨rfl, rfl⟩
    exact ⟨_, rfl, .tuple _ _ rfl (fun j hj => absurd hj (Nat.not_lt_zero _)), rfl⟩
theorem reverse_nil (p : Oid) : CallOK Tryz.prog 67 [.nilSl] (Oid.under p) ⟨[], .tuple [], []⟩ :=
  callOK_same (by kernel_rfl) fun g args w ha _ => by
    obtain ⟨v, rfl, hv⟩ := ha.one
    rw [hv.nilSl_inv]
    refine (Tryz.slices_Reverse_string_empty none 0 w).mono ?_
    rintro e w' ⟨rfl, rfl⟩
    exact ⟨_, rfl, .tuple _ _ rfl (fun j hj => absurd hj (Nat.not_lt_zero _)), rfl⟩
theorem compact_nil (p : Oid) : CallOK Tryz.prog 66 [.nilSl] (Oid.under p) ⟨[], .nilSl, []⟩ :=
  callOK_same (by kernel_rfl) fun g args w ha _ => by
    obtain ⟨v, rfl, hv⟩ := ha.one
    rw [hv.nilSl_inv]
    refine (Tryz.slices_Compact_string_empty none 0 w).mono ?_
    rintro e w' ⟨rfl, rfl⟩
    exact ⟨_, rfl, .nilSl, rfl⟩
end Go.Proofs.YtiaiggbimlbkfaaGreatDoor
