/- The library's sort of strings: the shelf's contract in the words of this memory; sorted rows are one. -/
import Derived.Test.YtbpembafoloinaaGreatDoorS17
import Derived.Sort.Row
set_option linter.unusedVariables false
set_option linter.unusedSimpArgs false
namespace Go.Proofs.YtbpembafoloinaaGreatDoor
open Go Go.Ab
open Go.Sort Go.RowKit
set_option maxRecDepth 20000
set_option maxHeartbeats 4000000
def sortS (l : List Str) : List Str := l.mergeSort fun x y => decide (x ≤ y)
theorem sr_other {w : World} {b n : Nat} {d : Array Str} {os : Array Obj} {b' : Nat} (hb : b' ≠ b) (hlt : b' < w.heap.size) : (grow (putRow encStr (Sort.ahead w n) b 0 d) os).heap[b']? = w.heap[b']? := by
  unfold putRow mapBlock
  rw [heap_grow_old _ _ (by simpa [ahead] using hlt)]
  simp [Array.getElem?_modify, Ne.symm hb, ahead]
theorem sr_same {w : World} {b n : Nat} {d : Array Str} {os : Array Obj} {c : Array Value} {t : TypeId} {fz : Nat × Nat} (hb : w.heap[b]? = some (.cells c t fz)) :
    (grow (putRow encStr (Sort.ahead w n) b 0 d) os).heap[b]? = some (.cells (putCells encStr 0 d c) t fz) := by
  have hlt := (Array.getElem?_eq_some_iff.1 hb).1
  unfold putRow mapBlock
  rw [heap_grow_old _ _ (by simpa [ahead] using hlt)]
  simp [Array.getElem?_modify, hb, ahead, onCells]
theorem sr_size {w : World} {b n : Nat} {d : Array Str} {os : Array Obj} : w.heap.size ≤ (grow (putRow encStr (Sort.ahead w n) b 0 d) os).heap.size := by
  unfold putRow mapBlock
  simp [grow, ahead]
theorem pc_size (d : Array Str) (c : Array Value) : (putCells encStr 0 d c).size = c.size := by simp [putCells]
theorem sortS_perm (l : List Str) : (sortS l).Perm l := List.mergeSort_perm _ _
theorem sortS_length (l : List Str) : (sortS l).length = l.length := (sortS_perm l).length_eq
theorem str_enc {g : Gh} {s : Str} {v : Value} : VR g (.str s) v ↔ v = encStr s := by
  constructor
  · intro h
    obtain ⟨b, rfl, hb⟩ := h.str_inv
    show Value.string b = Value.string _
    congr 1
    cases b
    simp only at hb
    congr 1
    rw [← hb]
  · rintro rfl
    exact .str _ _ rfl
theorem sortStr_ok (l : List Str) (hl : ¬ l = []) (hsz : l.length < 4611686018427387904) (id p : Oid) :
    CallOK Tryz.prog 58 [.sl id 1 l.length] (Oid.under p) ⟨[(id, .arr 1 (l.map .str))], .tuple [], [(id, some (.arr 1 ((sortS l).map .str)))]⟩ := by
  refine ⟨by kernel_rfl, fun x g args w m hm hn hargs hsp hng => ?_⟩
  have hmi := hn _ List.mem_cons_self
  simp only at hmi
  obtain ⟨v, rfl, a0⟩ := hargs.one
  have hne : l.length ≠ 0 := fun e => hl (List.eq_nil_of_length_eq_zero e)
  obtain ⟨b, cap, rfl, hloc, hcap, hrow⟩ := a0.sl_inv'.resolve_left fun h => hne h.1
  obtain ⟨b0, hb0, hcom, hmay, hobj⟩ := hm.objL hmi hloc
  rw [hloc] at hb0; simp only [Option.some.injEq] at hb0; subst hb0
  obtain ⟨c, t, fz, hh, hcs, hfz, hxl, hone, hv⟩ := hobj
  have hlt := (Array.getElem?_eq_some_iff.1 hh).1
  simp only [List.length_map, Nat.mul_one] at hcs hxl hone hv
  have hav : ∀ (l : List Str) i, i < l.length → (l.map AV.str).getD i .undef = .str (l.getD i []) := fun l i hi => by simp [List.getD_eq_getElem?_getD, List.getElem?_map, List.getElem?_eq_getElem hi]
  have hcell : ∀ i, i < l.length → c.getD i undef = encStr (l.getD i []) := fun i hi => by
    have := hv i 0 hi (by omega)
    rw [hav l i hi] at this
    simp only [AV.cells, List.getD_cons_zero, Nat.mul_one, Nat.add_zero] at this
    exact str_enc.1 this
  have hH : Holds encStr w b 0 l.toArray := by
    intro j hj
    have hj' : j < l.length := by simpa using hj
    have hjc : j < c.size := by omega
    constructor
    · have h3 := hcell j hj'
      simp only [World.cell?, hh, Nat.zero_add, Option.isSome_none, Bool.false_eq_true, if_false, Array.getElem?_eq_getElem hjc, Option.some.injEq]
      rw [Array.getD_eq_getD_getElem?, Array.getElem?_eq_getElem hjc, Option.getD_some] at h3
      rw [h3]
      have h5 : l.toArray[j]! = l.getD j [] := by simp [List.getElem?_eq_getElem hj', hj']
      rw [h5]
    · simp only [World.frozen?, hh, Nat.zero_add]
      have := hfz j hjc
      by_cases h : fz.1 ≤ j
      · have : ¬ j < fz.2 := fun h' => this ⟨h, h'⟩
        simp [this]
      · simp [h]
  refine (Tryz.slices_Sort_string b 0 cap l w hH hlt hsz).mono ?_
  rintro en w' ⟨rfl, n, os, rfl⟩
  have hlen := sortS_length l
  show ∃ _ _, _
  refine ⟨g, _, rfl, Gh.le_refl g, fun _ _ => rfl, .tuple _ _ rfl (fun j hj => absurd hj (Nat.not_lt_zero _)), ?_⟩
  have hfold : (l.mergeSort fun x y => decide (x ≤ y)) = sortS l := rfl
  rw [hfold]
  refine hm.turn (o := .arr 1 ((sortS l).map .str)) hmi hloc rfl rfl ⟨rfl, Nat.le_add_right _ _⟩ sr_size (fun b' hb' hlt' => sr_other hb' hlt') (fun r hr => ?_) ?_ ?_
  · obtain ⟨c', t', fz', h2, h3⟩ := hm.rows b r hr
    exact ⟨_, _, _, sr_same h2, by rw [pc_size]; exact h3⟩
  · intro c9 t9 fz9 h9; exact ⟨_, _, sr_same h9⟩
  · have hget : ∀ i, i < (sortS l).length → (putCells encStr 0 (sortS l).toArray c).getD i undef = encStr ((sortS l).getD i []) := fun i hi => by
      have hc2 : i < c.size := by omega
      simp only [putCells, Array.getD_eq_getD_getElem?, Array.getElem?_mapIdx, Array.getElem?_eq_getElem hc2, Option.map_some, Option.getD_some, Nat.zero_le, true_and, Nat.zero_add, Nat.sub_zero, List.size_toArray, hi, if_true]
      congr 1
      simp [List.getElem?_eq_getElem hi, hi]
    refine ⟨_, t, fz, sr_same hh, ?_, ?_, ?_, ?_, ?_⟩
    · rw [pc_size, List.length_map, Nat.mul_one, hlen]; exact hcs
    · rw [pc_size]; exact hfz
    · intro i hi
      rw [hav _ i (by simpa using hi)]; rfl
    · intro j hj
      have hj' : j < (sortS l).length := by simpa using hj
      rw [hget j hj']; rfl
    · intro i j hi hj
      have hi' : i < (sortS l).length := by simpa using hi
      obtain rfl : j = 0 := by omega
      rw [hav _ i hi', Nat.mul_one, Nat.add_zero, hget i hi']
      exact .str _ _ rfl
theorem sortStr_nil (p : Oid) : CallOK Tryz.prog 58 [.nilSl] (Oid.under p) ⟨[], .tuple [], []⟩ :=
  callOK_same (by kernel_rfl) fun g args w ha _ => by
    obtain ⟨v, rfl, hv⟩ := ha.one
    rw [hv.nilSl_inv]
    refine (Tryz.slices_Sort_string_none none 0 w).mono ?_
    rintro e w' ⟨rfl, rfl⟩
    exact ⟨_, rfl, .tuple _ _ rfl (fun j hj => absurd hj (Nat.not_lt_zero _)), rfl⟩
/-! one sorted row -/
theorem sorted_one {l l' : List Str} (hp : l.Perm l') (h1 : l.Pairwise (· ≤ ·)) (h2 : l'.Pairwise (· ≤ ·)) : l = l' := by
  exact List.Perm.eq_of_pairwise (le := (· ≤ ·)) (fun a b _ _ h3 h4 => List.le_antisymm h3 h4) h1 h2 hp
theorem sortS_le (l : List Str) : (sortS l).Pairwise (· ≤ ·) := by
  have := List.pairwise_mergeSort (le := fun (x y : Str) => decide (x ≤ y)) (fun a b c h1 h2 => by
    simp only [decide_eq_true_eq] at h1 h2 ⊢; exact List.le_trans h1 h2) (fun a b => by
    simp only [Bool.or_eq_true, decide_eq_true_eq]; exact List.le_total a b) l
  exact this.imp fun h => by simpa using h
theorem sortS_eq {l l' : List Str} (hp : l.Perm l') (h : l'.Pairwise (· ≤ ·)) : sortS l = l' := sorted_one ((sortS_perm l).trans hp) (sortS_le l) h
theorem sortS_perm_eq {l l' : List Str} (hp : l.Perm l') : sortS l = sortS l' := sorted_one ((sortS_perm l).trans (hp.trans (sortS_perm l').symm)) (sortS_le l) (sortS_le l')
end Go.Proofs.YtbpembafoloinaaGreatDoor
