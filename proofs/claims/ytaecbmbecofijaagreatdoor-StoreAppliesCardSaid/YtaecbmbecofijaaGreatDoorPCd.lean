/- A part of the proof: the texts S23, FwM, S24, S25, S15, S26, FwL, Laid, SX, FwN, Z1, Z2, Z3, Z4, Z5, Z6, Z7, Z8, Z9h, Z10, Z11, Z12, Z13, FwS, SortT, Z14, FwK, one behind the other. -/
import Derived.Test.YtaecbmbecofijaaGreatDoorPCc
import Derived.Sort.Row
import Derived.Deep.DeepHandedRow
import Derived.Lib.LaidTab
import Derived.Test.YtaecbmbecofijaaGreatDoorRows
import Derived.Test.YtaecbmbecofijaaGreatDoorCards
import Derived.Test.YtaecbmbecofijaaGreatDoorTie
import Derived.Shelf.SlMaps.Clone
import Derived.WalkKit
import Derived.Shelf.SlSortCmp.WholeK
import Derived.Shelf.SlLaysF0
import Derived.Test.YtaecbmbecofijaaGreatDoorProg
set_option linter.unusedVariables false
set_option linter.unusedSimpArgs false
set_option linter.unusedSectionVars false
namespace Go.Proofs.YtaecbmbecofijaaGreatDoor
open Go Go.Ab
open Go.Sort Go.RowKit
set_option maxRecDepth 20000
set_option maxHeartbeats 4000000
def sortS (l : List Str) : List Str := l.mergeSort fun x y => decide (x ≤ y)
theorem sr_other {w : World} {b n : Nat} {d : Array Str} {os : Array Obj} {b' : Nat} (hb : b' ≠ b) (hlt : b' < w.heap.size) : (grow (putRow encStr (Sort.ahead w n) b 0 d) os).heap[b']? = w.heap[b']? := by
  unfold putRow mapBlock
  rw [heap_grow_old _ _ (by simpa [ahead] using hlt)]
  simp [Array.getElem?_modify, Ne.symm hb, ahead]
theorem sr_same {w : World} {b n : Nat} {d : Array Str} {os : Array Obj} {c : Array Value} {t : TypeId} {fz : Nat × Nat} (hb : w.heap[b]? = some (.cells c t fz)) :
    (grow (putRow encStr (Sort.ahead w n) b 0 d) os).heap[b]? = some (.cells (putCells encStr 0 d c) t fz) := by
  have hlt := (Array.getElem?_eq_some_iff.1 hb).1
  unfold putRow mapBlock
  rw [heap_grow_old _ _ (by simpa [ahead] using hlt)]
  simp [Array.getElem?_modify, hb, ahead, onCells]
theorem sr_size {w : World} {b n : Nat} {d : Array Str} {os : Array Obj} : w.heap.size ≤ (grow (putRow encStr (Sort.ahead w n) b 0 d) os).heap.size := by
  unfold putRow mapBlock
  simp [grow, ahead]
theorem pc_size (d : Array Str) (c : Array Value) : (putCells encStr 0 d c).size = c.size := by simp [putCells]
theorem sortS_perm (l : List Str) : (sortS l).Perm l := List.mergeSort_perm _ _
theorem sortS_length (l : List Str) : (sortS l).length = l.length := (sortS_perm l).length_eq
theorem str_enc {g : Gh} {s : Str} {v : Value} : VR g (.str s) v ↔ v = encStr s := by
  constructor
  · intro h
    obtain ⟨b, rfl, hb⟩ := h.str_inv
    show Value.string b = Value.string _
    congr 1
    cases b
    simp only at hb
    congr 1
    rw [← hb]
  · rintro rfl
    exact .str _ _ rfl
theorem sortStr_ok (l : List Str) (hl : ¬ l = []) (hsz : l.length < 4611686018427387904) (id p : Oid) :
    CallOK Tryz.prog 118 [.sl id 1 l.length] (Oid.under p) ⟨[(id, .arr 1 (l.map .str))], .tuple [], [(id, some (.arr 1 ((sortS l).map .str)))]⟩ := by
  refine ⟨by kernel_rfl, fun x g args w m hm hn hargs hsp hng => ?_⟩
  have hmi := hn _ List.mem_cons_self
  simp only at hmi
  obtain ⟨v, rfl, a0⟩ := hargs.one
  have hne : l.length ≠ 0 := fun e => hl (List.eq_nil_of_length_eq_zero e)
  obtain ⟨b, cap, rfl, hloc, hcap, hrow⟩ := a0.sl_inv'.resolve_left fun h => hne h.1
  obtain ⟨b0, hb0, hcom, hmay, hobj⟩ := hm.objL hmi hloc
  rw [hloc] at hb0; simp only [Option.some.injEq] at hb0; subst hb0
  obtain ⟨c, t, fz, hh, hcs, hfz, hxl, hone, hv⟩ := hobj
  have hlt := (Array.getElem?_eq_some_iff.1 hh).1
  simp only [List.length_map, Nat.mul_one] at hcs hxl hone hv
  have hav : ∀ (l : List Str) i, i < l.length → (l.map AV.str).getD i .undef = .str (l.getD i []) := fun l i hi => by simp [List.getD_eq_getElem?_getD, List.getElem?_map, List.getElem?_eq_getElem hi]
  have hcell : ∀ i, i < l.length → c.getD i undef = encStr (l.getD i []) := fun i hi => by
    have := hv i 0 hi (by omega)
    rw [hav l i hi] at this
    simp only [AV.cells, List.getD_cons_zero, Nat.mul_one, Nat.add_zero] at this
    exact str_enc.1 this
  have hH : Holds encStr w b 0 l.toArray := by
    intro j hj
    have hj' : j < l.length := by simpa using hj
    have hjc : j < c.size := by omega
    constructor
    · have h3 := hcell j hj'
      simp only [World.cell?, hh, Nat.zero_add, Option.isSome_none, Bool.false_eq_true, if_false, Array.getElem?_eq_getElem hjc, Option.some.injEq]
      rw [Array.getD_eq_getD_getElem?, Array.getElem?_eq_getElem hjc, Option.getD_some] at h3
      rw [h3]
      have h5 : l.toArray[j]! = l.getD j [] := by simp [List.getElem?_eq_getElem hj', hj']
      rw [h5]
    · simp only [World.frozen?, hh, Nat.zero_add]
      have := hfz j hjc
      by_cases h : fz.1 ≤ j
      · have : ¬ j < fz.2 := fun h' => this ⟨h, h'⟩
        simp [this]
      · simp [h]
  refine (Tryz.slices_Sort_string b 0 cap l w hH hlt hsz).mono ?_
  rintro en w' ⟨rfl, n, os, rfl⟩
  have hlen := sortS_length l
  show ∃ _ _, _
  refine ⟨g, _, rfl, Gh.le_refl g, fun _ _ => rfl, .tuple _ _ rfl (fun j hj => absurd hj (Nat.not_lt_zero _)), ?_⟩
  have hfold : (l.mergeSort fun x y => decide (x ≤ y)) = sortS l := rfl
  rw [hfold]
  refine hm.turn (o := .arr 1 ((sortS l).map .str)) hmi hloc rfl rfl ⟨rfl, Nat.le_add_right _ _⟩ sr_size (fun b' hb' hlt' => sr_other hb' hlt') (fun r hr => ?_) ?_ ?_
  · obtain ⟨c', t', fz', h2, h3⟩ := hm.rows b r hr
    exact ⟨_, _, _, sr_same h2, by rw [pc_size]; exact h3⟩
  · intro c9 t9 fz9 h9; exact ⟨_, _, sr_same h9⟩
  · have hget : ∀ i, i < (sortS l).length → (putCells encStr 0 (sortS l).toArray c).getD i undef = encStr ((sortS l).getD i []) := fun i hi => by
      have hc2 : i < c.size := by omega
      simp only [putCells, Array.getD_eq_getD_getElem?, Array.getElem?_mapIdx, Array.getElem?_eq_getElem hc2, Option.map_some, Option.getD_some, Nat.zero_le, true_and, Nat.zero_add, Nat.sub_zero, List.size_toArray, hi, if_true]
      congr 1
      simp [List.getElem?_eq_getElem hi, hi]
    refine ⟨_, t, fz, sr_same hh, ?_, ?_, ?_, ?_, ?_⟩
    · rw [pc_size, List.length_map, Nat.mul_one, hlen]; exact hcs
    · rw [pc_size]; exact hfz
    · intro i hi
      rw [hav _ i (by simpa using hi)]; rfl
    · intro j hj
      have hj' : j < (sortS l).length := by simpa using hj
      rw [hget j hj']; rfl
    · intro i j hi hj
      have hi' : i < (sortS l).length := by simpa using hi
      obtain rfl : j = 0 := by omega
      rw [hav _ i hi', Nat.mul_one, Nat.add_zero, hget i hi']
      exact .str _ _ rfl
theorem sortStr_nil (p : Oid) : CallOK Tryz.prog 118 [.nilSl] (Oid.under p) ⟨[], .tuple [], []⟩ :=
  callOK_same (by kernel_rfl) fun g args w ha _ => by
    obtain ⟨v, rfl, hv⟩ := ha.one
    rw [hv.nilSl_inv]
    refine (Tryz.slices_Sort_string_none none 0 w).mono ?_
    rintro e w' ⟨rfl, rfl⟩
    exact ⟨_, rfl, .tuple _ _ rfl (fun j hj => absurd hj (Nat.not_lt_zero _)), rfl⟩
/-! one sorted row -/
theorem sorted_one {l l' : List Str} (hp : l.Perm l') (h1 : l.Pairwise (· ≤ ·)) (h2 : l'.Pairwise (· ≤ ·)) : l = l' := by
  exact List.Perm.eq_of_pairwise (le := (· ≤ ·)) (fun a b _ _ h3 h4 => List.le_antisymm h3 h4) h1 h2 hp
theorem sortS_le (l : List Str) : (sortS l).Pairwise (· ≤ ·) := by
  have := List.pairwise_mergeSort (le := fun (x y : Str) => decide (x ≤ y)) (fun a b c h1 h2 => by
    simp only [decide_eq_true_eq] at h1 h2 ⊢; exact List.le_trans h1 h2) (fun a b => by
    simp only [Bool.or_eq_true, decide_eq_true_eq]; exact List.le_total a b) l
  exact this.imp fun h => by simpa using h
theorem sortS_eq {l l' : List Str} (hp : l.Perm l') (h : l'.Pairwise (· ≤ ·)) : sortS l = l' := sorted_one ((sortS_perm l).trans hp) (sortS_le l) h
theorem sortS_perm_eq {l l' : List Str} (hp : l.Perm l') : sortS l = sortS l' := sorted_one ((sortS_perm l).trans (hp.trans (sortS_perm l').symm)) (sortS_le l) (sortS_le l')
end Go.Proofs.YtaecbmbecofijaaGreatDoor
namespace Go.Ab
/-! ### a map's entries -/
section
variable {κ ν : Type} [DecidableEq κ] {ek : κ → AV} {ev : ν → AV}
def entG (ek : κ → AV) (ev : ν → AV) (q : κ × ν × Nat) : ME := ⟨ek q.1, ev q.2.1, q.2.2⟩
def prj (q : κ × ν × Nat) : κ × ν := (q.1, q.2.1)
def lookG (n : κ) : List (κ × ν) → Option ν
  | [] => none
  | q :: L => if n = q.1 then some q.2 else lookG n L
def setG (n : κ) (b : ν) (c : Nat) : List (κ × ν × Nat) → List (κ × ν × Nat)
  | [] => [(n, b, c)]
  | q :: L => if n = q.1 then (q.1, b, q.2.2) :: L else q :: setG n b c L
def delG (n : κ) : List (κ × ν × Nat) → List (κ × ν × Nat)
  | [] => []
  | q :: L => if n = q.1 then L else q :: delG n L
def optV (ev : ν → AV) (z : AV) : Option ν → AV
  | some b => ev b
  | none => z
theorem val_G (he : EncOK ek) (n : κ) (z : AV) : ∀ E : List (κ × ν × Nat), valE (ek n) z (E.map (entG ek ev)) = optV ev z (lookG n (E.map prj))
  | [] => rfl
  | q :: L => by
    have ih := val_G he n z L
    have h1 := he n q.1
    simp only [valE, List.map_cons, lookE, entG, h1, lookG, prj] at ih ⊢
    by_cases h : n = q.1
    · simp [h, optV]
    · simp only [h, decide_false, Bool.false_eq_true, if_false]; exact ih
theorem has_G (he : EncOK ek) (n : κ) : ∀ E : List (κ × ν × Nat), hasE (ek n) (E.map (entG ek ev)) = (lookG n (E.map prj)).isSome
  | [] => rfl
  | q :: L => by
    have ih := has_G he n L
    have h1 := he n q.1
    simp only [hasE, List.map_cons, lookE, entG, h1, lookG, prj] at ih ⊢
    by_cases h : n = q.1
    · simp [h]
    · simp only [h, decide_false, Bool.false_eq_true, if_false]; exact ih
theorem set_G (he : EncOK ek) (n : κ) (b : ν) (c : Nat) : ∀ E : List (κ × ν × Nat), setE (ek n) (ev b) c (E.map (entG ek ev)) = (setG n b c E).map (entG ek ev)
  | [] => rfl
  | q :: L => by
    have ih := set_G he n b c L
    have h1 := he n q.1
    simp only [List.map_cons, setE, setG]
    by_cases h : n = q.1
    · simp [h, entG, he q.1 q.1]
    · simp only [h, entG, h1, decide_false, Bool.false_eq_true, if_false, List.map_cons]
      exact congrArg _ ih
theorem del_G (he : EncOK ek) (n : κ) : ∀ E : List (κ × ν × Nat), delE (ek n) (E.map (entG ek ev)) = (delG n E).map (entG ek ev)
  | [] => rfl
  | q :: L => by
    have ih := del_G he n L
    have h1 := he n q.1
    simp only [List.map_cons, delE, delG]
    by_cases h : n = q.1
    · simp [h, entG, he q.1 q.1]
    · simp only [h, entG, h1, decide_false, Bool.false_eq_true, if_false, List.map_cons]
      exact congrArg _ ih
theorem filter_no {n : κ} : ∀ {L : List (κ × ν)}, ¬ n ∈ L.map (·.1) → L.filter (fun q => decide (¬ q.1 = n)) = L
  | [], _ => rfl
  | q :: L, h => by
    simp only [List.map_cons, List.mem_cons, not_or] at h
    have h1 : ¬ q.1 = n := fun e => h.1 e.symm
    rw [List.filter_cons_of_pos (by simpa using h1), filter_no h.2]
theorem setG_perm (n : κ) (b : ν) (c : Nat) : ∀ E : List (κ × ν × Nat), ((E.map prj).map (·.1)).Nodup → ((setG n b c E).map prj).Perm ((n, b) :: (E.map prj).filter fun q => decide (¬ q.1 = n))
  | [], _ => .refl _
  | q :: L, h => by
    simp only [List.map_cons, List.nodup_cons] at h
    have ih := setG_perm n b c L h.2
    simp only [setG]
    by_cases hn : n = q.1
    · subst hn
      rw [if_pos rfl, List.map_cons, List.map_cons, List.filter_cons_of_neg (by simp [prj])]; erw [filter_no h.1]
      exact .refl _
    · rw [if_neg hn, List.map_cons, List.map_cons, List.filter_cons_of_pos (by show decide (¬ (prj q).1 = n) = true; exact decide_eq_true fun e => hn (Eq.symm e))]
      exact (ih.cons _).trans (.swap _ _ _)
theorem delG_eq (n : κ) : ∀ E : List (κ × ν × Nat), ((E.map prj).map (·.1)).Nodup → (delG n E).map prj = (E.map prj).filter fun q => decide (¬ q.1 = n)
  | [], _ => rfl
  | q :: L, h => by
    simp only [List.map_cons, List.nodup_cons] at h
    have ih := delG_eq n L h.2
    simp only [delG]
    by_cases hn : n = q.1
    · subst hn
      rw [if_pos rfl, List.map_cons, List.filter_cons_of_neg (by simp [prj])]; exact (filter_no h.1).symm
    · rw [if_neg hn, List.map_cons, List.map_cons, List.filter_cons_of_pos (by show decide (¬ (prj q).1 = n) = true; exact decide_eq_true fun e => hn (Eq.symm e)), ih]
theorem lookG_mem {n : κ} {b : ν} : ∀ {L : List (κ × ν)}, (L.map (·.1)).Nodup → (lookG n L = some b ↔ (n, b) ∈ L)
  | [], _ => by simp [lookG]
  | q :: L, h => by
    simp only [List.map_cons, List.nodup_cons] at h
    have ih := lookG_mem (n := n) (b := b) h.2
    simp only [lookG]
    by_cases hn : n = q.1
    · subst hn
      rw [if_pos rfl]
      refine ⟨fun e => ?_, fun e => ?_⟩
      · simp only [Option.some.injEq] at e; subst e; exact List.mem_cons_self
      · rcases List.mem_cons.1 e with e | e
        · rw [← e]
        · exact absurd (List.mem_map_of_mem (f := (·.1)) e) h.1
    · rw [if_neg hn, ih]
      exact ⟨List.mem_cons_of_mem _, fun e => (List.mem_cons.1 e).resolve_left fun e => hn (by rw [← e])⟩
theorem lookG_perm {n : κ} {L L' : List (κ × ν)} (hp : L.Perm L') (h : (L.map (·.1)).Nodup) : lookG n L = lookG n L' := by
  have h' : (L'.map (·.1)).Nodup := (hp.map _).nodup_iff.1 h
  cases h1 : lookG n L with
  | some b => rw [eq_comm, lookG_mem h', ← hp.mem_iff, ← lookG_mem h]; exact h1
  | none =>
    cases h2 : lookG n L' with
    | none => rfl
    | some b => rw [lookG_mem h', ← hp.mem_iff, ← lookG_mem h, h1] at h2; cases h2
/-- The map's entries are the list's, in some order. -/
def MapG (ek : κ → AV) (ev : ν → AV) (es : List ME) (L : List (κ × ν)) : Prop := ∃ E : List (κ × ν × Nat), es = E.map (entG ek ev) ∧ (E.map prj).Perm L ∧ (L.map (·.1)).Nodup
omit [DecidableEq κ] in
theorem mapG_new : MapG ek ev [] ([] : List (κ × ν)) := ⟨[], rfl, .refl _, List.nodup_nil⟩
theorem mapG_val (he : EncOK ek) {es : List ME} {L : List (κ × ν)} (h : MapG ek ev es L) (n : κ) (z : AV) : valE (ek n) z es = optV ev z (lookG n L) := by
  obtain ⟨E, rfl, h2, h3⟩ := h
  rw [val_G he, lookG_perm h2 ((h2.map _).nodup_iff.2 h3)]
theorem mapG_has (he : EncOK ek) {es : List ME} {L : List (κ × ν)} (h : MapG ek ev es L) (n : κ) : hasE (ek n) es = (lookG n L).isSome := by
  obtain ⟨E, rfl, h2, h3⟩ := h
  rw [has_G he, lookG_perm h2 ((h2.map _).nodup_iff.2 h3)]
theorem mapG_set (he : EncOK ek) {es : List ME} {L L' : List (κ × ν)} (h : MapG ek ev es L) (n : κ) (b : ν) (c : Nat) (hp : L'.Perm ((n, b) :: L.filter fun q => decide (¬ q.1 = n))) : MapG ek ev (setE (ek n) (ev b) c es) L' := by
  obtain ⟨E, rfl, h2, h3⟩ := h
  have h4 := (h2.map (·.1)).nodup_iff.2 h3
  refine ⟨_, set_G he n b c E, ((setG_perm n b c E h4).trans ((h2.filter _).cons _)).trans hp.symm, ((hp.map (·.1)).nodup_iff).2 ?_⟩
  rw [List.map_cons, List.nodup_cons]
  refine ⟨fun hm => ?_, h3.sublist (List.filter_sublist.map _)⟩
  obtain ⟨q, h5, h6⟩ := List.mem_map.1 hm
  have := (List.mem_filter.1 h5).2
  simp only [decide_eq_true_eq] at this
  exact this h6
theorem mapG_del (he : EncOK ek) {es : List ME} {L L' : List (κ × ν)} (h : MapG ek ev es L) (n : κ) (hp : L'.Perm (L.filter fun q => decide (¬ q.1 = n))) : MapG ek ev (delE (ek n) es) L' := by
  obtain ⟨E, rfl, h2, h3⟩ := h
  have h4 := (h2.map (·.1)).nodup_iff.2 h3
  refine ⟨_, del_G he n E, ?_, ((hp.map (·.1)).nodup_iff).2 (h3.sublist (List.filter_sublist.map _))⟩
  rw [delG_eq n E h4]
  exact (h2.filter _).trans hp.symm
omit [DecidableEq κ] in
/-- What was seen of a map, when all was seen. -/
theorem seen_perm {es S : List ME} (hp : es.Pairwise fun e e' => e.born < e'.born) (hs : ∀ e ∈ S, e ∈ es) (hn : (S.map (·.born)).Nodup) (hall : ∀ e ∈ es, e.born ∈ S.map (·.born)) : S.Perm es := by
  have hne : es.Nodup := (hp.imp fun {a b} h => by intro e; subst e; exact Nat.lt_irrefl _ h)
  have hns : S.Nodup := by
    refine List.Pairwise.imp ?_ (List.pairwise_map.1 hn)
    intro a b h e; exact h (by rw [e])
  refine (List.perm_ext_iff_of_nodup hns hne).2 fun e => ⟨hs e, fun he => ?_⟩
  obtain ⟨e', h1, h2⟩ := List.mem_map.1 (hall e he)
  have h3 : e' = e := by
    apply Classical.byContradiction
    intro hne'
    have hinj : ∀ a ∈ es, ∀ b ∈ es, ¬ a = b → ¬ a.born = b.born := fun a ha b hb hab => by
      have h5 : es.Pairwise fun a b => ¬ a.born = b.born := hp.imp fun h => by omega
      obtain ⟨i, hi, rfl⟩ := List.mem_iff_getElem.1 ha
      obtain ⟨j, hj, rfl⟩ := List.mem_iff_getElem.1 hb
      rw [List.pairwise_iff_getElem] at h5
      rcases Nat.lt_trichotomy i j with h | h | h
      · exact h5 i j hi hj h
      · subst h; exact absurd rfl hab
      · exact fun e => h5 j i hj hi h (Eq.symm e)
    exact hinj e' (hs e' h1) e he hne' h2
  rwa [← h3]
end
/-! ### lists in order -/
section
variable {κ ν : Type} [DecidableEq κ] (lt : κ → κ → Prop) [DecidableRel lt]
/-- A strict order in which any two stand. -/
structure Ord : Prop where
  irr : ∀ a, ¬ lt a a
  tr : ∀ a b c, lt a b → lt b c → lt a c
  tot : ∀ a b, ¬ lt a b → ¬ a = b → lt b a
def tipG (n : κ) : Option ν → List (κ × ν)
  | some b => [(n, b)]
  | none => []
/-- Put at its place; none: taken away. -/
def insG (n : κ) (o : Option ν) : List (κ × ν) → List (κ × ν)
  | [] => tipG n o
  | q :: L => if lt q.1 n then q :: insG n o L else tipG n o ++ (if q.1 = n then L else q :: L)
def SortG (L : List (κ × ν)) : Prop := L.Pairwise fun a b => lt a.1 b.1
variable {lt}
omit [DecidableEq κ] [DecidableRel lt] in
theorem SortG.nodup (ho : Ord lt) {L : List (κ × ν)} (h : SortG lt L) : (L.map (·.1)).Nodup := by
  rw [List.nodup_iff_pairwise_ne, List.pairwise_map]
  exact h.imp fun {a b} h (e : a.1 = b.1) => ho.irr a.1 (by rw [← e] at h; exact h)
theorem insG_filter (ho : Ord lt) (n : κ) (o : Option ν) : ∀ {L : List (κ × ν)}, SortG lt L → (insG lt n o L).Perm (tipG n o ++ L.filter fun q => decide (¬ q.1 = n))
  | [], _ => by simp [insG]
  | q :: L, h => by
    have h2 := List.pairwise_cons.1 h
    have ih := insG_filter ho n o (L := L) h2.2
    simp only [insG]
    by_cases hl : lt q.1 n
    · have hn : ¬ q.1 = n := fun e => ho.irr n (by rw [e] at hl; exact hl)
      rw [if_pos hl, List.filter_cons_of_pos (by simpa using hn)]
      exact (ih.cons _).trans List.perm_middle.symm
    · rw [if_neg hl]
      have hno : ∀ q' ∈ L, ¬ q'.1 = n := fun q' hq e => by
        have := h2.1 q' hq
        rw [e] at this; exact hl this
      have hf : L.filter (fun q => decide (¬ q.1 = n)) = L := filter_no fun hm => by
        obtain ⟨q', h3, h4⟩ := List.mem_map.1 hm
        exact hno q' h3 h4
      by_cases hn : q.1 = n
      · rw [if_pos hn, List.filter_cons_of_neg (by simpa using hn), hf]
      · rw [if_neg hn, List.filter_cons_of_pos (by simpa using hn), hf]
theorem insG_mem {n : κ} {o : Option ν} {x : κ × ν} : ∀ {L : List (κ × ν)}, x ∈ insG lt n o L → x ∈ tipG n o ∨ x ∈ L
  | [], h => .inl h
  | q :: L, h => by
    simp only [insG] at h
    split at h
    · rcases List.mem_cons.1 h with rfl | h
      · exact .inr List.mem_cons_self
      · exact (insG_mem h).imp id (List.mem_cons_of_mem _)
    · rcases List.mem_append.1 h with h | h
      · exact .inl h
      · split at h
        · exact .inr (List.mem_cons_of_mem _ h)
        · exact .inr h
omit [DecidableEq κ] [DecidableRel lt] in
theorem tipG_mem {n : κ} {o : Option ν} {x : κ × ν} (h : x ∈ tipG n o) : x.1 = n ∧ o = some x.2 := by
  cases o with
  | none => cases h
  | some b => simp only [tipG, List.mem_singleton] at h; subst h; exact ⟨rfl, rfl⟩
theorem insG_sort (ho : Ord lt) (n : κ) (o : Option ν) : ∀ {L : List (κ × ν)}, SortG lt L → SortG lt (insG lt n o L)
  | [], _ => by cases o <;> simp [insG, tipG, SortG]
  | q :: L, h => by
    have h2 := List.pairwise_cons.1 h
    have ih := insG_sort ho n o (L := L) h2.2
    simp only [insG]
    by_cases hl : lt q.1 n
    · rw [if_pos hl]
      refine List.pairwise_cons.2 ⟨fun x hx => ?_, ih⟩
      rcases insG_mem hx with hx | hx
      · rw [(tipG_mem hx).1]; exact hl
      · exact h2.1 x hx
    · rw [if_neg hl]
      refine List.pairwise_append.2 ⟨by cases o <;> simp [tipG], ?_, fun x hx y hy => ?_⟩
      · split
        · exact h2.2
        · exact h
      · rw [(tipG_mem hx).1]
        by_cases hn : q.1 = n
        · rw [if_pos hn] at hy; rw [← hn]; exact h2.1 y hy
        · rw [if_neg hn] at hy
          have hq := ho.tot q.1 n hl hn
          rcases List.mem_cons.1 hy with rfl | hy
          · exact hq
          · exact ho.tr _ _ _ hq (h2.1 y hy)
omit [DecidableEq κ] [DecidableRel lt] in
theorem sortG_one (ho : Ord lt) {L L' : List (κ × ν)} (hp : L.Perm L') (h1 : SortG lt L) (h2 : SortG lt L') : L = L' :=
  List.Perm.eq_of_pairwise (le := fun a b : κ × ν => lt a.1 b.1) (fun a b _ _ h3 h4 => absurd (ho.tr _ _ _ h3 h4) (ho.irr _)) h1 h2 hp
theorem lookG_ins (ho : Ord lt) (n n' : κ) (o : Option ν) {L : List (κ × ν)} (h : SortG lt L) : lookG n' (insG lt n o L) = if n' = n then o else lookG n' L := by
  have h1 := insG_sort ho n o h
  have hp := insG_filter ho n o h
  have hnd := h1.nodup ho
  rw [lookG_perm hp hnd]
  have hf : ∀ {L : List (κ × ν)}, lookG n' (L.filter fun q => decide (¬ q.1 = n)) = if n' = n then none else lookG n' L := by
    intro L
    induction L with
    | nil => simp [lookG]
    | cons q L ih =>
      by_cases hn : q.1 = n
      · rw [List.filter_cons_of_neg (by simpa using hn), ih, lookG]
        by_cases h' : n' = n
        · simp [h']
        · have : ¬ n' = q.1 := fun e => h' (e.trans hn)
          simp [h', this]
      · rw [List.filter_cons_of_pos (by simpa using hn), lookG, lookG, ih]
        by_cases h' : n' = n
        · subst h'
          have : ¬ n' = q.1 := fun e => hn (Eq.symm e)
          simp [this]
        · simp [h']
  cases o with
  | none => simp only [tipG, List.nil_append, hf]
  | some b =>
    simp only [tipG, List.cons_append, List.nil_append, lookG, hf]
    by_cases h' : n' = n <;> simp [h']
end
end Go.Ab
namespace Go.Proofs.YtaecbmbecofijaaGreatDoor
open Go Go.Ab
set_option maxRecDepth 20000
set_option maxHeartbeats 4000000
def keyS (e : ME) : Str := match e.key with
  | .str s => s
  | _ => []
/-- What stands right below a place. -/
def restOf (n k : Str) : Option Str := if preT k (n ++ [47]) = true ∧ ¬ 0 ≤ Lib.indexByte (k.drop (n.length + 1)) 47 then some (k.drop (n.length + 1)) else none
theorem of_app {l l' : List (Oid × AObj)} {i : Oid} (h : ∀ q ∈ l, ¬ i = q.1) : Mem.of (l ++ l') i = Mem.of l' i := by
  induction l with
  | nil => rfl
  | cons q l ih => rw [List.cons_append, Mem.of_cons_at, if_neg (h q List.mem_cons_self)]; exact ih fun q' hq' => h q' (List.mem_cons_of_mem _ hq')
theorem app_mem {m : Mem} {B L : List (Oid × AObj)} (h1 : ∀ q, q ∈ B → m q.1 = some q.2) (h2 : ∀ q, q ∈ L → m q.1 = some q.2) : ∀ q, q ∈ B ++ L → m q.1 = some q.2 :=
  fun q hq => (List.mem_append.1 hq).elim (h1 q) (h2 q)
theorem str_of_fits {k : AV} (h : keyFits [.ss] false k = true) : ∃ s, k = .str s := by
  cases k <;> simp [keyFits, AV.isAgg, AV.cells, fits, fitS] at h ⊢
theorem sub_len {es U : List ME} (hp : es.Pairwise fun e e' => e.born < e'.born) (hs : ∀ e ∈ U, e ∈ es) (hn : (U.map (·.born)).Nodup) : U.length ≤ es.length := by
  have h1 : U.Nodup := List.Pairwise.imp (fun h e => h (by rw [e])) (List.pairwise_map.1 hn)
  exact h1.length_le_of_subset fun e he => hs e he
theorem find_born {es : List ME} (hp : es.Pairwise fun e e' => e.born < e'.born) {e : ME} (he : e ∈ es) : es.find? (fun q => q.born == e.born) = some e := by
  induction es with
  | nil => cases he
  | cons a es ih =>
    have h2 := List.pairwise_cons.1 hp
    rcases List.mem_cons.1 he with rfl | he
    · simp
    · have := h2.1 e he
      rw [List.find?_cons_of_neg (by simp; omega)]
      exact ih h2.2 he
theorem below_seq (b1 b2 o : Oid) (n : Str) (hln : n.length ≤ 140737488355000) (es : List ME) (clock : Nat) (hkl : ∀ e ∈ es, (keyS e).length ≤ 140737488355328) (p : Oid) (hne1 : ¬ o = b1) (hne2 : ¬ o = b2) (hne3 : ¬ b2 = b1) (hb1 : ¬ Oid.under p b1) (hb2 : ¬ Oid.under p b2) (ho : ¬ Oid.under p o) :
    SeqND Tryz.prog 141 [.ptr b1 0, .ptr b2 0] p [(b1, .cells [.map o]), (b2, .cells [.str n]), (o, .map [.ss] false es clock)] 1 (fun pre xs => pre.length < es.length ∧ ∃ s : Str, xs = [.str s]) (fun b pre => b = true → ∃ U : List ME, U.Perm es ∧ pre = (U.filterMap fun e => restOf n (keyS e)).map fun s => [.str s]) := by
  intro l J L0 hJ hdis hnp hY
  refine callND_cons (by kernel_rfl) fun hcon => ?_
  refine fnND (n := 32) (rs := []) Tryz.func141 rfl rfl (by decide) rfl rfl rfl ?_; rintro x rfl hrd hng
  have hcL : ∀ q ∈ L0, Mem.of L0 q.1 = some q.2 := fun q hq => by
    have := hcon q (List.mem_append_right _ hq)
    rwa [of_app fun q' hq' => hdis q hq q' hq'] at this
  generalize hQ : DoneN Tryz.prog [] ([(b1, .cells [.map o]), (b2, .cells [.str n]), (o, .map [.ss] false es clock)] ++ L0) _ _ = Q
  refine T_wf fun hwf => ?_
  obtain ⟨hw1, hw2⟩ := hwf o [.ss] false es clock (by simp only [fa_cons, fa_nil, Mem.of_cons_at, Mem.of_nil_at, Mem.of_upds, Mem.of_putL, putLs, putL, List.cons_append, List.nil_append, List.append_nil, ↓reduceIte, eq_self, and_true, true_and, and_self, and_false, false_and, reduceCtorEq, Oid.sub.injEq, Nat.reduceEqDiff, hne1, hne2, hne3, Oid.sub_not_under hb1, Oid.sub_not_under hb2, Oid.sub_not_under ho, Oid.not_under_sub hb1, Oid.not_under_sub hb2, Oid.not_under_sub ho])
  have hstr : ∀ e ∈ es, e.key = .str (keyS e) := fun e he => by
    obtain ⟨s, hs⟩ := str_of_fits (hw1 e he).1
    simp only [keyS, hs]
  (try ((first | refine zn ?_ | refine ze ?_ | refine zk ?_); with_reducible (constructor; repeat constructor)); try refine zl ?_)
  refine K_ev nmd [] hng (by kernel_rfl) fun hf C S K hC1 hC hS hK => ?_; simp (disch := first | omega | assumption) only [go_sem, hne1, hne2, hne3, Oid.sub_not_under hb1, Oid.sub_not_under hb2, Oid.sub_not_under ho, Oid.not_under_sub hb1, Oid.not_under_sub hb2, Oid.not_under_sub ho, of_put_at]
  refine hK ?_; clear hK hS hC hC1 K S C hf
  (try ((first | refine zn ?_ | refine ze ?_ | refine zk ?_); with_reducible (constructor; repeat constructor)); try refine zl ?_)
  have hn0 : ∀ q ∈ L0, ¬ q.1 = b1 ∧ ¬ q.1 = b2 ∧ ¬ q.1 = o ∧ ¬ q.1 = .sub 0 1 x.p := fun q hq => ⟨hdis q hq _ List.mem_cons_self, hdis q hq _ (List.mem_cons_of_mem _ List.mem_cons_self), hdis q hq _ (List.mem_cons_of_mem _ (List.mem_cons_of_mem _ List.mem_cons_self)), fun e => hnp q hq (e ▸ Oid.under_sub (Oid.under_refl _))⟩
  refine K_mem ([(b1, .cells [.map o]), (b2, .cells [.str n]), (o, .map [.ss] false es clock), (.sub 0 1 x.p, .iter (some o) clock [] clock)] ++ L0) (app_mem ?_ ?_) ?_
  · simp only [fa_cons, fa_nil, Mem.of_cons_at, Mem.of_nil_at, Mem.of_upds, Mem.of_putL, putLs, putL, List.cons_append, List.nil_append, List.append_nil, ↓reduceIte, eq_self, and_true, true_and, and_self, and_false, false_and, reduceCtorEq, Oid.sub.injEq, Nat.reduceEqDiff, hne1, hne2, hne3, Oid.sub_not_under hb1, Oid.sub_not_under hb2, Oid.sub_not_under ho, Oid.not_under_sub hb1, Oid.not_under_sub hb2, Oid.not_under_sub ho, of_put_at]
  · intro q hq
    obtain ⟨a1, a2, a3, a4⟩ := hn0 q hq
    simp only [fa_cons, fa_nil, Mem.of_cons_at, Mem.of_nil_at, Mem.of_upds, Mem.of_putL, putLs, putL, List.cons_append, List.nil_append, List.append_nil, ↓reduceIte, eq_self, and_true, true_and, and_self, and_false, false_and, reduceCtorEq, Oid.sub.injEq, Nat.reduceEqDiff, of_put_at, a1, a2, a3, a4]
    exact hcL q hq
  refine K_loop [0, 1, 2, 8] (fun q s' => ∃ (c : Nat) (U : List ME) (L : List (Oid × AObj)), s' = ⟨[(0, .fn (.yield l) [] []), (1, .ptr b1 0), (2, .ptr b2 0), (8, .iter (.sub 0 1 x.p))], Mem.of ([(b1, .cells [.map o]), (b2, .cells [.str n]), (o, .map [.ss] false es clock), (.sub 0 1 x.p, .iter (some o) clock (U.map ME.born) clock)] ++ L), c, []⟩ ∧ 0 < c ∧ q = es.length - U.length ∧ (U.map ME.born).Nodup ∧ (∀ e ∈ U, e ∈ es) ∧ J true ((U.filterMap fun e => restOf n (keyS e)).map fun s => [.str s]) L ∧
    (∀ q ∈ L, Mem.of L q.1 = some q.2) ∧ ∀ q ∈ L, ((∃ q' ∈ L0, q'.1 = q.1) ∨ Oid.under x.p q.1) ∧ ¬ q.1 = b1 ∧ ¬ q.1 = b2 ∧ ¬ q.1 = o ∧ ¬ q.1 = .sub 0 1 x.p ∧ ∀ d j, c ≤ d → ¬ Oid.under (.sub d j x.p) q.1) es.length ⟨_, [], L0, rfl, by omega, rfl, List.nodup_nil, fun i h => (by cases h), hJ, hcL, fun q hq => ⟨.inl ⟨q, hq, rfl⟩, (hn0 q hq).1, (hn0 q hq).2.1, (hn0 q hq).2.2.1, (hn0 q hq).2.2.2, fun d j _ h => hnp q hq (Oid.under_sub h)⟩⟩ ?_
  rintro q s' ⟨c, U, L, rfl, hc, rfl, hnd, hlt, hj, hcc, hnm⟩
  have hst : U.map ME.born = [] ∨ es = [] ∨ ∃ e ∈ es, e.born < clock := by
    cases U with
    | nil => exact .inl rfl
    | cons e _ => exact .inr (.inr ⟨e, hlt e List.mem_cons_self, (hw1 e (hlt e List.mem_cons_self)).2⟩)
  (try ((first | refine zn ?_ | refine ze ?_ | refine zk ?_); with_reducible (constructor; repeat constructor)); try refine zl ?_)
  refine K_ev nmd [] hng (by kernel_rfl) fun hf C S K hC1 hC hS hK => ?_; simp (disch := first | omega | assumption) only [go_sem]
  refine hS _ _ _ (fun o' hd ho' => nd_next (it := .sub 0 1 x.p) (id := o) (since := clock) (ks := [.ss]) (ag := false) (clock := clock) ho' rfl hst) ?_ ?_ (fun _ _ h => h.elim)
  · simp only [fa_cons, fa_nil, Mem.of_cons_at, Mem.of_nil_at, Mem.of_upds, Mem.of_putL, putLs, putL, List.cons_append, List.nil_append, List.append_nil, ↓reduceIte, eq_self, and_true, true_and, and_self, and_false, false_and, reduceCtorEq, Oid.sub.injEq, Nat.reduceEqDiff, hne1, hne2, hne3, Oid.sub_not_under hb1, Oid.sub_not_under hb2, Oid.sub_not_under ho, Oid.not_under_sub hb1, Oid.not_under_sub hb2, Oid.not_under_sub ho]
  rintro val upd (⟨e, he, hns, rfl, rfl⟩ | ⟨hall, rfl, rfl⟩)
  · have hfi := find_born hw2 he
    have hk := hstr e he
    have hkl1 := hkl e he
    have hnd' : ((U ++ [e]).map ME.born).Nodup := by
      rw [List.map_append]
      exact List.nodup_append.2 ⟨hnd, by simp, fun a ha b hb' e' => by simp at hb'; subst hb'; subst e'; exact hns ha⟩
    have hlt' : ∀ j ∈ U ++ [e], j ∈ es := fun j hj => by
      rcases List.mem_append.1 hj with hj | hj
      · exact hlt j hj
      · simp at hj; subst hj; exact he
    have hle := sub_len hw2 hlt' hnd'
    have hfm : (U.filterMap fun e => restOf n (keyS e)).length ≤ U.length := List.length_filterMap_le ..
    have hrest : ((U ++ [e]).filterMap fun e => restOf n (keyS e)) = (U.filterMap fun e => restOf n (keyS e)) ++ (restOf n (keyS e)).toList := by
      rw [List.filterMap_append]; congr 1
    generalize keyS e = s at *
    simp (disch := first | omega | assumption) only [go_sem, hne1, hne2, hne3, Oid.sub_not_under hb1, Oid.sub_not_under hb2, Oid.sub_not_under ho, Oid.not_under_sub hb1, Oid.not_under_sub hb2, Oid.not_under_sub ho, of_put_at, hk]
    refine hK ?_; clear hK hS hC hC1 K S C hf
    (repeat (first | (refine K_ifT rfl rfl ?_) | (refine K_ifF rfl rfl ?_) | (refine K_ev nmd [] hng (by kernel_rfl) fun hf C S K hC1 hC hS hK => ?_; simp (disch := first | omega | assumption) only [go_sem]; refine hK ?_; clear hK hS hC hC1 K S C hf) | ((first | refine zv ?_ | refine zw ?_ | refine zu ?_); with_reducible (constructor; repeat constructor); try refine zl ?_)))
    refine K_block ?_
    (repeat (first | (refine K_ifT rfl rfl ?_) | (refine K_ifF rfl rfl ?_) | (refine K_ev nmd [] hng (by kernel_rfl) fun hf C S K hC1 hC hS hK => ?_; simp (disch := first | omega | assumption) only [go_sem]; refine hK ?_; clear hK hS hC hC1 K S C hf) | ((first | refine zv ?_ | refine zw ?_ | refine zu ?_); with_reducible (constructor; repeat constructor); try refine zl ?_)))
    refine K_ev nmd [] hng (by kernel_rfl) fun hf C S K hC1 hC hS hK => ?_; simp (disch := first | omega | assumption) only [go_sem, hne1, hne2, hne3, Oid.sub_not_under hb1, Oid.sub_not_under hb2, Oid.sub_not_under ho, Oid.not_under_sub hb1, Oid.not_under_sub hb2, Oid.not_under_sub ho, of_put_at, hfi, hk, List.getLast?_concat]
    refine hK ?_; clear hK hS hC hC1 K S C hf
    (repeat (first | (refine K_ifT rfl rfl ?_) | (refine K_ifF rfl rfl ?_) | (refine K_ev nmd [] hng (by kernel_rfl) fun hf C S K hC1 hC hS hK => ?_; simp (disch := first | omega | assumption) only [go_sem]; refine hK ?_; clear hK hS hC hC1 K S C hf) | ((first | refine zv ?_ | refine zw ?_ | refine zu ?_); with_reducible (constructor; repeat constructor); try refine zl ?_)))
    refine K_ev nmd [] hng (by kernel_rfl) fun hf C S K hC1 hC hS hK => ?_; simp (disch := first | omega | assumption) only [go_sem, hne1, hne2, hne3, Oid.sub_not_under hb1, Oid.sub_not_under hb2, Oid.sub_not_under ho, Oid.not_under_sub hb1, Oid.not_under_sub hb2, Oid.not_under_sub ho, of_put_at]
    refine hC1 _ (cutPrefix_ok s (n ++ [47]) (by omega) (by simp only [List.length_append, List.length_cons, List.length_nil]; omega) _) (by simp (disch := first | omega | assumption) only [go_sem]) ?_
    simp (disch := first | omega | assumption) only [go_sem]
    refine hK ?_; clear hK hS hC hC1 K S C hf
    have hnm2 : ∀ q ∈ L, ((∃ q' ∈ L0, q'.1 = q.1) ∨ Oid.under x.p q.1) ∧ ¬ q.1 = b1 ∧ ¬ q.1 = b2 ∧ ¬ q.1 = o ∧ ¬ q.1 = .sub 0 1 x.p ∧ ∀ d j, c + 4 ≤ d → ¬ Oid.under (.sub d j x.p) q.1 := fun q hq => by
      obtain ⟨a0, a1, a2, a3, a4, a5⟩ := hnm q hq
      exact ⟨a0, a1, a2, a3, a4, fun d j hd => a5 d j (by omega)⟩
    have hnL : ∀ q ∈ L, ∀ q' ∈ ([(b1, .cells [.map o]), (b2, .cells [.str n]), (o, .map [.ss] false es clock), (.sub 0 1 x.p, .iter (some o) clock (U.map ME.born ++ [e.born]) clock)] : List (Oid × AObj)), ¬ q.1 = q'.1 := fun q hq => by
      obtain ⟨_, a1, a2, a3, a4, a5⟩ := hnm q hq
      simp only [fa_cons, fa_nil, Mem.of_cons_at, Mem.of_nil_at, Mem.of_upds, Mem.of_putL, putLs, putL, List.cons_append, List.nil_append, List.append_nil, ↓reduceIte, eq_self, and_true, true_and, and_self, and_false, false_and, reduceCtorEq, Oid.sub.injEq, Nat.reduceEqDiff, a1, a2, a3, a4, not_false_eq_true]
    have hBm : ∀ q ∈ ([(b1, .cells [.map o]), (b2, .cells [.str n]), (o, .map [.ss] false es clock), (.sub 0 1 x.p, .iter (some o) clock (U.map ME.born ++ [e.born]) clock)] : List (Oid × AObj)), Mem.of ([(b1, .cells [.map o]), (b2, .cells [.str n]), (o, .map [.ss] false es clock), (.sub 0 1 x.p, .iter (some o) clock (U.map ME.born ++ [e.born]) clock)] ++ L) q.1 = some q.2 := by
      simp only [fa_cons, fa_nil, Mem.of_cons_at, Mem.of_nil_at, Mem.of_upds, Mem.of_putL, putLs, putL, List.cons_append, List.nil_append, List.append_nil, ↓reduceIte, eq_self, and_true, true_and, and_self, and_false, false_and, reduceCtorEq, Oid.sub.injEq, Nat.reduceEqDiff, hne1, hne2, hne3, Oid.sub_not_under hb1, Oid.sub_not_under hb2, Oid.sub_not_under ho, Oid.not_under_sub hb1, Oid.not_under_sub hb2, Oid.not_under_sub ho]
    have hall := cons_app hBm hnL hcc
    have hmm : (U ++ [e]).map ME.born = U.map ME.born ++ [e.born] := by simp
    have hlen2 : (U ++ [e]).length = U.length + 1 := by simp
    by_cases hp : preT s (n ++ [47]) = true
    · by_cases hq : 0 ≤ Lib.indexByte (s.drop (n.length + 1)) 47
      · have hro : restOf n s = none := if_neg fun h => h.2 hq
        (repeat (first | (refine K_ifT rfl rfl ?_) | (refine K_ifF rfl rfl ?_) | (refine K_ev nmd [] hng (by kernel_rfl) fun hf C S K hC1 hC hS hK => ?_; simp (disch := first | omega | assumption) only [go_sem]; refine hK ?_; clear hK hS hC hC1 K S C hf) | ((first | refine zv ?_ | refine zw ?_ | refine zu ?_); with_reducible (constructor; repeat constructor); try refine zl ?_)))
        refine K_ev nmd [(1, 21), (6, 26)] hng (by kernel_rfl) fun hf C S K hC1 hC hS hK => ?_; simp (disch := first | omega | assumption) only [go_sem, hp]
        refine hC1 _ (contains_ok (s.drop (n.length + 1)) 47 _) (by simp (disch := first | omega | assumption) only [go_sem]) ?_
        simp (disch := first | omega | assumption) only [go_sem, hq]
        refine hK ?_; clear hK hS hC hC1 K S C hf
        (repeat (first | (refine K_ifT rfl rfl ?_) | (refine K_ifF rfl rfl ?_) | (refine K_ev nmd [] hng (by kernel_rfl) fun hf C S K hC1 hC hS hK => ?_; simp (disch := first | omega | assumption) only [go_sem]; refine hK ?_; clear hK hS hC hC1 K S C hf) | ((first | refine zn ?_ | refine ze ?_ | refine zk ?_); with_reducible (constructor; repeat constructor); try refine zl ?_)))
        refine ⟨_, Mem.of ([(b1, .cells [.map o]), (b2, .cells [.str n]), (o, .map [.ss] false es clock), (.sub 0 1 x.p, .iter (some o) clock (U.map ME.born ++ [e.born]) clock)] ++ L), ?_, mem_sub hall, c + 1 + 1 + 1 + 1, U ++ [e], L, by rw [hmm]; rfl, by omega, rfl, hnd', hlt', ?_, hcc, hnm2⟩
        · rw [hlen2] at hle ⊢; omega
        · rw [hrest, hro]; simpa using hj
      · have hro : restOf n s = some (s.drop (n.length + 1)) := if_pos ⟨hp, hq⟩
        (repeat (first | (refine K_ifT rfl rfl ?_) | (refine K_ifF rfl rfl ?_) | (refine K_ev nmd [] hng (by kernel_rfl) fun hf C S K hC1 hC hS hK => ?_; simp (disch := first | omega | assumption) only [go_sem]; refine hK ?_; clear hK hS hC hC1 K S C hf) | ((first | refine zv ?_ | refine zw ?_ | refine zu ?_); with_reducible (constructor; repeat constructor); try refine zl ?_)))
        refine K_ev nmd [(1, 21), (6, 26)] hng (by kernel_rfl) fun hf C S K hC1 hC hS hK => ?_; simp (disch := first | omega | assumption) only [go_sem, hp]
        refine hC1 _ (contains_ok (s.drop (n.length + 1)) 47 _) (by simp (disch := first | omega | assumption) only [go_sem]) ?_
        simp (disch := first | omega | assumption) only [go_sem, hq]
        generalize hr : s.drop (n.length + 1) = r at *
        refine hS _ _ _ (fun o' hd ho' => eff_yield ho' rfl (hY _ [.str r] L (.sub (c + 1 + 1 + 1) 9 x.p) hj rfl ⟨by rw [List.length_map]; rw [hlen2] at hle; omega, r, rfl⟩)) (fun q hq => hall q (List.mem_append_right _ hq)) ?_ (fun _ _ h => h.elim)
        rintro val upd ⟨b, L', rfl, hj', hU⟩
        have hym := yield_mem hU (fun q hq => hall q (List.mem_append_right _ hq)) hBm ?_
        rotate_left
        · intro q hq
          refine ⟨fun q' hq' => hnL q' hq' q hq, fun hu => ?_⟩
          simp only [List.mem_cons, List.not_mem_nil, or_false] at hq
          rcases hq with rfl | rfl | rfl | rfl
          · exact hb1 (Oid.under_sub hu)
          · exact hb2 (Oid.under_sub hu)
          · exact ho (Oid.under_sub hu)
          · have := (Oid.apart hu (Oid.under_refl _)).1; omega
        have hcl : ∀ q ∈ L', Mem.of L' q.1 = some q.2 := fun q hq => by
          obtain ⟨o', ho'⟩ := Mem.of_some hq
          obtain ⟨q', h1, h2, h3⟩ := Mem.of_mem ho'
          have h4 := hym q (List.mem_append_right _ hq)
          have h5 := hym q' (List.mem_append_right _ h1)
          rw [h2, h4, h3] at h5
          rw [ho']; exact h5.symm
        simp (disch := first | omega | assumption) only [go_sem]
        refine hK ?_; clear hK hS hC hC1 K S C hf
        (repeat (first | (refine K_ifT rfl rfl ?_) | (refine K_ifF rfl rfl ?_) | (refine K_ev nmd [] hng (by kernel_rfl) fun hf C S K hC1 hC hS hK => ?_; simp (disch := first | omega | assumption) only [go_sem]; refine hK ?_; clear hK hS hC hC1 K S C hf) | ((first | refine zv ?_ | refine zw ?_ | refine zu ?_); with_reducible (constructor; repeat constructor); try refine zl ?_)))
        refine K_mem ([(b1, .cells [.map o]), (b2, .cells [.str n]), (o, .map [.ss] false es clock), (.sub 0 1 x.p, .iter (some o) clock (U.map ME.born ++ [e.born]) clock)] ++ L') (by rw [← Mem.of_upds]; exact hym) ?_
        have hnm' : ∀ q ∈ L', ((∃ q' ∈ L0, q'.1 = q.1) ∨ Oid.under x.p q.1) ∧ ¬ q.1 = b1 ∧ ¬ q.1 = b2 ∧ ¬ q.1 = o ∧ ¬ q.1 = .sub 0 1 x.p ∧ ∀ d j, c + 1 + 1 + 1 + 1 ≤ d → ¬ Oid.under (.sub d j x.p) q.1 := fun q hq => by
          rcases hU.nam q hq with ⟨q', h1, h2⟩ | h1
          · obtain ⟨a0, a1, a2, a3, a4, a5⟩ := hnm q' h1
            rw [h2] at a0 a1 a2 a3 a4 a5
            exact ⟨a0, a1, a2, a3, a4, fun d j hd => a5 d j (by omega)⟩
          · have hu := Oid.under_sub h1
            refine ⟨.inr hu, fun e => hb1 (e ▸ hu), fun e => hb2 (e ▸ hu), fun e => ho (e ▸ hu), fun e => ?_, fun d j hd h2 => ?_⟩
            · rw [e] at h1; have := (Oid.apart h1 (Oid.under_refl _)).1; omega
            · have := (Oid.apart h1 h2).1; omega
        have hmap : ((U ++ [e]).filterMap fun e => restOf n (keyS e)).map (fun s => [AV.str s]) = ((U.filterMap fun e => restOf n (keyS e)).map fun s => [AV.str s]) ++ [[.str r]] := by rw [hrest, hro]; simp
        have hnL' : ∀ q ∈ L', ∀ q' ∈ ([(b1, .cells [.map o]), (b2, .cells [.str n]), (o, .map [.ss] false es clock), (.sub 0 1 x.p, .iter (some o) clock (U.map ME.born ++ [e.born]) clock)] : List (Oid × AObj)), ¬ q.1 = q'.1 := fun q hq => by
          obtain ⟨_, a1, a2, a3, a4, a5⟩ := hnm' q hq
          simp only [fa_cons, fa_nil, Mem.of_cons_at, Mem.of_nil_at, Mem.of_upds, Mem.of_putL, putLs, putL, List.cons_append, List.nil_append, List.append_nil, ↓reduceIte, eq_self, and_true, true_and, and_self, and_false, false_and, reduceCtorEq, Oid.sub.injEq, Nat.reduceEqDiff, a1, a2, a3, a4, not_false_eq_true]
        have hall' := cons_app (L := L') (B := [(b1, .cells [.map o]), (b2, .cells [.str n]), (o, .map [.ss] false es clock), (.sub 0 1 x.p, .iter (some o) clock (U.map ME.born ++ [e.born]) clock)]) (fun q hq => by
          have := hym q (List.mem_append_left _ hq)
          revert q
          simp only [fa_cons, fa_nil, Mem.of_cons_at, Mem.of_nil_at, Mem.of_upds, Mem.of_putL, putLs, putL, List.cons_append, List.nil_append, List.append_nil, ↓reduceIte, eq_self, and_true, true_and, and_self, and_false, false_and, reduceCtorEq, Oid.sub.injEq, Nat.reduceEqDiff, hne1, hne2, hne3, Oid.sub_not_under hb1, Oid.sub_not_under hb2, Oid.sub_not_under ho, Oid.not_under_sub hb1, Oid.not_under_sub hb2, Oid.not_under_sub ho, implies_true]) hnL' hcl
        cases b with
        | true =>
          (repeat (first | (refine K_ifT rfl rfl ?_) | (refine K_ifF rfl rfl ?_) | (refine K_ev nmd [] hng (by kernel_rfl) fun hf C S K hC1 hC hS hK => ?_; simp (disch := first | omega | assumption) only [go_sem]; refine hK ?_; clear hK hS hC hC1 K S C hf) | ((first | refine zn ?_ | refine ze ?_ | refine zk ?_); with_reducible (constructor; repeat constructor); try refine zl ?_)))
          rw [← hmap] at hj'
          refine ⟨_, Mem.of ([(b1, .cells [.map o]), (b2, .cells [.str n]), (o, .map [.ss] false es clock), (.sub 0 1 x.p, .iter (some o) clock (U.map ME.born ++ [e.born]) clock)] ++ L'), ?_, mem_sub hall', c + 1 + 1 + 1 + 1, U ++ [e], L', by rw [hmm]; rfl, by omega, rfl, hnd', hlt', hj', hcl, hnm'⟩
          rw [hlen2] at hle ⊢; omega
        | false =>
          refine K_ifT rfl rfl (K_ret ?_)
          subst hQ
          have hsw := swap_of (L := [(b1, .cells [.map o]), (b2, .cells [.str n]), (o, .map [.ss] false es clock)] ++ L0) (L' := [(b1, .cells [.map o]), (b2, .cells [.str n]), (o, .map [.ss] false es clock)] ++ L') (m := Mem.of ([(b1, .cells [.map o]), (b2, .cells [.str n]), (o, .map [.ss] false es clock), (.sub 0 1 x.p, .iter (some o) clock (U.map ME.born ++ [e.born]) clock)] ++ L')) (sp := Oid.under x.p) (fun q hq => hall' q (by
              rcases List.mem_append.1 hq with hq | hq
              · exact List.mem_append_left _ (by simp only [List.mem_cons, List.not_mem_nil, or_false] at hq ⊢; rcases hq with h | h | h <;> simp [h])
              · exact List.mem_append_right _ hq)) (fun q hq => by
              rcases List.mem_append.1 hq with hq | hq
              · exact .inl ⟨q, List.mem_append_left _ hq, rfl⟩
              · rcases (hnm' q hq).1 with ⟨q', h1, h2⟩ | h
                · exact .inl ⟨q', List.mem_append_right _ h1, h2⟩
                · exact .inr h)
          exact done_ret _ _ rfl ⟨false, _, L', fun h => (by cases h), hj', hsw.1⟩ hsw.2
    · have hro : restOf n s = none := if_neg fun h => hp h.1
      rw [Bool.not_eq_true] at hp
      (repeat (first | (refine K_ifT rfl rfl ?_) | (refine K_ifF rfl rfl ?_) | (refine K_ev nmd [] hng (by kernel_rfl) fun hf C S K hC1 hC hS hK => ?_; simp (disch := first | omega | assumption) only [go_sem]; refine hK ?_; clear hK hS hC hC1 K S C hf) | ((first | refine zv ?_ | refine zw ?_ | refine zu ?_); with_reducible (constructor; repeat constructor); try refine zl ?_)))
      refine K_ev nmd [(1, 21), (6, 26)] hng (by kernel_rfl) fun hf C S K hC1 hC hS hK => ?_; simp (disch := first | omega | assumption) only [go_sem, hp]
      refine hK ?_; clear hK hS hC hC1 K S C hf
      (repeat (first | (refine K_ifT rfl rfl ?_) | (refine K_ifF rfl rfl ?_) | (refine K_ev nmd [] hng (by kernel_rfl) fun hf C S K hC1 hC hS hK => ?_; simp (disch := first | omega | assumption) only [go_sem]; refine hK ?_; clear hK hS hC hC1 K S C hf) | ((first | refine zn ?_ | refine ze ?_ | refine zk ?_); with_reducible (constructor; repeat constructor); try refine zl ?_)))
      refine ⟨_, Mem.of ([(b1, .cells [.map o]), (b2, .cells [.str n]), (o, .map [.ss] false es clock), (.sub 0 1 x.p, .iter (some o) clock (U.map ME.born ++ [e.born]) clock)] ++ L), ?_, mem_sub hall, c + 1 + 1 + 1 + 1, U ++ [e], L, by rw [hmm]; rfl, by omega, rfl, hnd', hlt', ?_, hcc, hnm2⟩
      · rw [hlen2] at hle ⊢; omega
      · rw [hrest, hro]; simpa using hj
  · simp (disch := first | omega | assumption) only [go_sem]
    refine hK ?_; clear hK hS hC hC1 K S C hf
    (try ((first | refine zn ?_ | refine ze ?_ | refine zk ?_); with_reducible (constructor; repeat constructor)); try refine zl ?_)
    subst hQ
    have hfull := seen_perm hw2 hlt hnd fun e he => hall e he (hw1 e he).2
    have hnL : ∀ q ∈ L, ∀ q' ∈ ([(b1, .cells [.map o]), (b2, .cells [.str n]), (o, .map [.ss] false es clock), (.sub 0 1 x.p, .iter (some o) clock (U.map ME.born) clock)] : List (Oid × AObj)), ¬ q.1 = q'.1 := fun q hq => by
      obtain ⟨_, a1, a2, a3, a4, a5⟩ := hnm q hq
      simp only [fa_cons, fa_nil, Mem.of_cons_at, Mem.of_nil_at, Mem.of_upds, Mem.of_putL, putLs, putL, List.cons_append, List.nil_append, List.append_nil, ↓reduceIte, eq_self, and_true, true_and, and_self, and_false, false_and, reduceCtorEq, Oid.sub.injEq, Nat.reduceEqDiff, a1, a2, a3, a4, not_false_eq_true]
    have hall' := cons_app (L := L) (B := [(b1, .cells [.map o]), (b2, .cells [.str n]), (o, .map [.ss] false es clock), (.sub 0 1 x.p, .iter (some o) clock (U.map ME.born) clock)]) (by
      simp only [fa_cons, fa_nil, Mem.of_cons_at, Mem.of_nil_at, Mem.of_upds, Mem.of_putL, putLs, putL, List.cons_append, List.nil_append, List.append_nil, ↓reduceIte, eq_self, and_true, true_and, and_self, and_false, false_and, reduceCtorEq, Oid.sub.injEq, Nat.reduceEqDiff, hne1, hne2, hne3, Oid.sub_not_under hb1, Oid.sub_not_under hb2, Oid.sub_not_under ho, Oid.not_under_sub hb1, Oid.not_under_sub hb2, Oid.not_under_sub ho]) hnL hcc
    have hsw := swap_of (L := [(b1, .cells [.map o]), (b2, .cells [.str n]), (o, .map [.ss] false es clock)] ++ L0) (L' := [(b1, .cells [.map o]), (b2, .cells [.str n]), (o, .map [.ss] false es clock)] ++ L) (m := Mem.of ([(b1, .cells [.map o]), (b2, .cells [.str n]), (o, .map [.ss] false es clock), (.sub 0 1 x.p, .iter (some o) clock (U.map ME.born) clock)] ++ L)) (sp := Oid.under x.p) (fun q hq => hall' q (by
          rcases List.mem_append.1 hq with hq | hq
          · exact List.mem_append_left _ (by simp only [List.mem_cons, List.not_mem_nil, or_false] at hq ⊢; rcases hq with h | h | h <;> simp [h])
          · exact List.mem_append_right _ hq)) (fun q hq => by
          rcases List.mem_append.1 hq with hq | hq
          · exact .inl ⟨q, List.mem_append_left _ hq, rfl⟩
          · rcases (hnm q hq).1 with ⟨q', h1, h2⟩ | h
            · exact .inl ⟨q', List.mem_append_right _ h1, h2⟩
            · exact .inr h)
    refine K_ifF rfl rfl ?_
    (try ((first | refine zn ?_ | refine ze ?_ | refine zk ?_); with_reducible (constructor; repeat constructor)); try refine zl ?_)
    refine K_nil ?_
    exact done_normal _ _ rfl ⟨true, _, L, fun _ => ⟨U, hfull, rfl⟩, hj, hsw.1⟩ hsw.2
end Go.Proofs.YtaecbmbecofijaaGreatDoor
namespace Go.Proofs.YtaecbmbecofijaaGreatDoor
open Go Go.Ab
set_option maxRecDepth 20000
set_option maxHeartbeats 4000000
theorem bindA_one (t : Nat) (a : AV) (fr : List (Nat × AV)) : bindA [t] [a] fr = (t, a) :: fr := rfl
theorem T_fresh {P : Program} [Laid P] {x : Ctx} {n : Nat} {a : Code} {Q : AX → AS → Prop} {fr : List (Nat × AV)} {m : Mem} {c : Nat} {ds : List AD} (h : (∀ i, Young x.p c i → m i = none) → T P x n a ⟨fr, m, c, ds⟩ Q) : T P x n a ⟨fr, m, c, ds⟩ Q :=
  fun g a w hr => h hr.fresh g a w hr
theorem T_aft {P : Program} [Laid P] {x : Ctx} {n : Nat} {a : Code} {Q : AX → AS → Prop} {s : AS} (h : T P x n a s (after P x n Q [])) : T P x n a s Q := T_mono h fun _ _ h => h
/-- A row of strings: none, or its own. -/
def SRow (l : List Str) (v : AV) (L : List (Oid × AObj)) (sp : Oid → Prop) : Prop :=
  (l = [] ∧ v = .nilSl ∧ L = []) ∨ (¬ l = [] ∧ ∃ id, v = .sl id 1 l.length ∧ L = [(id, .arr 1 (l.map .str))] ∧ sp id)
theorem SRow.mono {l : List Str} {v : AV} {L : List (Oid × AObj)} {sp sp' : Oid → Prop} (h : SRow l v L sp) (hs : ∀ i, sp i → sp' i) : SRow l v L sp' := h.imp id fun ⟨a, i, b, c, d⟩ => ⟨a, i, b, c, hs i d⟩
theorem appendSeq_ok (gf : FuncId) (cap : List AV) (need : List (Oid × AObj)) (N : Nat) (S : Bool → List (List AV) → Prop) (hN : N ≤ 2000000000000) (p : Oid) (hnp : ∀ q ∈ need, ¬ Oid.under p q.1) (hna : ∀ q ∈ need, ∀ sz xs, ¬ q.2 = .arr sz xs)
    (hseq : ∀ p', Oid.under p p' → SeqND Tryz.prog gf cap p' need 1 (fun pre xs => pre.length < N ∧ ∃ h : Str, xs = [.str h]) S) :
    CallND Tryz.prog 156 [.nilSl, .fn (.func gf) [] cap] (Oid.under p) need (fun v u => ∃ l L', S true (l.map fun h => [.str h]) ∧ SRow l v L' (Oid.under p) ∧ u = sets L') (fun _ _ => False) := by
  refine callND_cons (by kernel_rfl) fun hcon => ?_
  refine fnND (n := 13) (rs := [.tmp 4]) Tryz.func156 rfl rfl (by decide) rfl rfl rfl ?_; rintro x rfl hrd hng
  have hnb : ∀ q ∈ need, ¬ q.1 = .sub 0 0 x.p := fun q hq e => hnp q hq (e ▸ Oid.under_sub (Oid.under_refl _))
  generalize hQ : DoneN Tryz.prog _ need _ _ = Q
  (try ((first | refine zn ?_ | refine ze ?_ | refine zk ?_); with_reducible (constructor; repeat constructor)); try refine zl ?_)
  refine K_ev nmd [] hng (by kernel_rfl) fun hf C S K hC1 hC hS hK => ?_; simp (disch := first | omega | assumption) only [go_sem, of_put_at]
  refine hK ?_; clear hK hS hC hC1 K S C hf
  (repeat (first | (refine K_ifT rfl rfl ?_) | (refine K_ifF rfl rfl ?_) | (refine K_ev nmd [] hng (by kernel_rfl) fun hf C S K hC1 hC hS hK => ?_; simp (disch := first | omega | assumption) only [go_sem]; refine hK ?_; clear hK hS hC hC1 K S C hf) | ((first | refine zn ?_ | refine ze ?_ | refine zk ?_); with_reducible (constructor; repeat constructor); try refine zl ?_)))
  refine T_rangeFunc (S := S) hrd hng (by decide) rfl rfl (hseq _ (Oid.under_sub (Oid.under_refl _))) ?_
    (fun jump pre L => jump = none ∧ ∃ (l : List Str) (v : AV) (L1 : List (Oid × AObj)), pre = l.map (fun h => [.str h]) ∧ SRow l v L1 (fun id => ¬ id = .sub 0 0 x.p) ∧ L = (.sub 0 0 x.p, .cells [v]) :: L1)
    [(.sub 0 0 x.p, .cells [.nilSl])] ⟨rfl, [], .nilSl, [], rfl, .inl ⟨rfl, rfl, rfl⟩, rfl⟩ ?_ ?_
    (fun _ xs L1 p' s => ∃ h : Str, xs = [.str h] ∧ F s.fr 5 = .str h ∧ F s.fr 2 = .ptr (.sub 0 0 x.p) 0 ∧ (∀ q, q ∈ L1 → s.mem q.1 = some q.2) ∧ s.ds = [] ∧ 0 < s.c ∧ ¬ p' = x.p) ?_ ?_ ?_ ?_
  · intro q hq
    rw [of_put_at, if_neg (hnb q hq)]; exact hcon q hq
  · intro q hq
    simp only [List.mem_singleton] at hq
    subst hq
    rw [of_put_at, if_pos rfl]
  · intro q hq q' hq' e
    simp only [List.mem_singleton] at hq
    subst hq
    exact hnb q' hq' e.symm
  · rintro y l0 pre xs L1 ⟨_, l, v, L2, rfl, hr, rfl⟩ _ ⟨hlen, h, rfl⟩ hyr hyg
    refine T_aft (T_fresh fun hf => ?_)
    replace hng := hyg
    have hfy := hf (.sub 0 0 y.p) ⟨0, 0, Nat.le_refl _, Oid.under_refl _⟩
    have hb : ¬ Oid.sub 0 0 y.p = .sub 0 0 x.p := fun e => by rw [e] at hfy; simp [Mem.of_cons_at] at hfy
    have hb2 : ¬ y.p = x.p := fun e => hb (by rw [e])
    generalize hrest : L2 = rest at hfy ⊢
    rw [Mem.of_cons_at, if_neg hb] at hfy
    have hdis : ∀ q ∈ L2, ¬ q.1 = .sub 0 0 x.p ∧ Mem.of L2 q.1 = some q.2 := by
      rcases hr with ⟨_, _, rfl⟩ | ⟨_, id, _, rfl, hid⟩
      · intro q hq; cases hq
      · intro q hq
        simp only [List.mem_singleton] at hq
        subst hq
        exact ⟨hid, by simp [Mem.of_cons_at]⟩
    refine K_ev nmd [] hng (by kernel_rfl) fun hf C S K hC1 hC hS hK => ?_; simp (disch := first | omega | assumption) only [go_sem, of_put_at, hb2, bindA_one]
    refine hK ?_; clear hK hS hC hC1 K S C hf
    refine K_nil ⟨rfl, h, rfl, rfl, rfl, ?_, rfl, by simp, hb2⟩
    refine app_mem (B := [(.sub 0 0 x.p, .cells [v])]) ?_ ?_
    · simp only [fa_cons, fa_nil, Mem.of_cons_at, Mem.of_nil_at, Mem.of_upds, Mem.of_putL, putLs, putL, List.cons_append, List.nil_append, List.append_nil, ↓reduceIte, eq_self, and_true, true_and, and_self, and_false, false_and, reduceCtorEq, Oid.sub.injEq, Nat.reduceEqDiff, of_put_at, hb2, AV.cells]
    · intro q hq
      subst hrest
      obtain ⟨a2, a3⟩ := hdis q hq
      simp only [fa_cons, fa_nil, Mem.of_cons_at, Mem.of_nil_at, Mem.of_upds, Mem.of_putL, putLs, putL, List.cons_append, List.nil_append, List.append_nil, ↓reduceIte, eq_self, and_true, true_and, and_self, and_false, false_and, reduceCtorEq, Oid.sub.injEq, Nat.reduceEqDiff, of_put_at, hb2, a2]
      exact a3
  · rintro y l0 pre xs L1 ⟨fr, m, c, ds⟩ ⟨_, l, v, L2, rfl, hr, rfl⟩ _ ⟨hlen, _, _⟩ hyr hyg ⟨h, rfl, h5, h2, hm, rfl, hc, hb2⟩
    simp only at h5 h2 hm hc
    refine T_aft (K_fr [(5, .str h), (2, .ptr (.sub 0 0 x.p) 0)] rfl (by simp [h5, h2]) (K_mem _ hm (T_fresh fun hf => ?_)))
    replace hng := hyg
    have hfy : ∀ j, Mem.of ((Oid.sub 0 0 x.p, AObj.cells [v]) :: L2) (.sub c j y.p) = none := fun j => hf _ ⟨c, j, Nat.le_refl _, Oid.under_refl _⟩
    clear hf
    have hb3 : ¬ x.p = y.p := fun e => hb2 e.symm
    rcases hr with ⟨rfl, rfl, rfl⟩ | ⟨hl, id, rfl, rfl, hid⟩
    · (repeat (first | (refine K_ifT rfl rfl ?_) | (refine K_ifF rfl rfl ?_) | (refine K_ev nmd [] hng (by kernel_rfl) fun hf C S K hC1 hC hS hK => ?_; simp (disch := first | omega | assumption) only [go_sem]; refine hK ?_; clear hK hS hC hC1 K S C hf) | ((first | refine zv ?_ | refine zw ?_ | refine zu ?_); with_reducible (constructor; repeat constructor); try refine zl ?_)))
      refine K_block ?_
      (repeat (first | (refine K_ifT rfl rfl ?_) | (refine K_ifF rfl rfl ?_) | (refine K_ev nmd [] hng (by kernel_rfl) fun hf C S K hC1 hC hS hK => ?_; simp (disch := first | omega | assumption) only [go_sem]; refine hK ?_; clear hK hS hC hC1 K S C hf) | ((first | refine zv ?_ | refine zw ?_ | refine zu ?_); with_reducible (constructor; repeat constructor); try refine zl ?_)))
      refine K_ev nmd [] hng (by kernel_rfl) fun hf C S K hC1 hC hS hK => ?_; simp (disch := first | omega | assumption) only [go_sem, of_put_at, hb2, hb3, gdR_T]
      refine hK ?_; clear hK hS hC hC1 K S C hf
      (try ((first | refine zn ?_ | refine ze ?_ | refine zk ?_); with_reducible (constructor; repeat constructor)); try refine zl ?_)
      refine K_nil ⟨[(.sub 0 0 x.p, .cells [.sl (.sub c 3 y.p) 1 1]), (.sub c 3 y.p, .arr 1 [.str h])], ⟨rfl, [h], _, _, rfl, .inr ⟨by simp, .sub c 3 y.p, rfl, rfl, fun e => by simp at e⟩, rfl⟩, ?_, ?_⟩
      · simp only [fa_cons, fa_nil, Mem.of_cons_at, Mem.of_nil_at, Mem.of_upds, Mem.of_putL, putLs, putL, List.cons_append, List.nil_append, List.append_nil, ↓reduceIte, eq_self, and_true, true_and, and_self, and_false, false_and, reduceCtorEq, Oid.sub.injEq, Nat.reduceEqDiff, hb2, hb3]
      · intro q hq
        simp only [List.mem_cons, List.not_mem_nil, or_false] at hq
        rcases hq with rfl | rfl
        · exact .inl ⟨_, List.mem_cons_self, rfl⟩
        · exact .inr (Oid.under_sub (Oid.under_refl _))
    · simp only [List.length_map] at hlen
      have hi1 : ¬ Oid.sub c 3 y.p = id := fun e => by have := hfy 3; rw [e] at this; simp only [Mem.of_cons_at, if_neg hid] at this; simp at this
      have hi2 : ¬ id = Oid.sub c 3 y.p := fun e => hi1 e.symm
      (repeat (first | (refine K_ifT rfl rfl ?_) | (refine K_ifF rfl rfl ?_) | (refine K_ev nmd [] hng (by kernel_rfl) fun hf C S K hC1 hC hS hK => ?_; simp (disch := first | omega | assumption) only [go_sem]; refine hK ?_; clear hK hS hC hC1 K S C hf) | ((first | refine zv ?_ | refine zw ?_ | refine zu ?_); with_reducible (constructor; repeat constructor); try refine zl ?_)))
      refine K_block ?_
      (repeat (first | (refine K_ifT rfl rfl ?_) | (refine K_ifF rfl rfl ?_) | (refine K_ev nmd [] hng (by kernel_rfl) fun hf C S K hC1 hC hS hK => ?_; simp (disch := first | omega | assumption) only [go_sem]; refine hK ?_; clear hK hS hC hC1 K S C hf) | ((first | refine zv ?_ | refine zw ?_ | refine zu ?_); with_reducible (constructor; repeat constructor); try refine zl ?_)))
      refine K_ev nmd [] hng (by kernel_rfl) fun hf C S K hC1 hC hS hK => ?_; simp (disch := first | omega | assumption) only [go_sem, of_put_at, hb2, hb3, hid, hi1, hi2]
      refine hK ?_; clear hK hS hC hC1 K S C hf
      (try ((first | refine zn ?_ | refine ze ?_ | refine zk ?_); with_reducible (constructor; repeat constructor)); try refine zl ?_)
      refine K_nil ⟨[(.sub 0 0 x.p, .cells [.sl (.sub c 3 y.p) 1 (l ++ [h]).length]), (.sub c 3 y.p, .arr 1 ((l ++ [h]).map .str))], ⟨rfl, l ++ [h], _, _, by simp, .inr ⟨by simp, .sub c 3 y.p, rfl, rfl, fun e => by simp at e⟩, rfl⟩, ?_, ?_⟩
      · simp only [fa_cons, fa_nil, Mem.of_cons_at, Mem.of_nil_at, Mem.of_upds, Mem.of_putL, putLs, putL, List.cons_append, List.nil_append, List.append_nil, ↓reduceIte, eq_self, and_true, true_and, and_self, and_false, false_and, reduceCtorEq, Oid.sub.injEq, Nat.reduceEqDiff, hb2, hb3, List.length_append, List.map_append, List.length_cons, List.length_nil, List.map_cons, List.map_nil]
      · intro q hq
        simp only [List.mem_cons, List.not_mem_nil, or_false] at hq
        rcases hq with rfl | rfl
        · exact .inl ⟨_, List.mem_cons_self, rfl⟩
        · exact .inr (Oid.under_sub (Oid.under_refl _))
  · rintro pre L' m' hS ⟨_, l, v, L2, rfl, hr, rfl⟩ hL' hd hold hnm
    have hmx := hL' _ List.mem_cons_self
    have hne : ∀ q ∈ need, m' q.1 = some q.2 := fun q hq => hold q.1 q.2 (by rw [of_put_at, if_neg (hnb q hq)]; exact hcon q hq) (by simp only [List.mem_singleton]; rintro q' rfl e; exact hnb q hq e.symm)
    refine K_mem ([(.sub 0 0 x.p, .cells [v]), (.sub (0 + 1 + 1) 0 x.p, .dfr)] ++ (L2 ++ need)) (app_mem (B := [(.sub 0 0 x.p, .cells [v]), (.sub (0 + 1 + 1) 0 x.p, .dfr)]) ?_ (app_mem (fun q hq => hL' q (List.mem_cons_of_mem _ hq)) hne)) ?_
    · intro q hq
      simp only [List.mem_cons, List.not_mem_nil, or_false] at hq
      rcases hq with rfl | rfl
      · exact hmx
      · exact hd
    have hnid : ∀ id xs, L2 = [(id, .arr 1 xs)] → (∀ q ∈ need, ¬ q.1 = id) ∧ ¬ id = .sub 2 0 x.p := fun id xs e => by
      have h1 := hL' (id, .arr 1 xs) (by rw [e]; exact List.mem_cons_of_mem _ List.mem_cons_self)
      simp only at h1
      refine ⟨fun q hq e1 => ?_, fun e1 => ?_⟩
      · have h2 := hne q hq
        rw [e1, h1, Option.some.injEq] at h2
        exact hna q hq _ _ h2.symm
      · rw [e1, hd] at h1; cases h1
    have hrow2 : SRow l v L2 (Oid.under x.p) := by
      rcases hr with hr | ⟨hl, id, rfl, rfl, hid⟩
      · exact .inl hr
      · refine .inr ⟨hl, id, rfl, rfl, ?_⟩
        rcases hnm _ (List.mem_cons_of_mem _ List.mem_cons_self) with ⟨q', h1, h2⟩ | ⟨q', h1, h2⟩ | h
        · exact absurd h2 ((hnid id _ rfl).1 q' h1)
        · simp only [List.mem_singleton] at h1
          subst h1
          exact absurd h2.symm hid
        · exact Oid.under_sub h
    have hin : ∀ q ∈ L2 ++ need, ¬ q.1 = .sub 0 0 x.p ∧ ¬ q.1 = .sub 2 0 x.p ∧ Mem.of (L2 ++ need) q.1 = some q.2 := by
      have hn2 : ∀ q ∈ need, ¬ q.1 = .sub 2 0 x.p := fun q hq e => hnp q hq (e ▸ Oid.under_sub (Oid.under_refl _))
      rcases hr with ⟨_, _, rfl⟩ | ⟨_, id, _, rfl, hid⟩
      · exact fun q hq => ⟨hnb q hq, hn2 q hq, hcon q hq⟩
      · intro q hq
        rcases List.mem_append.1 hq with hq | hq
        · simp only [List.mem_singleton] at hq
          subst hq
          exact ⟨hid, (hnid id _ rfl).2, by rw [List.cons_append, Mem.of_cons_at, if_pos rfl]⟩
        · exact ⟨hnb q hq, hn2 q hq, by rw [List.cons_append, Mem.of_cons_at, if_neg ((hnid id _ rfl).1 q hq)]; exact hcon q hq⟩
    generalize hrest : L2 ++ need = rest
    (repeat (first | (refine K_ifT rfl rfl ?_) | (refine K_ifF rfl rfl ?_) | (refine K_ev nmd [] hng (by kernel_rfl) fun hf C S K hC1 hC hS hK => ?_; simp (disch := first | omega | assumption) only [go_sem]; refine hK ?_; clear hK hS hC hC1 K S C hf) | ((first | refine zv ?_ | refine zw ?_ | refine zu ?_); with_reducible (constructor; repeat constructor); try refine zl ?_)))
    refine K_ret ?_
    subst hQ
    refine ⟨?_, _, sets L2, rfl, ⟨l, L2, hS, ?_, rfl⟩, ?_⟩
    · simp only [fa_cons, fa_nil, Mem.of_cons_at, Mem.of_nil_at, Mem.of_upds, Mem.of_putL, putLs, putL, List.cons_append, List.nil_append, List.append_nil, ↓reduceIte, eq_self, and_true, true_and, and_self, and_false, false_and, reduceCtorEq, Oid.sub.injEq, Nat.reduceEqDiff, of_put_at]
    · exact hrow2
    · intro i o h
      have : ∃ q ∈ L2 ++ need, q.1 = i ∧ q.2 = o := by
        by_cases hk : ∃ q ∈ sets L2, q.1 = i
        · obtain ⟨q', k1, k2, k3⟩ := upds_mem (m := Mem.of need) hk
          rw [k3] at h
          obtain ⟨q, h1, rfl⟩ := List.mem_map.1 k1
          exact ⟨q, List.mem_append_left _ h1, k2, Option.some.inj h⟩
        · rw [upds_nokey fun q hq e => hk ⟨q, hq, e⟩] at h
          obtain ⟨q, h1, h2, h3⟩ := Mem.of_mem h
          exact ⟨q, List.mem_append_right _ h1, h2, h3⟩
      obtain ⟨q, hq, rfl, rfl⟩ := this
      obtain ⟨a1, a2, a3⟩ := hin q hq
      show ((Mem.of ((Oid.sub 0 0 x.p, AObj.cells [v]) :: (Oid.sub 2 0 x.p, AObj.dfr) :: rest)).set (.sub 2 0 x.p) none) q.1 = some q.2
      subst hrest
      simp only [Mem.set, if_neg a2, Mem.of_cons_at, if_neg a1]
      exact a3
  · rintro pre L' m' cd _ ⟨h, _⟩
    cases h
theorem collect_ok (gf : FuncId) (cap : List AV) (need : List (Oid × AObj)) (N : Nat) (Sq : Bool → List (List AV) → Prop) (hN : N ≤ 2000000000000) (p : Oid) (hnp : ∀ q ∈ need, ¬ Oid.under p q.1) (hna : ∀ q ∈ need, ∀ sz xs, ¬ q.2 = .arr sz xs)
    (hseq : ∀ p', Oid.under p p' → SeqND Tryz.prog gf cap p' need 1 (fun pre xs => pre.length < N ∧ ∃ h : Str, xs = [.str h]) Sq) :
    CallND Tryz.prog 117 [.fn (.func gf) [] cap] (Oid.under p) need (fun v u => ∃ l L', Sq true (l.map fun h => [.str h]) ∧ SRow l v L' (Oid.under p) ∧ u = sets L') (fun _ _ => False) := by
  refine callND_cons (by kernel_rfl) fun hcon => ?_
  refine fnND (n := 5) (rs := [.tmp 2]) Tryz.func117 rfl rfl (by decide) rfl rfl rfl ?_; rintro x rfl hrd hng
  (try ((first | refine zn ?_ | refine ze ?_ | refine zk ?_); with_reducible (constructor; repeat constructor)); try refine zl ?_)
  (repeat (first | (refine K_ifT rfl rfl ?_) | (refine K_ifF rfl rfl ?_) | (refine K_ev nmd [] hng (by kernel_rfl) fun hf C S K hC1 hC hS hK => ?_; simp (disch := first | omega | assumption) only [go_sem]; refine hK ?_; clear hK hS hC hC1 K S C hf) | ((first | refine zn ?_ | refine ze ?_ | refine zk ?_); with_reducible (constructor; repeat constructor); try refine zl ?_)))
  refine K_ev nmd [] hng (by kernel_rfl) fun hf C S K hC1 hC hS hK => ?_; simp (disch := first | omega | assumption) only [go_sem]
  refine hC _ _ _ (appendSeq_ok gf cap need N Sq hN _ (fun q hq h => hnp q hq (Oid.under_sub h)) hna fun p' h => hseq p' (Oid.under_sub h)) hcon ?_ (fun _ _ h => h.elim)
  rintro val upd ⟨l, L', hSq, hr, rfl⟩
  simp (disch := first | omega | assumption) only [go_sem]
  refine hK ?_; clear hK hS hC hC1 K S C hf
  (try ((first | refine zn ?_ | refine ze ?_ | refine zk ?_); with_reducible (constructor; repeat constructor)); try refine zl ?_)
  refine K_ret (done_ret _ _ rfl ⟨l, L', hSq, hr.mono fun _ h => Oid.under_sub h, rfl⟩ ?_)
  intro i o h
  rw [Mem.of_upds] at h; exact h
theorem str_inj {a b : List Str} (e : a.map (fun h => [AV.str h]) = b.map fun h => [AV.str h]) : a = b := (List.map_inj_right (fun x y h => by simpa using h)).1 e
/-- Collected and sorted: one row. -/
theorem sorted_ok (gf : FuncId) (cap : List AV) (need : List (Oid × AObj)) (N : Nat) (l0 : List Str) (Sq : Bool → List (List AV) → Prop) (hN : N ≤ 2000000000000) (hl0 : l0.length ≤ N) (p : Oid) (hnp : ∀ q ∈ need, ¬ Oid.under p q.1) (hna : ∀ q ∈ need, ∀ sz xs, ¬ q.2 = .arr sz xs)
    (hseq : ∀ p', Oid.under p p' → SeqND Tryz.prog gf cap p' need 1 (fun pre xs => pre.length < N ∧ ∃ h : Str, xs = [.str h]) Sq)
    (hall : ∀ l : List Str, Sq true (l.map fun h => [.str h]) → l.Perm l0) :
    CallOK Tryz.prog 69 [.fn (.func gf) [] cap] (Oid.under p) ⟨need, .list 1 ((sortS l0).map .str), []⟩ := by
  refine (callND_cons (by kernel_rfl) fun hcon => ?_ : CallND Tryz.prog _ _ _ need (fun v u => v = _ ∧ u = []) (fun _ _ => False)).ok
  refine fnND (n := 9) (rs := [.tmp 2]) Tryz.func69 rfl rfl (by decide) rfl rfl rfl ?_; rintro x rfl hrd hng
  (repeat (first | (refine K_ifT rfl rfl ?_) | (refine K_ifF rfl rfl ?_) | (refine K_ev nmd [] hng (by kernel_rfl) fun hf C S K hC1 hC hS hK => ?_; simp (disch := first | omega | assumption) only [go_sem]; refine hK ?_; clear hK hS hC hC1 K S C hf) | ((first | refine zn ?_ | refine ze ?_ | refine zk ?_); with_reducible (constructor; repeat constructor); try refine zl ?_)))
  refine K_ev nmd [] hng (by kernel_rfl) fun hf C S K hC1 hC hS hK => ?_; simp (disch := first | omega | assumption) only [go_sem]
  refine hC _ _ _ (collect_ok gf cap need N Sq hN _ (fun q hq h => hnp q hq (Oid.under_sub h)) hna fun p' h => hseq p' (Oid.under_sub h)) hcon ?_ (fun _ _ h => h.elim)
  rintro val upd ⟨l, L', hSq, hr, rfl⟩
  have hp := hall l hSq
  have hse : sortS l = sortS l0 := sortS_perm_eq hp
  rcases hr with ⟨rfl, rfl, rfl⟩ | ⟨hl, id, rfl, rfl, hid⟩
  · simp (disch := first | omega | assumption) only [go_sem, sets, List.map_nil]
    refine hK ?_; clear hK hS hC hC1 K S C hf
    (repeat (first | (refine K_ifT rfl rfl ?_) | (refine K_ifF rfl rfl ?_) | (refine K_ev nmd [] hng (by kernel_rfl) fun hf C S K hC1 hC hS hK => ?_; simp (disch := first | omega | assumption) only [go_sem]; refine hK ?_; clear hK hS hC hC1 K S C hf) | ((first | refine zv ?_ | refine zw ?_ | refine zu ?_); with_reducible (constructor; repeat constructor); try refine zl ?_)))
    refine K_ev nmd [] hng (by kernel_rfl) fun hf C S K hC1 hC hS hK => ?_; simp (disch := first | omega | assumption) only [go_sem]
    refine hC1 _ (sortStr_nil _) (by simp (disch := first | omega | assumption) only [go_sem]) ?_
    simp (disch := first | omega | assumption) only [go_sem]
    refine hK ?_; clear hK hS hC hC1 K S C hf
    refine K_next ?_
    refine K_nilList 3 1 rfl ?_
    (repeat (first | (refine K_ifT rfl rfl ?_) | (refine K_ifF rfl rfl ?_) | (refine K_ev nmd [] hng (by kernel_rfl) fun hf C S K hC1 hC hS hK => ?_; simp (disch := first | omega | assumption) only [go_sem]; refine hK ?_; clear hK hS hC hC1 K S C hf) | ((first | refine zn ?_ | refine ze ?_ | refine zk ?_); with_reducible (constructor; repeat constructor); try refine zl ?_)))
    exact K_ret (done_ret (.list 1 ((sortS l0).map .str)) [] (by rw [← hse, show sortS [] = [] by simp [sortS]]; rfl) ⟨rfl, rfl⟩ fun _ _ h => h)
  · have hid2 := Oid.under_sub hid
    have hnid : ∀ q ∈ need, ¬ q.1 = id := fun q hq e => hnp q hq (e ▸ hid2)
    simp (disch := first | omega | assumption) only [go_sem, sets, List.map_cons, List.map_nil]
    refine hK ?_; clear hK hS hC hC1 K S C hf
    (repeat (first | (refine K_ifT rfl rfl ?_) | (refine K_ifF rfl rfl ?_) | (refine K_ev nmd [] hng (by kernel_rfl) fun hf C S K hC1 hC hS hK => ?_; simp (disch := first | omega | assumption) only [go_sem]; refine hK ?_; clear hK hS hC hC1 K S C hf) | ((first | refine zv ?_ | refine zw ?_ | refine zu ?_); with_reducible (constructor; repeat constructor); try refine zl ?_)))
    have hlen : l.length ≤ 2000000000000 := by rw [hp.length_eq]; omega
    refine K_ev nmd [] hng (by kernel_rfl) fun hf C S K hC1 hC hS hK => ?_; simp (disch := first | omega | assumption) only [go_sem]
    refine hC1 _ (sortStr_ok l hl (by omega) id _) (by simp (disch := first | omega | assumption) only [go_sem, of_put_at]) ?_
    simp (disch := first | omega | assumption) only [go_sem]
    refine hK ?_; clear hK hS hC hC1 K S C hf
    refine K_next ?_
    refine K_freeze id 1 ((sortS l).map .str) (by simp (disch := first | omega | assumption) only [go_sem, of_put_at]) ?_
    simp (disch := first | omega | assumption) only [go_sem, sortS_length]
    (repeat (first | (refine K_ifT rfl rfl ?_) | (refine K_ifF rfl rfl ?_) | (refine K_ev nmd [] hng (by kernel_rfl) fun hf C S K hC1 hC hS hK => ?_; simp (disch := first | omega | assumption) only [go_sem]; refine hK ?_; clear hK hS hC hC1 K S C hf) | ((first | refine zn ?_ | refine ze ?_ | refine zk ?_); with_reducible (constructor; repeat constructor); try refine zl ?_)))
    refine K_ret (done_ret (.list 1 ((sortS l0).map .str)) [] (by rw [← hse]; rfl) ⟨rfl, rfl⟩ fun i o h => ?_)
    have h' : Mem.of need i = some o := h
    have hi : ¬ i = id := fun e => by obtain ⟨q, h1, h2, h3⟩ := Mem.of_mem h'; exact hnid q h1 (h2.trans e)
    rw [of_put_at, if_neg hi, of_put_at, if_neg hi, of_put_at, if_neg hi]; exact h'
/-! the names below a place -/
def namesE (n : Str) (es : List ME) : List Str := es.filterMap fun e => restOf n (keyS e)
theorem below_ok (o : Oid) (n : Str) (p : Oid) (ho : ¬ Oid.under p o) : CallOK Tryz.prog 110 [.map o, .str n] (Oid.under p) ⟨[], .fn (.func 141) [] [.ptr (.sub 0 0 p) 0, .ptr (.sub 0 1 p) 0], [(.sub 0 0 p, some (.cells [.map o])), (.sub 0 1 p, some (.cells [.str n]))]⟩ := by
  refine fnOK (n := 6) (rs := [.tmp 4]) Tryz.func110 rfl rfl (by decide) rfl rfl rfl ?_; rintro x rfl hrd hng
  (repeat (first | (refine K_ifT rfl rfl ?_) | (refine K_ifF rfl rfl ?_) | (refine K_ev nmd [] hng (by kernel_rfl) fun hf C S K hC1 hC hS hK => ?_; simp (disch := first | omega | assumption) only [go_sem]; refine hK ?_; clear hK hS hC hC1 K S C hf) | ((first | refine zn ?_ | refine ze ?_ | refine zk ?_); with_reducible (constructor; repeat constructor); try refine zl ?_)))
  refine K_ret (done_ret _ _ rfl ⟨rfl, rfl⟩ ?_)
  intro i o' h
  rw [Mem.of_upds] at h
  exact h
theorem names_ok (o : Oid) (n : Str) (hln : n.length ≤ 140737488355000) (es : List ME) (clock : Nat) (hkl : ∀ e ∈ es, (keyS e).length ≤ 140737488355328) (hel : es.length ≤ 2000000000000) (p : Oid) (ho : ¬ Oid.under p o) :
    CallOK Tryz.prog 66 [.map o, .str n] (Oid.under p) ⟨[(o, .map [.ss] false es clock)], .list 1 ((sortS (namesE n es)).map .str), []⟩ := by
  refine fnOK (n := 9) (rs := [.tmp 4]) Tryz.func66 rfl rfl (by decide) rfl rfl rfl ?_; rintro x rfl hrd hng
  have hu12 : ∀ j, Oid.under (.sub 1 2 x.p) (.sub 0 j (.sub 1 2 x.p)) := fun j => Oid.under_sub (Oid.under_refl _)
  have hapt : ∀ j p', Oid.under (.sub 1 3 x.p) p' → ¬ Oid.under p' (.sub 0 j (.sub 1 2 x.p)) := fun j p' h h2 => by
    have := (Oid.apart (Oid.under_trans h h2) (hu12 j)).2
    omega
  (try ((first | refine zn ?_ | refine ze ?_ | refine zk ?_); with_reducible (constructor; repeat constructor)); try refine zl ?_)
  (repeat (first | (refine K_ifT rfl rfl ?_) | (refine K_ifF rfl rfl ?_) | (refine K_ev nmd [] hng (by kernel_rfl) fun hf C S K hC1 hC hS hK => ?_; simp (disch := first | omega | assumption) only [go_sem]; refine hK ?_; clear hK hS hC hC1 K S C hf) | ((first | refine zn ?_ | refine ze ?_ | refine zk ?_); with_reducible (constructor; repeat constructor); try refine zl ?_)))
  refine K_ev nmd [] hng (by kernel_rfl) fun hf C S K hC1 hC hS hK => ?_; simp (disch := first | omega | assumption) only [go_sem]
  refine hC1 _ (below_ok o n _ (fun h => ho (Oid.under_sub h))) (by simp (disch := first | omega | assumption) only [go_sem]) ?_
  simp (disch := first | omega | assumption) only [go_sem]
  refine hC1 _ (sorted_ok 141 [.ptr (.sub 0 0 (.sub 1 2 x.p)) 0, .ptr (.sub 0 1 (.sub 1 2 x.p)) 0] [(.sub 0 0 (.sub 1 2 x.p), .cells [.map o]), (.sub 0 1 (.sub 1 2 x.p), .cells [.str n]), (o, .map [.ss] false es clock)] es.length (namesE n es) _ hel (List.length_filterMap_le _ _) _ ?_ ?_
    (fun p' hp => below_seq (.sub 0 0 (.sub 1 2 x.p)) (.sub 0 1 (.sub 1 2 x.p)) o n hln es clock hkl p' ?_ ?_ ?_ ?_ ?_ ?_) ?_) ?_ ?_
  · intro q hq
    simp only [List.mem_cons, List.not_mem_nil, or_false] at hq
    rcases hq with rfl | rfl | rfl
    · exact hapt 0 _ (Oid.under_refl _)
    · exact hapt 1 _ (Oid.under_refl _)
    · exact fun h => ho (Oid.under_sub h)
  · intro q hq
    simp only [List.mem_cons, List.not_mem_nil, or_false] at hq
    rcases hq with rfl | rfl | rfl <;> (intro sz xs e; cases e)
  · exact fun e => ho (e ▸ Oid.under_sub (hu12 0))
  · exact fun e => ho (e ▸ Oid.under_sub (hu12 1))
  · simp
  · exact hapt 0 _ hp
  · exact hapt 1 _ hp
  · exact fun h => ho (Oid.under_sub (Oid.under_trans hp h))
  · intro l hl
    obtain ⟨U, h1, h2⟩ := hl rfl
    rw [str_inj h2]
    exact h1.filterMap _
  · have h0 := fun j => Oid.not_under_sub (fun h => ho (Oid.under_sub h) : ¬ Oid.under (.sub 1 2 x.p) o) 0 j
    have h1 := fun j => Oid.sub_not_under (fun h => ho (Oid.under_sub h) : ¬ Oid.under (.sub 1 2 x.p) o) 0 j
    simp only [fa_cons, fa_nil, Mem.of_cons_at, Mem.of_nil_at, Mem.of_upds, Mem.of_putL, putLs, putL, List.cons_append, List.nil_append, List.append_nil, ↓reduceIte, eq_self, and_true, true_and, and_self, and_false, false_and, reduceCtorEq, Oid.sub.injEq, Nat.reduceEqDiff, of_put_at, h0, h1]
  · simp (disch := first | omega | assumption) only [go_sem]
    refine hK ?_; clear hK hS hC hC1 K S C hf
    (repeat (first | (refine K_ifT rfl rfl ?_) | (refine K_ifF rfl rfl ?_) | (refine K_ev nmd [] hng (by kernel_rfl) fun hf C S K hC1 hC hS hK => ?_; simp (disch := first | omega | assumption) only [go_sem]; refine hK ?_; clear hK hS hC hC1 K S C hf) | ((first | refine zn ?_ | refine ze ?_ | refine zk ?_); with_reducible (constructor; repeat constructor); try refine zl ?_)))
    refine K_ret (done_ret _ _ rfl ⟨rfl, rfl⟩ fun i o' h => ?_)
    have h' : Mem.of [(o, AObj.map [.ss] false es clock)] i = some o' := h
    rw [Mem.of_cons_at] at h'
    split at h'
    · rename_i e
      subst e
      have h0 := fun j => Oid.not_under_sub (fun h => ho (Oid.under_sub h) : ¬ Oid.under (.sub 1 2 x.p) i) 0 j
      have h1 := fun j => Oid.sub_not_under (fun h => ho (Oid.under_sub h) : ¬ Oid.under (.sub 1 2 x.p) i) 0 j
      simp only [fa_cons, fa_nil, Mem.of_cons_at, Mem.of_nil_at, Mem.of_upds, Mem.of_putL, putLs, putL, List.cons_append, List.nil_append, List.append_nil, ↓reduceIte, eq_self, and_true, true_and, and_self, and_false, false_and, reduceCtorEq, Oid.sub.injEq, Nat.reduceEqDiff, of_put_at, h0, h1]
      exact h'
    · cases h'
end Go.Proofs.YtaecbmbecofijaaGreatDoor
namespace Go.Proofs.YtaecbmbecofijaaGreatDoor
open Go Go.Ab
theorem digits_len : ∀ (k n : Nat), n < 10 ^ (k + 1) → (Lib.decDigits n).length ≤ k + 1
  | 0, n, h => by rw [digits_small (by simpa using h)]; simp
  | k + 1, n, h => by
    by_cases hs : n < 10
    · rw [digits_small hs]; simp
    · rw [digits_big hs, List.length_append]
      have := digits_len k (n / 10) (by rw [Nat.pow_succ] at h; omega)
      simp only [List.length_cons, List.length_nil]; omega
theorem digits_no (n : Nat) : ∀ b, b ∈ Lib.decDigits n → ¬ b = 58 := by
  have one : ∀ d, d < 10 → ¬ UInt8.ofNat (48 + d) = 58 := fun d hd e => by
    have h1 := congrArg UInt8.toNat e
    rw [UInt8.toNat_ofNat'] at h1
    have : (58 : UInt8).toNat = 58 := rfl
    omega
  induction n using Nat.strongRecOn with
  | ind n ih =>
    intro b hb
    by_cases h : n < 10
    · rw [digits_small h, List.mem_singleton] at hb; subst hb; exact one n h
    · rw [digits_big h] at hb
      rcases List.mem_append.1 hb with hb | hb
      · exact ih _ (by omega) b hb
      · rw [List.mem_singleton] at hb; subst hb; exact one _ (by omega)
theorem idx_at (u : Str) : ∀ t : Str, (∀ b, b ∈ t → ¬ b = 58) → Lib.indexByte (t ++ 58 :: u) 58 = t.length
  | [], _ => by simp [Lib.indexByte]
  | b :: t, h => by
    have hb : (b == 58) = false := by simpa using h b (by simp)
    have ih := idx_at u t fun b hb => h b (by simp [hb])
    simp only [List.cons_append, Lib.indexByte, hb, Bool.false_eq_true, if_false, ih, beq_iff_eq]
    rw [if_neg (by omega), List.length_cons]; omega
theorem refN_digits {n : Nat} (h : n < 1000000000) : refN (Lib.decDigits n) = n := by
  have hl := digits_len 8 n h
  rw [refN, if_neg, dec_digits]
  rintro (h | h | ⟨h, h'⟩)
  · exact digits_ne n h
  · omega
  · have := digits_head n h
    subst this
    rw [digits_small (by decide)] at h'
    simp at h'
theorem decT_chunk (s t : Str) (hs : s.length < 1000000000) : decT (chunk s ++ t) = (decT t).map (s :: ·) := by
  have he : chunk s ++ t = Lib.decDigits s.length ++ 58 :: (s ++ 44 :: t) := by
    rw [chunk, Lib.itoa_nonneg]; simp only [List.append_assoc, List.singleton_append, List.cons_append, List.nil_append]
  have hi := idx_at (s ++ 44 :: t) _ (digits_no s.length)
  have hne : ¬ chunk s ++ t = [] := fun e => by rw [he] at e; simp at e
  have hcol : colon (chunk s ++ t) = (Lib.decDigits s.length).length := by rw [colon, he, hi]; rfl
  have hhead : headS (chunk s ++ t) = Lib.decDigits s.length := by rw [headS, hcol, he, List.take_left']; rfl
  have hrest : restS (chunk s ++ t) = s ++ 44 :: t := by
    rw [restS, hcol, he, ← List.drop_drop, List.drop_left']; · rfl
    · rfl
  obtain ⟨n1, n2⟩ := num_ref (headS (chunk s ++ t))
  rw [hhead, refN_digits hs] at n1 n2
  have hg : numG (headS (chunk s ++ t)) = true := by rw [hhead, n1]; simp
  have ha : atoiN (headS (chunk s ++ t)) = s.length := by rw [hhead]; exact n2 (by rw [← hhead]; exact hg)
  have hsz : sizeS (chunk s ++ t) = s.length := by rw [sizeS, ha]; rfl
  have hok : okS (chunk s ++ t) := by
    refine ⟨by rw [he, hi]; omega, hg, by rw [ha, hrest]; simp; omega, ?_⟩
    rw [hsz, hrest]; simp
  rw [decT_some hne hok, hsz, hrest]
  have h1 : (s ++ 44 :: t).take s.length = s := by rw [List.take_left']; rfl
  have h2 : (s ++ 44 :: t).drop (s.length + 1) = t := by
    rw [← List.drop_drop, List.drop_left']; · rfl
    · rfl
  rw [h1, h2]
theorem decT_enc : ∀ l : List Str, (∀ s, s ∈ l → s.length < 1000000000) → decT (encT l) = some l
  | [], _ => rfl
  | s :: l, h => by
    rw [encT, decT_chunk s _ (h s (by simp)), decT_enc l fun s hs => h s (by simp [hs])]; rfl
theorem ent_val (b : Bits) (h1 : 1 ≤ b.k ∧ b.k ≤ 3) (h2 : 0 ≤ b.m ∧ b.m ≤ 7) (h3 : ¬ (b.k = 2 ∧ ¬ b.l = [])) (h4 : b.l.length < 1000000000) : entT (valT b) = (b, 0) := by
  obtain ⟨k, m, l⟩ := b
  simp only at h1 h2 h3 h4
  obtain ⟨k, rfl⟩ := Int.eq_ofNat_of_zero_le (by omega : 0 ≤ k)
  obtain ⟨m, rfl⟩ := Int.eq_ofNat_of_zero_le h2.1
  have hv : valT ⟨k, m, l⟩ = encT [Lib.decDigits k, Lib.decDigits m, l] := by
    rw [valT, if_neg (by simp only; omega), Lib.itoa_nonneg, Lib.itoa_nonneg]
  have hne : ¬ valT ⟨k, m, l⟩ = [] := fun e => by
    rw [hv] at e
    have := congrArg List.length e
    have hc := chunk_len (Lib.decDigits k)
    simp only [encT, List.length_append, List.length_nil] at this
    omega
  have hd : decT (valT ⟨k, m, l⟩) = some [Lib.decDigits k, Lib.decDigits m, l] := by
    rw [hv]
    refine decT_enc _ fun s hs => ?_
    have d1 := digits_len 0 k (by omega)
    have d2 := digits_len 0 m (by omega)
    simp only [List.mem_cons, List.not_mem_nil, or_false] at hs
    rcases hs with rfl | rfl | rfl <;> omega
  have hk := refN_digits (n := k) (by omega)
  have hm := refN_digits (n := m) (by omega)
  have hC : entC (valT ⟨k, m, l⟩) (Lib.decDigits k) (Lib.decDigits m) l = true := entC_ref.2 ⟨by rw [hk]; omega, by rw [hk]; omega, by rw [hm]; omega, by rw [hm]; omega, by rw [hk]; exact h3, by rw [hk, hm]⟩
  rw [entT, if_neg hne, hd]
  simp only
  rw [ent_ref, if_pos hC, hk, hm]
end Go.Proofs.YtaecbmbecofijaaGreatDoor
namespace Go.Proofs.YtaecbmbecofijaaGreatDoor
open Go Go.Ab
set_option maxRecDepth 20000
set_option maxHeartbeats 4000000
theorem storeNames_ok (st t : Oid) (es : List ME) (clock : Nat) (hts : ¬ t = st) (p : Oid) (hs : ¬ Oid.under p st) (ht : ¬ Oid.under p t) (n : Str) (hln : n.length ≤ 140737488355000) (hkl : ∀ e ∈ es, (keyS e).length ≤ 140737488355328) (hel : es.length ≤ 2000000000000) :
    CallOK Tryz.prog 25 [.ptr st 0, .str n] (Oid.under p) ⟨[(st, .cells [.map t, .nilPtr]), (t, .map [.ss] false es clock)], .list 1 ((sortS (namesE n es)).map .str), []⟩ := by
  have hs' : ∀ c i, ¬ Oid.under (.sub c i p) st := fun c i h => hs (Oid.under_sub h)
  have ht' : ∀ c i, ¬ Oid.under (.sub c i p) t := fun c i h => ht (Oid.under_sub h)
  refine fnOK (n := 15) (rs := [.tmp 4]) Tryz.func25 rfl rfl (by decide) rfl rfl rfl ?_; rintro x rfl hrd hng
  (repeat (first | (refine K_ifT rfl rfl ?_) | (refine K_ifF rfl rfl ?_) | (refine K_ev nmd [] hng (by kernel_rfl) fun hf C S K hC1 hC hS hK => ?_; simp (disch := first | omega | assumption) only [go_sem, Oid.not_under_sub ht, Oid.sub_not_under ht, Oid.not_under_sub hs, Oid.sub_not_under hs, hts]; refine hK ?_; clear hK hS hC hC1 K S C hf) | ((first | refine zn ?_ | refine ze ?_ | refine zk ?_); with_reducible (constructor; repeat constructor); try refine zl ?_)))
  refine K_ev nmd [] hng (by kernel_rfl) fun hf C S K hC1 hC hS hK => ?_; simp (disch := first | omega | assumption) only [go_sem, Oid.not_under_sub ht, Oid.sub_not_under ht, Oid.not_under_sub hs, Oid.sub_not_under hs, hts]
  refine hC1 _ (read_ok st t _ (hs' _ _) n true) (by simp (disch := first | omega | assumption) only [go_sem, Oid.not_under_sub ht, Oid.sub_not_under ht, Oid.not_under_sub hs, Oid.sub_not_under hs, hts]) ?_
  simp (disch := first | omega | assumption) only [go_sem, Oid.not_under_sub ht, Oid.sub_not_under ht, Oid.not_under_sub hs, Oid.sub_not_under hs, hts]
  refine hK ?_; clear hK hS hC hC1 K S C hf
  (try ((first | refine zn ?_ | refine ze ?_ | refine zk ?_); with_reducible (constructor; repeat constructor)); try refine zl ?_)
  refine K_ev nmd [] hng (by kernel_rfl) fun hf C S K hC1 hC hS hK => ?_; simp (disch := first | omega | assumption) only [go_sem, Oid.not_under_sub ht, Oid.sub_not_under ht, Oid.not_under_sub hs, Oid.sub_not_under hs, hts]
  refine hC1 _ (names_ok t n hln es clock hkl hel _ (ht' _ _)) (by simp (disch := first | omega | assumption) only [go_sem, Oid.not_under_sub ht, Oid.sub_not_under ht, Oid.not_under_sub hs, Oid.sub_not_under hs, hts]) ?_
  simp (disch := first | omega | assumption) only [go_sem, Oid.not_under_sub ht, Oid.sub_not_under ht, Oid.not_under_sub hs, Oid.sub_not_under hs, hts]
  refine hK ?_; clear hK hS hC hC1 K S C hf
  (repeat (first | (refine K_ifT rfl rfl ?_) | (refine K_ifF rfl rfl ?_) | (refine K_ev nmd [] hng (by kernel_rfl) fun hf C S K hC1 hC hS hK => ?_; simp (disch := first | omega | assumption) only [go_sem, Oid.not_under_sub ht, Oid.sub_not_under ht, Oid.not_under_sub hs, Oid.sub_not_under hs, hts]; refine hK ?_; clear hK hS hC hC1 K S C hf) | ((first | refine zn ?_ | refine ze ?_ | refine zk ?_); with_reducible (constructor; repeat constructor); try refine zl ?_)))
  refine K_ret (done_upd rfl ?_ ?_)
  all_goals simp only [List.mem_cons, List.not_mem_nil, or_false, forall_eq_or_imp, forall_eq, Option.some.injEq, forall_eq', Mem.of_cons_at, eq_self, if_true, ↓reduceIte, reduceCtorEq, implies_true, not_true_eq_false, false_imp_iff, true_and, and_true, false_and, and_false, imp_self, Oid.not_under_sub ht, Oid.sub_not_under ht, Oid.not_under_sub hs, Oid.sub_not_under hs, hts]
theorem under_nw {c' j a i c : Nat} {p : Oid} (hj : ¬ j = 0) : ¬ Oid.under (.sub c' j p) (.sub a i (.sub c 0 p)) := by
  have hself : ¬ Oid.under (.sub c' j p) p := fun h => by have := Oid.under_depth h; simp [Oid.depth] at this; omega
  simp only [Oid.under, Oid.sub.injEq, hj, false_and, and_false, hself, or_false, Oid.self_ne_sub, false_or, not_false_eq_true]
theorem val_tx1 : valT ⟨1, 6, [120]⟩ = [49, 58, 49, 44, 49, 58, 54, 44, 49, 58, 120, 44] := by kernel_rfl
theorem ent_tx1 : entT [49, 58, 49, 44, 49, 58, 54, 44, 49, 58, 120, 44] = (⟨1, 6, [120]⟩, 0) := by
  rw [← val_tx1]
  exact ent_val _ ⟨by decide, by decide⟩ ⟨by decide, by decide⟩ (by simp) (by simp)
theorem ent_x : entT [120] = (Bits.no, 20) := by kernel_rfl
theorem sortS_one (a : Str) : sortS [a] = [a] := by simp [sortS]
theorem awake_ok (p : Oid) (hp : p.mono = false) : CallOK Tryz.prog 14 [] (Oid.under p) ⟨[], .bool true, []⟩ := by
  refine fnOK (n := 54) (rs := [.tmp 0]) Tryz.func14 rfl rfl (by decide) rfl rfl rfl ?_; rintro x rfl hrd hng
  have hts : ¬ Oid.sub 1 0 (.sub 1 0 x.p) = Oid.sub 1 2 (.sub 1 0 x.p) := by simp
  have hput := fun p hs ht => put_ok (.sub 1 2 (.sub 1 0 x.p)) (.sub 1 0 (.sub 1 0 x.p)) [] 0 hts p hs ht [47, 97] ⟨1, 6, [120]⟩
  rw [show putE [47, 97] ⟨1, 6, [120]⟩ [] 0 = [⟨.str [47, 97], .agg [.int .i64 1, .int .i64 6, .str [120]], 0⟩] from rfl, show putC [47, 97] ⟨1, 6, [120]⟩ [] 0 = 1 from rfl] at hput
  have he1 := fun p hp => entry_ok [49, 58, 49, 44, 49, 58, 54, 44, 49, 58, 120, 44] (by decide) p hp
  rw [ent_tx1] at he1
  have he2 := fun p hp => entry_ok [120] (by decide) p hp
  rw [ent_x] at he2
  have ha1 := fun p hs ht => storeAt_ok (.sub 1 2 (.sub 1 0 x.p)) (.sub 1 0 (.sub 1 0 x.p)) [⟨.str [47, 97], .agg [.int .i64 1, .int .i64 6, .str [120]], 0⟩] 1 hts p hs ht [47, 97] ⟨1, 6, [120]⟩ rfl
  have ha2 := fun p hs ht => storeAt_ok (.sub 1 2 (.sub 1 0 x.p)) (.sub 1 0 (.sub 1 0 x.p)) [⟨.str [47, 97], .agg [.int .i64 1, .int .i64 6, .str [120]], 0⟩] 1 hts p hs ht [] Bits.no rfl
  have hn := fun p hs ht => storeNames_ok (.sub 1 2 (.sub 1 0 x.p)) (.sub 1 0 (.sub 1 0 x.p)) [⟨.str [47, 97], .agg [.int .i64 1, .int .i64 6, .str [120]], 0⟩] 1 hts p hs ht [] (by simp) (by simp [keyS]) (by simp)
  rw [show namesE [] [⟨.str [47, 97], .agg [.int .i64 1, .int .i64 6, .str [120]], 0⟩] = [[97]] by kernel_rfl, sortS_one] at hn
  have hsm := fun p => same_ok [[97]] [[97]] (by simp) (by simp) p
  have hv := fun p hp => value_ok ⟨1, 6, [120]⟩ ⟨⟨by decide, by decide⟩, ⟨by decide, by decide⟩, by decide⟩ p hp
  rw [val_tx1] at hv
  simp only [Bits.av, Bits.no, List.map_cons, List.map_nil, if_true, reduceCtorEq, if_false, decide_true] at hput he1 he2 ha1 ha2 hn hsm hv
  (repeat (first | (refine K_ifT rfl rfl ?_) | (refine K_ifF rfl rfl ?_) | (refine K_ev nmd [] hng (by kernel_rfl) fun hf C S K hC1 hC hS hK => ?_; simp (disch := first | omega | assumption) only [go_sem]; (repeat ((first | refine hC1 _ (new_ok _) (by simp (disch := first | omega | assumption) only [go_sem]) ?_ | refine hC1 _ (hput _ (under_nw (by decide)) (under_nw (by decide))) (by simp (disch := first | omega | assumption) only [go_sem]) ?_ | refine hC1 _ (he1 _ (mono_sub' rfl hp)) (by simp (disch := first | omega | assumption) only [go_sem]) ?_ | refine hC1 _ (he2 _ (mono_sub' rfl hp)) (by simp (disch := first | omega | assumption) only [go_sem]) ?_); simp (disch := first | omega | assumption) only [go_sem])); refine hK ?_; clear hK hS hC hC1 K S C hf) | ((first | refine zn ?_ | refine ze ?_ | refine zk ?_); with_reducible (constructor; repeat constructor); try refine zl ?_)))
  refine K_ev nmd [(4, 24), (10, 30), (16, 36), (20, 40), (25, 45), (29, 49)] hng (by kernel_rfl) fun hf C S K hC1 hC hS hK => ?_; simp (disch := first | omega | assumption) only [go_sem, Int.reduceEq, Int.reduceNe, ne_eq, not_true_eq_false, not_false_eq_true, decide_true, decide_false]
  (repeat' (first | (refine evG_split (fun hv => ?_) (fun hv => ?_) <;> (try simp only [zb1, zb2, zb3, zb4, zb5] at hv) <;> simp (disch := first | omega | assumption) only [go_sem, hv, Int.reduceEq, Int.reduceNe, ne_eq, not_true_eq_false, not_false_eq_true, decide_true, decide_false]) | (refine hC1 _ (ha1 _ (under_nw (by decide)) (under_nw (by decide))) (by simp (disch := first | omega | assumption) only [go_sem, Int.reduceEq, Int.reduceNe, ne_eq, not_true_eq_false, not_false_eq_true, decide_true, decide_false]) ?_; simp (disch := first | omega | assumption) only [go_sem, Int.reduceEq, Int.reduceNe, ne_eq, not_true_eq_false, not_false_eq_true, decide_true, decide_false]) | (refine hC1 _ (ha2 _ (under_nw (by decide)) (under_nw (by decide))) (by simp (disch := first | omega | assumption) only [go_sem, Int.reduceEq, Int.reduceNe, ne_eq, not_true_eq_false, not_false_eq_true, decide_true, decide_false]) ?_; simp (disch := first | omega | assumption) only [go_sem, Int.reduceEq, Int.reduceNe, ne_eq, not_true_eq_false, not_false_eq_true, decide_true, decide_false]) | (refine hC1 _ (hn _ (under_nw (by decide)) (under_nw (by decide))) (by simp (disch := first | omega | assumption) only [go_sem, Int.reduceEq, Int.reduceNe, ne_eq, not_true_eq_false, not_false_eq_true, decide_true, decide_false]) ?_; simp (disch := first | omega | assumption) only [go_sem, Int.reduceEq, Int.reduceNe, ne_eq, not_true_eq_false, not_false_eq_true, decide_true, decide_false]) | (refine hC1 _ (hsm _) (by simp (disch := first | omega | assumption) only [go_sem, Int.reduceEq, Int.reduceNe, ne_eq, not_true_eq_false, not_false_eq_true, decide_true, decide_false]) ?_; simp (disch := first | omega | assumption) only [go_sem, Int.reduceEq, Int.reduceNe, ne_eq, not_true_eq_false, not_false_eq_true, decide_true, decide_false]) | (refine hC1 _ (hv _ (mono_sub' rfl hp)) (by simp (disch := first | omega | assumption) only [go_sem, Int.reduceEq, Int.reduceNe, ne_eq, not_true_eq_false, not_false_eq_true, decide_true, decide_false]) ?_; simp (disch := first | omega | assumption) only [go_sem, Int.reduceEq, Int.reduceNe, ne_eq, not_true_eq_false, not_false_eq_true, decide_true, decide_false]) | (refine hK ?_; clear hK hS hC hC1 K S C hf)))
  (repeat (first | (refine K_ifT rfl rfl ?_) | (refine K_ifF rfl rfl ?_) | (refine K_ev nmd [] hng (by kernel_rfl) fun hf C S K hC1 hC hS hK => ?_; simp (disch := first | omega | assumption) only [go_sem]; refine hK ?_; clear hK hS hC hC1 K S C hf) | ((first | refine zn ?_ | refine ze ?_ | refine zk ?_); with_reducible (constructor; repeat constructor); try refine zl ?_)))
  exact K_ret (done1 rfl)
end Go.Proofs.YtaecbmbecofijaaGreatDoor
namespace Go.Ab
open Go.ChangeShapes Go.WideShapes
section
variable {β : Type}
/-- A law's row that lists variables: its witness, what its arguments read as, what the list gives, its contract. -/
theorem law_lifted_row {C : Checked} [Laid C.prog] {os : Os} {f : FuncId} {fn : Func} {s : ChangeSpec} {F : Stop.Interp} {conds : List PathCond} {laid : List (String × DataW Unit)} {tb : TypeId} {H : Type} {enc : TypeId × Value → H} {ts : List TypeId} {B : β → List AV} {W : β → Prop}
    (own : ownKnob C.prog.godebug = none) (started : os.Started) (noInit : C.prog.inits.idxOf? f = none) (hfn : C.prog.funcs[f]? = some fn)
    (witness : ∃ (w : World) (tape : Tape) (i : Input), w.os = os ∧ (w.forCall tape i).Shaped C.prog ∧ i.vars = [] ∧ Input.okWide C.prog (w.forCall tape i) .any w.heap.size f i ∧
      (OpenSpec.ofChange s).preRow enc C.prog fn conds false laid (w.forCall tape i).memory i.args ∧ ({} : Assume).holds C.prog (lone (Frame.enter C.prog f i.args .normal) [] (w.forCall tape i)))
    (hl : laidOutB C.prog = true) (hz : ∀ t e, t < C.prog.types.size → C.prog.underlying t = some (.slice e) → 0 < C.prog.cellsOf e) (hp : fn.params.toList = ts) (hrB : (ts.all fun t => C.prog.readableRec t && decide (t < C.prog.types.size)) = true)
    (hrt : fn.resultTypes = #[tb]) (htb : C.prog.underlying tb = some .bool) (hv : s.vars = []) (hs : ∀ ds : List (DataW H), ds.length = ts.length → s.fn H ds = { results := [.lit (.bool true)], args := ds })
    (hA : RdA C.prog ts B W) (hc : ∀ b, W b → CallOK C.prog f (B b) (Oid.under (.root C.prog.globals.size)) ⟨[], .bool true, []⟩) (hLaid : ∀ W : World, laidMetH C.prog laid W → W.ShapedOpen C.prog → Laid.facts C.prog (ghAll C.prog.globals.size W)) :
    ReturnsInHanded {} C os f .any ((OpenSpec.ofChange s).preRow enc C.prog fn conds false laid) (((OpenSpec.ofChange s).at F).post enc C.prog fn false true false false) := by
  have hr : ∀ t ∈ ts, C.prog.readableRec t = true ∧ t < C.prog.types.size := fun t ht => by
    have := List.all_eq_true.1 hrB t ht
    simpa using this
  refine returnsInHanded_of_row own started noInit hfn witness ?_
  intro w base args ds gs before hval hW _ _ hsz hlaid hopen _
  have hW : DataW.Whole enc C.prog fn.params.toList s.vars false w args.toList ds gs before := hW
  have hsz : (DataW.weightsEach C.prog (fn.params.toList ++ s.plain.varTypes C.prog) (ds ++ gs)).all (· ≤ reachBytes) = true := hsz
  have hW' := hW
  obtain ⟨p, q, hT, hV, rfl, hfz, hnd⟩ := hW
  rw [hv] at hV
  obtain ⟨rfl, rfl⟩ := trodVars_none hV
  have hlen := trodAll_length hT
  rw [hp] at hT hlen
  have hvt : s.plain.varTypes C.prog = [] := by
    have : s.plain.vars = [] := hv
    unfold DataSpec.varTypes; rw [this]; rfl
  rw [hvt, List.append_nil, List.append_nil, List.all_eq_true, hp] at hsz
  obtain ⟨b, k1, k2, k3⟩ := hA.rd (ng := C.prog.globals.size) (fun j t v ht hv' => hval j t v (by rw [← Array.getElem?_toList, hp]; exact ht) (by rw [← Array.getElem?_toList]; exact hv')) hT fun n hn => by simpa using hsz n hn
  refine law_post hl hz (by rw [hp]; exact hr) hrt htb hv hW' (hs ds hlen) (avs := B b) ⟨by simpa using k2, fun j hj => ?_⟩ (hc b k1) (hLaid _ hlaid hopen)
  have := k3 j (by rw [k2]; exact hj)
  simpa [List.getD_eq_getElem?_getD, Array.getD_eq_getD_getElem?] using this
end
/-! ### what a list gives -/
theorem ghAll_table {ng : Nat} {P : Program} {W : World} {name : String} {k : IntKind} {zs : List Int} {g : Nat} (hg : P.globalNamed name = some g) (h : Lib.TabIs P W name k zs) :
    (ghAll ng W).row g = some zs.length ∧ ∀ j z, zs[j]? = some z → (ghAll ng W).com g j = some (.int k z) := by
  simp only [Lib.TabIs, World.var?, hg, Option.bind_some] at h
  cases hw : W.heap[g]? with
  | none => rw [hw] at h; cases h
  | some o =>
    rw [hw] at h
    cases o with
    | cells c t fz =>
      simp only [Option.some.injEq] at h
      subst h
      refine ⟨by simp [ghAll, hw], fun j z hz => ghAll_com ?_ rfl⟩
      simp [World.cell?, hw, hz]
    | _ => cases h
/-- A variable that holds an error. -/
theorem ghAll_err {ng : Nat} {P : Program} {W : World} {name nm : String} {d : DataW Unit} {g : Nat} {ti : TypeId} {ms : Array (String × TypeId)} (hg : P.globalNamed name = some g) (hty : (P.globals[g]?).map (·.type) = some ti) (hi : P.underlying ti = some (.interface ms))
    {l : List (String × DataW Unit)} (hm : (name, .iface nm d) ∈ l) (h : laidMet P l W) : ∃ v, (ghAll ng W).com g 0 = some v ∧ (v = .nilIface ∨ ∃ t p, v = .iface t p) := by
  obtain ⟨ps, hl, _, _⟩ := h
  have key : ∀ {l : List (String × DataW Unit)} {ps : List MemPlace}, DataW.LaidVars P W l ps → (name, .iface nm d) ∈ l → ∃ t p, W.cell? ⟨g, 0, none⟩ = some (.iface t p) := by
    intro l
    induction l with
    | nil => intro ps _ hm; cases hm
    | cons x r ih =>
      obtain ⟨n, e⟩ := x
      intro ps hl hm
      obtain ⟨g', t, cs, fuel, p, q, h1, h2, h3, h4, h5, _⟩ := hl
      rcases List.mem_cons.1 hm with hm | hm
      · simp only [Prod.mk.injEq] at hm
        obtain ⟨rfl, rfl⟩ := hm
        rw [hg] at h1; simp only [Option.some.injEq] at h1; subst h1
        rw [hty] at h2; simp only [Option.some.injEq] at h2; subst h2
        obtain ⟨_, u, v, h6, _, _⟩ := iface_of_trod hi h4
        simp only [World.var?, hg, Option.bind_some] at h3
        cases hw : W.heap[g]? with
        | none => rw [hw] at h3; cases h3
        | some o =>
          rw [hw] at h3
          cases o with
          | cells c t' fz =>
            simp only [Option.some.injEq] at h3
            subst h3
            refine ⟨u, v, ?_⟩
            have h7 : c[0]? = some (.iface u v) := by rw [← Array.getElem?_toList, h6]; rfl
            simp [World.cell?, hw, h7]
          | _ => cases h3
      · exact ih h5 hm
  obtain ⟨t, p, hc⟩ := key hl hm
  exact ⟨_, ghAll_com hc rfl, .inr ⟨t, p, rfl⟩⟩
/-- A variable that holds a table. -/
theorem tab_of_mem {P : Program} {W : World} {name : String} {k : IntKind} {zs : List Int} {g : Nat} {t e : TypeId} {n : Nat} (hg : P.globalNamed name = some g) (hty : (P.globals[g]?).map (·.type) = some t) (ht : P.underlying t = some (.array n e)) (he : P.underlying e = some (.int k)) (hce : P.cellsOf e = 1) (hct : P.cellsOf t = n)
    {l : List (String × DataW Unit)} (hm : (name, Lib.tabData k zs) ∈ l) (h : laidMet P l W) : Lib.TabIs P W name k zs := by
  obtain ⟨ps, hl, h1, h2⟩ := h
  clear h1 h2
  induction l generalizing ps with
  | nil => cases hm
  | cons x r ih =>
    obtain ⟨n', d⟩ := x
    obtain ⟨g', t', cs, fuel, p, q, h1, h2, h3, h4, h5, _⟩ := hl
    rcases List.mem_cons.1 hm with hm | hm
    · simp only [Prod.mk.injEq] at hm
      obtain ⟨rfl, rfl⟩ := hm
      rw [hg] at h1; simp only [Option.some.injEq] at h1; subst h1
      rw [hty] at h2; simp only [Option.some.injEq] at h2; subst h2
      have := Lib.cells_of_tab ht he hce hct h4
      show W.var? P name = _
      rw [h3, ← this]
    · exact ih hm q h5
end Go.Ab
namespace Go.Proofs.YtaecbmbecofijaaGreatDoor
open Go Go.Ab Go.ChangeShapes Go.WideShapes Go.RowKit
set_option maxRecDepth 100000
/-- The list of the rows. -/
def LL : List (String × DataW Unit) := [("math/bits.deBruijn32tab", Rows.laid_math_bits_deBruijn32tab), ("math/bits.deBruijn64tab", Rows.laid_math_bits_deBruijn64tab), ("internal/strconv.uint64pow10", Rows.laid_internal_strconv_uint64pow10), ("strconv.ErrRange", Rows.laid_strconv_ErrRange), ("strconv.ErrSyntax", Rows.laid_strconv_ErrSyntax)]
def setC (c : Array Value) : Obj → Obj
  | .cells _ t fz => .cells c t fz
  | o => o
def laidHeap (h : Array Obj) : Array Obj := (((((h.modify 4 (setC #[.int .u8 0, .int .u8 1, .int .u8 28, .int .u8 2, .int .u8 29, .int .u8 14, .int .u8 24, .int .u8 3, .int .u8 30, .int .u8 22, .int .u8 20, .int .u8 15, .int .u8 25, .int .u8 17, .int .u8 4, .int .u8 8, .int .u8 31, .int .u8 27, .int .u8 13, .int .u8 23, .int .u8 21, .int .u8 19, .int .u8 16, .int .u8 7, .int .u8 26, .int .u8 12, .int .u8 18, .int .u8 6, .int .u8 11, .int .u8 5, .int .u8 10, .int .u8 9])).modify 5 (setC #[.int .u8 0, .int .u8 1, .int .u8 56, .int .u8 2, .int .u8 57, .int .u8 49, .int .u8 28, .int .u8 3, .int .u8 61, .int .u8 58, .int .u8 42, .int .u8 50, .int .u8 38, .int .u8 29, .int .u8 17, .int .u8 4, .int .u8 62, .int .u8 47, .int .u8 59, .int .u8 36, .int .u8 45, .int .u8 43, .int .u8 51, .int .u8 22, .int .u8 53, .int .u8 39, .int .u8 33, .int .u8 30, .int .u8 24, .int .u8 18, .int .u8 12, .int .u8 5, .int .u8 63, .int .u8 55, .int .u8 48, .int .u8 27, .int .u8 60, .int .u8 41, .int .u8 37, .int .u8 16, .int .u8 46, .int .u8 35, .int .u8 44, .int .u8 21, .int .u8 52, .int .u8 32, .int .u8 23, .int .u8 11, .int .u8 54, .int .u8 26, .int .u8 40, .int .u8 15, .int .u8 34, .int .u8 20, .int .u8 31, .int .u8 10, .int .u8 25, .int .u8 14, .int .u8 19, .int .u8 9, .int .u8 13, .int .u8 8, .int .u8 7, .int .u8 6])).modify 3 (setC #[.int .u64 1, .int .u64 10, .int .u64 100, .int .u64 1000, .int .u64 10000, .int .u64 100000, .int .u64 1000000, .int .u64 10000000, .int .u64 100000000, .int .u64 1000000000, .int .u64 10000000000, .int .u64 100000000000, .int .u64 1000000000000, .int .u64 10000000000000, .int .u64 100000000000000, .int .u64 1000000000000000, .int .u64 10000000000000000, .int .u64 100000000000000000, .int .u64 1000000000000000000, .int .u64 10000000000000000000])).modify 2 (setC #[.iface 242 (.pointer (some ⟨13, 0, none⟩))])).modify 1 (setC #[.iface 242 (.pointer (some ⟨14, 0, none⟩))])) ++ #[.cells #[.string ⟨#[118, 97, 108, 117, 101, 32, 111, 117, 116, 32, 111, 102, 32, 114, 97, 110, 103, 101]⟩] 244 (0, 0), .cells #[.string ⟨#[105, 110, 118, 97, 108, 105, 100, 32, 115, 121, 110, 116, 97, 120]⟩] 244 (0, 0)]
noncomputable def laidWorld (os : Os) : World := { World.holding Tryz.prog os ⟨#[], #[], []⟩ with heap := laidHeap (World.holding Tryz.prog os ⟨#[], #[], []⟩).heap }
theorem laid_met (os : Os) (args : Array Value) : laidMet Tryz.prog LL ((laidWorld os).forCall (fun _ _ => 0) ⟨#[], args, []⟩).memory :=
  laidMet_of_run' 8 (by kernel_rfl) (by kernel_rfl)
theorem laid_h {W : World} (h : laidMetH Tryz.prog LL W) : laidMet Tryz.prog LL W := h
end Go.Proofs.YtaecbmbecofijaaGreatDoor
namespace Go.Proofs.YtaecbmbecofijaaGreatDoor
open Go Go.Ab
set_option maxRecDepth 100000
instance laidChecked : Laid Tryz.checked.prog := laidHere
theorem own : ownKnob Tryz.prog.godebug = none := by kernel_rfl
theorem laidOut : laidOutB Tryz.prog = true := by kernel_rfl
theorem full : ∀ t e, t < Tryz.prog.types.size → Tryz.prog.underlying t = some (.slice e) → 0 < Tryz.prog.cellsOf e := slices_full_of _ (by kernel_rfl)
theorem laid_facts {W : World} (h : laidMetH Tryz.prog LL W) (ho : W.ShapedOpen Tryz.prog) : Laid.facts Tryz.prog (ghAll Tryz.prog.globals.size W) := by
  have h' := laid_h h
  have ht : Lib.TabIs Tryz.prog W "internal/strconv.uint64pow10" .u64 Lib.pow10Tab :=
    tab_of_mem (g := 3) (t := 234) (e := 186) (n := 20) (by kernel_rfl) (by kernel_rfl) (by kernel_rfl) (by kernel_rfl) (by kernel_rfl) (by kernel_rfl) (l := LL) (List.mem_cons_of_mem _ (List.mem_cons_of_mem _ List.mem_cons_self)) h'
  have hn : Tryz.prog.globalNamed "internal/strconv.uint64pow10" = some 3 := by kernel_rfl
  obtain ⟨t1, t2⟩ := ghAll_table (ng := Tryz.prog.globals.size) hn ht
  obtain ⟨m, hm⟩ := cell_of_shapedOpen_int (P := Tryz.prog) (g := 0) (zero := #[.int .i64 0]) (t := 3) ho (of_decide_eq_true (by kernel_rfl)) (by kernel_rfl) rfl (by kernel_rfl) (by kernel_rfl) Tryz.underlying3
  refine ⟨t1, t2, ?_, ?_, m, ghAll_com hm rfl⟩
  · exact ghAll_err (P := Tryz.prog) (name := "strconv.ErrSyntax") (ti := 166) (by kernel_rfl) (by kernel_rfl) Tryz.underlying166 (l := LL) (List.mem_cons_of_mem _ (List.mem_cons_of_mem _ (List.mem_cons_of_mem _ (List.mem_cons_of_mem _ List.mem_cons_self)))) h'
  · exact ghAll_err (P := Tryz.prog) (name := "strconv.ErrRange") (ti := 166) (by kernel_rfl) (by kernel_rfl) Tryz.underlying166 (l := LL) (List.mem_cons_of_mem _ (List.mem_cons_of_mem _ (List.mem_cons_of_mem _ List.mem_cons_self))) h'
end Go.Proofs.YtaecbmbecofijaaGreatDoor
namespace Go.Ab
section
variable {P : Program} [Laid P] {x : Ctx} {n : Nat} {Q : AX → AS → Prop} {fr : List (Nat × AV)} {m : Mem} {c : Nat} {ds : List AD} {ks : List Pc}
/-- An object's cells, by what they say less of. -/
theorem MemRel.cells {x : Ctx} {g : Gh} {m : Mem} {w : World} (h : MemRel x g m w) {i : Oid} {vs ws : List AV} (hi : m i = some (.cells vs)) (hw : AVles vs ws) : MemRel x g (m.set i (some (.cells ws))) w := by
  obtain ⟨b, hb, _, _, cc, t, fz, h1, h2, h3, h4⟩ := h.obj i _ hi
  exact h.turn hi hb rfl rfl ⟨rfl, Nat.le_refl _⟩ (Nat.le_refl _) (fun _ _ _ => rfl) (fun r hr => h.rows b r hr) (fun _ t' fz' h9 => ⟨_, _, h9⟩)
    ⟨cc, t, fz, h1, h2.trans hw.length, h3, fun j hj => hw.at j _ _ (h4 j (by rw [hw.length]; exact hj))⟩
/-- What may be said instead, of the same world. -/
def Gho (x : Ctx) (n : Nat) (R : AS → Prop) (s : AS) : Prop := ∀ g a w, Rel x n g s a w → ∃ g' s', Rel x n g' s' a w ∧ R s'
theorem Gho.now {R : AS → Prop} {s : AS} (h : R s) : Gho x n R s := fun g _ _ hr => ⟨g, s, hr, h⟩
theorem Gho.step {R : AS → Prop} {s s' : AS} (hg : ∀ g a w, Rel x n g s a w → ∃ g', Rel x n g' s' a w) (h : Gho x n R s') : Gho x n R s := fun g a w hr => let ⟨g', hr'⟩ := hg g a w hr; h g' a w hr'
theorem Rel.cells {g : Gh} {a : Act} {w : World} (hr : Rel x n g ⟨fr, m, c, ds⟩ a w) (i : Oid) (vs ws : List AV) (hi : m i = some (.cells vs)) (hw : AVles vs ws) : ∃ g', Rel x n g' ⟨fr, m.set i (some (.cells ws)), c, ds⟩ a w :=
  ⟨g, hr.mr.cells hi hw, hr.tm, hr.df, hr.fr, hr.young⟩
/-- A row is fixed for good. -/
theorem Rel.freeze {g : Gh} {a : Act} {w : World} (hr : Rel x n g ⟨fr, m, c, ds⟩ a w) (i : Oid) (sz : Nat) (xs : List AV) (hi : m i = some (.arr sz xs)) :
    ∃ g', Rel x n g' ⟨frz i sz xs fr, m.set i none, c, ds⟩ a w ∧ g.le g' ∧ g'.loc = g.loc ∧ ∀ v u, VR g v u → VR g' (frzV i sz xs v) u := by
  obtain ⟨g', h1, h2, h3, h4⟩ := hr.mr.freeze hi
  have key : ∀ v u, VR g v u → VR g' (frzV i sz xs v) u := fun v u hv => by
    unfold frzV
    split
    · split
      · rename_i e
        obtain ⟨rfl, rfl, rfl⟩ := e
        have := h4 _ _ hv (Nat.le_refl _)
        rwa [List.take_length] at this
      · exact hv.mono h1
    · exact hv.mono h1
  exact ⟨g', ⟨h3, hr.tm, hr.df.mono h1, fun t ht => by rw [F_frz]; exact key _ _ (hr.fr t ht), fun k hk => by rw [h2]; exact hr.young k hk⟩, h1, by funext k; exact h2 k, key⟩
/-- Cells, some of which say a row that is fixed. -/
inductive Frz (i : Oid) (sz : Nat) (xs : List AV) : List AV → List AV → Prop
  | nil : Frz i sz xs [] []
  | keep {v : AV} {vs ws : List AV} (h : Frz i sz xs vs ws) : Frz i sz xs (v :: vs) (v :: ws)
  | turn {n : Nat} {vs ws : List AV} (hn : n = xs.length) (h : Frz i sz xs vs ws) : Frz i sz xs (.sl i sz n :: vs) (.list sz xs :: ws)
theorem Frz.at {i : Oid} {sz : Nat} {xs vs ws : List AV} (h : Frz i sz xs vs ws) : vs.length = ws.length ∧ ∀ j, ws.getD j .undef = vs.getD j .undef ∨ ws.getD j .undef = frzV i sz xs (vs.getD j .undef) := by
  induction h with
  | nil => exact ⟨rfl, fun _ => .inl rfl⟩
  | keep _ ih =>
    refine ⟨by simp [ih.1], fun j => ?_⟩
    cases j with
    | zero => exact .inl rfl
    | succ j => simpa using ih.2 j
  | turn hn _ ih =>
    refine ⟨by simp [ih.1], fun j => ?_⟩
    cases j with
    | zero => right; simp [frzV, hn]
    | succ j => simpa using ih.2 j
end
theorem AVles.refl : ∀ l : List AV, AVles l l
  | [] => .nil
  | _ :: l => .cons (.refl _) (AVles.refl l)
end Go.Ab
namespace Go.Proofs.YtaecbmbecofijaaGreatDoor
open Go Go.Ab
abbrev PL := List (Str × Bits)
/-! the order of texts -/
theorem ltS_cons (a b : UInt8) (x y : Str) : ltS (a :: x) (b :: y) = true ↔ a.toNat < b.toNat ∨ (a.toNat = b.toNat ∧ ltS x y = true) := by
  simp only [ltS, Op.bytesLess, Bool.or_eq_true, Bool.and_eq_true, decide_eq_true_eq, beq_iff_eq, UInt8.lt_iff_toNat_lt, ← UInt8.toNat_inj]
theorem ltS_trans : ∀ a b c : Str, ltS a b = true → ltS b c = true → ltS a c = true
  | [], _, [], _, h => by cases ‹Str› <;> simp [ltS, Op.bytesLess] at h
  | [], _, _ :: _, _, _ => rfl
  | _ :: _, [], _, h, _ => by simp [ltS, Op.bytesLess] at h
  | _ :: _, _ :: _, [], _, h => by simp [ltS, Op.bytesLess] at h
  | a :: x, b :: y, c :: z, h1, h2 => by
    rw [ltS_cons] at h1 h2 ⊢
    rcases h1 with h1 | ⟨h1, h3⟩ <;> rcases h2 with h2 | ⟨h2, h4⟩
    · exact .inl (by omega)
    · exact .inl (by omega)
    · exact .inl (by omega)
    · exact .inr ⟨by omega, ltS_trans x y z h3 h4⟩
theorem ltS_irr : ∀ a : Str, ltS a a = false
  | [] => rfl
  | a :: x => by
    have := ltS_irr x
    rw [Bool.eq_false_iff] at this ⊢
    intro h
    rw [ltS_cons] at h
    rcases h with h | ⟨_, h⟩
    · omega
    · exact this h
theorem ltS_tot : ∀ a b : Str, ltS a b = false → ltS b a = false → a = b
  | [], [], _, _ => rfl
  | [], _ :: _, h, _ => by simp [ltS, Op.bytesLess] at h
  | _ :: _, [], _, h => by simp [ltS, Op.bytesLess] at h
  | a :: x, b :: y, h1, h2 => by
    rw [Bool.eq_false_iff] at h1 h2
    have h3 := fun h => h1 ((ltS_cons a b x y).2 h)
    have h4 := fun h => h2 ((ltS_cons b a y x).2 h)
    have hab : a.toNat = b.toNat := by
      rcases Nat.lt_trichotomy a.toNat b.toNat with h | h | h
      · exact absurd (.inl h) h3
      · exact h
      · exact absurd (.inl h) h4
    have := ltS_tot x y (by rw [Bool.eq_false_iff]; exact fun h => h3 (.inr ⟨hab, h⟩)) (by rw [Bool.eq_false_iff]; exact fun h => h4 (.inr ⟨hab.symm, h⟩))
    rw [this, UInt8.toNat_inj.1 hab]
theorem ltS_app : ∀ (p a b : Str), ltS (p ++ a) (p ++ b) = ltS a b
  | [], _, _ => rfl
  | c :: p, a, b => by
    have ih := ltS_app p a b
    rw [Bool.eq_iff_iff, List.cons_append, List.cons_append, ltS_cons, ih]
    constructor
    · rintro (h | ⟨_, h⟩)
      · omega
      · exact h
    · exact fun h => .inr ⟨rfl, h⟩
theorem ltS_lt : ∀ {a b : Str}, ltS a b = true → a < b
  | [], [], h => by simp [ltS, Op.bytesLess] at h
  | [], _ :: _, _ => by simp
  | _ :: _, [], h => by simp [ltS, Op.bytesLess] at h
  | a :: x, b :: y, h => by
    rw [ltS_cons] at h
    rw [List.cons_lt_cons_iff, UInt8.lt_iff_toNat_lt, ← UInt8.toNat_inj]
    exact h.imp id fun ⟨h1, h2⟩ => ⟨h1, ltS_lt h2⟩
def ltB (a b : Str) : Prop := ltS a b = true
instance : DecidableRel ltB := fun a b => inferInstanceAs (Decidable (ltS a b = true))
theorem ordB : Ord ltB where
  irr a h := by rw [ltB, ltS_irr] at h; cases h
  tr := ltS_trans
  tot a b h hn := by
    cases h2 : ltS b a with
    | true => exact h2
    | false => exact absurd (ltS_tot a b (Bool.eq_false_iff.2 h) h2) hn
/-! what is where -/
def getP (L : PL) (n : Str) : Bits := if n = [] then ⟨2, 7, []⟩ else (lookG n L).getD Bits.no
def putP (n : Str) (b : Bits) (L : PL) : PL := if n = [] then L else insG ltB n (if b.k = 0 then none else some b) L
def namesP (L : PL) (n : Str) : List Str := L.filterMap fun q => restOf n q.1
def MapP (es : List ME) (L : PL) : Prop := MapG AV.str Bits.av es L
theorem encS : EncOK AV.str := sameK_str
theorem mapP_new : MapP [] [] := mapG_new
theorem mapP_val {es : List ME} {L : PL} (h : MapP es L) (n : Str) : valE (.str n) (.agg [.int .i64 0, .int .i64 0, .str []]) es = ((lookG n L).getD Bits.no).av := by
  rw [mapG_val encS h]
  cases lookG n L <;> rfl
theorem mapP_put {es : List ME} {L : PL} (h : MapP es L) (hs : SortG ltB L) (n : Str) (b : Bits) (c : Nat) : MapP (putE n b es c) (putP n b L) := by
  unfold putE putP
  split
  · exact h
  · split
    · exact mapG_del encS h n ((insG_filter ordB n none hs).trans (.refl _))
    · exact mapG_set encS h n b c ((insG_filter ordB n (some b) hs).trans (.refl _))
theorem putP_sort {L : PL} (hs : SortG ltB L) (n : Str) (b : Bits) : SortG ltB (putP n b L) := by
  unfold putP
  split
  · exact hs
  · exact insG_sort ordB _ _ hs
/-! the names below a place -/
theorem preT_split {k p : Str} (h : preT k p = true) : k = p ++ k.drop p.length := by
  simp only [preT, Bool.and_eq_true, decide_eq_true_eq] at h
  have := List.take_append_drop p.length k
  rw [h.2] at this
  exact this.symm
theorem restOf_some {n k r : Str} (h : restOf n k = some r) : k = (n ++ [47]) ++ r := by
  unfold restOf at h
  split at h
  · rename_i hc
    simp only [Option.some.injEq] at h
    have := preT_split hc.1
    rw [← h]
    simpa using this
  · cases h
theorem namesP_le {L : PL} (hs : SortG ltB L) (n : Str) : (namesP L n).Pairwise (· ≤ ·) := by
  unfold namesP
  rw [List.pairwise_filterMap]
  refine hs.imp fun {a b} h r hr r' hr' => ?_
  rw [ltB, restOf_some hr, restOf_some hr', ltS_app] at h
  exact List.le_of_lt (ltS_lt h)
theorem namesE_eq {es : List ME} {L : PL} (h : MapP es L) (hs : SortG ltB L) (n : Str) : sortS (namesE n es) = namesP L n := by
  refine sortS_eq ?_ (namesP_le hs n)
  obtain ⟨E, rfl, h2, _⟩ := h
  have h3 : namesE n (E.map (entG AV.str Bits.av)) = (E.map prj).filterMap fun q => restOf n q.1 := by
    unfold namesE
    rw [List.filterMap_map, List.filterMap_map]
    rfl
  rw [h3]
  exact h2.filterMap _
/-! sizes -/
/-- No more, no longer than any machine holds. -/
structure POk (L : PL) : Prop where
  len : L.length ≤ 1000000
  key : ∀ q ∈ L, q.1.length ≤ 1000000
  val : ∀ q ∈ L, q.2.ok
theorem mapP_len {es : List ME} {L : PL} (h : MapP es L) : es.length = L.length := by
  obtain ⟨E, rfl, h2, _⟩ := h
  rw [List.length_map, ← h2.length_eq, List.length_map]
theorem mapP_key {es : List ME} {L : PL} (h : MapP es L) (ho : POk L) : ∀ e ∈ es, (keyS e).length ≤ 1000000 := by
  obtain ⟨E, rfl, h2, _⟩ := h
  intro e he
  obtain ⟨q, h3, rfl⟩ := List.mem_map.1 he
  exact ho.key (prj q) (h2.mem_iff.1 (List.mem_map_of_mem h3))
theorem namesP_mem {L : PL} (ho : POk L) {n r : Str} (h : r ∈ namesP L n) : r.length ≤ 1000000 := by
  obtain ⟨q, h1, h2⟩ := List.mem_filterMap.1 h
  have h3 := ho.key q h1
  rw [restOf_some h2, List.length_append] at h3
  omega
theorem encT_le {l : List Str} {k : Nat} (hk : k ≤ 4000000000) (h : ∀ s ∈ l, s.length ≤ k) : (encT l).length ≤ l.length * (k + 100) := by
  induction l with
  | nil => simp [encT]
  | cons a l ih =>
    have h1 := ih fun s hs => h s (List.mem_cons_of_mem _ hs)
    have h2 := h a List.mem_cons_self
    have h3 := chunk_len a
    have h4 := Lib.itoa_length_le a.length (by omega) (by omega)
    simp only [encT, List.length_append, List.length_cons, Nat.add_mul, Nat.one_mul]
    omega
theorem namesP_enc {L : PL} (ho : POk L) (n : Str) : (encT (namesP L n)).length ≤ 100000000000000 ∧ (namesP L n).length ≤ 1000000 := by
  have h1 := encT_le (k := 1000000) (by decide) fun s hs => namesP_mem ho (n := n) hs
  have h2 : (namesP L n).length ≤ L.length := List.length_filterMap_le _ _
  have h3 := ho.len
  refine ⟨Nat.le_trans h1 ?_, by omega⟩
  have : (namesP L n).length * (1000000 + 100) ≤ 1000000 * (1000000 + 100) := Nat.mul_le_mul_right _ (by omega)
  omega
end Go.Proofs.YtaecbmbecofijaaGreatDoor
namespace Go.Proofs.YtaecbmbecofijaaGreatDoor
open Go Go.Ab
set_option maxRecDepth 20000
set_option maxHeartbeats 4000000
instance : Inhabited Bits := ⟨Bits.no⟩
/-! the names below a place -/
end Go.Proofs.YtaecbmbecofijaaGreatDoor
namespace Go.Proofs.YtaecbmbecofijaaGreatDoor
open Go Go.Ab
set_option maxRecDepth 20000
set_option maxHeartbeats 4000000
end Go.Proofs.YtaecbmbecofijaaGreatDoor
namespace Go.Proofs.YtaecbmbecofijaaGreatDoor
open Go Go.Ab
set_option maxRecDepth 20000
set_option maxHeartbeats 4000000
abbrev WL := List (Str × Unit)
/-! an insertion, by its place -/
end Go.Proofs.YtaecbmbecofijaaGreatDoor
namespace Go.Proofs.YtaecbmbecofijaaGreatDoor
open Go Go.Ab
set_option maxRecDepth 20000
set_option maxHeartbeats 4000000
def putW (tr : Bool) (n : Str) (W : WL) : WL := if n = [] then W else if tr then insG ltB n (some ()) W else W
theorem done_updR {P : Program} {rs : List ResultVar} {need : List (Oid × AObj)} {fr : List (Nat × AV)} {m : Mem} {c : Nat} {val : AV} {upd : List (Oid × Option AObj)} (h1 : retM P m fr rs = some val)
    (h2 : ∀ q, q ∈ upd → ∀ o, q.2 = some o → m q.1 = some o) (h3 : ∀ q, q ∈ need → (∀ r, r ∈ upd → ¬ r.1 = q.1) → m q.1 = some q.2) : DoneN P rs need (fun v u => v = val ∧ u = upd) (fun _ _ => False) .ret ⟨fr, m, c, []⟩ :=
  done_ret val upd h1 ⟨rfl, rfl⟩ (upd_sub h2 h3)
end Go.Proofs.YtaecbmbecofijaaGreatDoor
namespace Go.Proofs.YtaecbmbecofijaaGreatDoor
open Go Go.Ab
set_option maxRecDepth 20000
set_option maxHeartbeats 4000000
end Go.Proofs.YtaecbmbecofijaaGreatDoor
namespace Go.Proofs.YtaecbmbecofijaaGreatDoor
open Go Go.Ab
set_option maxRecDepth 20000
set_option maxHeartbeats 4000000
theorem keysT_seq (b1 o : Oid) (es : List ME) (clock : Nat) (p : Oid) (hne1 : ¬ o = b1) (hb1 : ¬ Oid.under p b1) (ho : ¬ Oid.under p o) :
    SeqND Tryz.prog 121 [.ptr b1 0] p [(b1, .cells [.map o]), (o, .map [.ss] false es clock)] 1 (fun pre xs => pre.length < es.length ∧ ∃ s : Str, xs = [.str s]) (fun b pre => b = true → ∃ U : List ME, U.Perm es ∧ pre = U.map fun e => [.str (keyS e)]) := by
  intro l J L0 hJ hdis hnp hY
  refine callND_cons (by kernel_rfl) fun hcon => ?_
  refine fnND (n := 14) (rs := []) Tryz.func121 rfl rfl (by decide) rfl rfl rfl ?_; rintro x rfl hrd hng
  have hcL : ∀ q ∈ L0, Mem.of L0 q.1 = some q.2 := fun q hq => by
    have := hcon q (List.mem_append_right _ hq)
    rwa [of_app fun q' hq' => hdis q hq q' hq'] at this
  generalize hQ : DoneN Tryz.prog [] ([(b1, .cells [.map o]), (o, .map [.ss] false es clock)] ++ L0) _ _ = Q
  refine T_wf fun hwf => ?_
  obtain ⟨hw1, hw2⟩ := hwf o [.ss] false es clock (by simp only [fa_cons, fa_nil, Mem.of_cons_at, Mem.of_nil_at, Mem.of_upds, Mem.of_putL, putLs, putL, List.cons_append, List.nil_append, List.append_nil, ↓reduceIte, eq_self, and_true, true_and, and_self, and_false, false_and, reduceCtorEq, Oid.sub.injEq, Nat.reduceEqDiff, hne1, Oid.sub_not_under hb1, Oid.sub_not_under ho, Oid.not_under_sub hb1, Oid.not_under_sub ho])
  have hstr : ∀ e ∈ es, e.key = .str (keyS e) := fun e he => by
    obtain ⟨s, hs⟩ := str_of_fits (hw1 e he).1
    simp only [keyS, hs]
  (try ((first | refine zn ?_ | refine ze ?_ | refine zk ?_); with_reducible (constructor; repeat constructor)); try refine zl ?_)
  refine K_ev nmd [] hng (by kernel_rfl) fun hf C S K hC1 hC hS hK => ?_; simp (disch := first | omega | assumption) only [go_sem, hne1, Oid.sub_not_under hb1, Oid.sub_not_under ho, Oid.not_under_sub hb1, Oid.not_under_sub ho, of_put_at]
  refine hK ?_; clear hK hS hC hC1 K S C hf
  (try ((first | refine zn ?_ | refine ze ?_ | refine zk ?_); with_reducible (constructor; repeat constructor)); try refine zl ?_)
  have hn0 : ∀ q ∈ L0, ¬ q.1 = b1 ∧ ¬ q.1 = o ∧ ¬ q.1 = .sub 0 1 x.p := fun q hq => ⟨hdis q hq _ List.mem_cons_self, hdis q hq _ (List.mem_cons_of_mem _ List.mem_cons_self), fun e => hnp q hq (e ▸ Oid.under_sub (Oid.under_refl _))⟩
  refine K_mem ([(b1, .cells [.map o]), (o, .map [.ss] false es clock), (.sub 0 1 x.p, .iter (some o) clock [] clock)] ++ L0) (app_mem ?_ ?_) ?_
  · simp only [fa_cons, fa_nil, Mem.of_cons_at, Mem.of_nil_at, Mem.of_upds, Mem.of_putL, putLs, putL, List.cons_append, List.nil_append, List.append_nil, ↓reduceIte, eq_self, and_true, true_and, and_self, and_false, false_and, reduceCtorEq, Oid.sub.injEq, Nat.reduceEqDiff, hne1, Oid.sub_not_under hb1, Oid.sub_not_under ho, Oid.not_under_sub hb1, Oid.not_under_sub ho, of_put_at]
  · intro q hq
    obtain ⟨a1, a2, a3⟩ := hn0 q hq
    simp only [fa_cons, fa_nil, Mem.of_cons_at, Mem.of_nil_at, Mem.of_upds, Mem.of_putL, putLs, putL, List.cons_append, List.nil_append, List.append_nil, ↓reduceIte, eq_self, and_true, true_and, and_self, and_false, false_and, reduceCtorEq, Oid.sub.injEq, Nat.reduceEqDiff, of_put_at, a1, a2, a3]
    exact hcL q hq
  refine K_loop [0, 1, 5] (fun q s' => ∃ (c : Nat) (U : List ME) (L : List (Oid × AObj)), s' = ⟨[(0, .fn (.yield l) [] []), (1, .ptr b1 0), (5, .iter (.sub 0 1 x.p))], Mem.of ([(b1, .cells [.map o]), (o, .map [.ss] false es clock), (.sub 0 1 x.p, .iter (some o) clock (U.map ME.born) clock)] ++ L), c, []⟩ ∧ 0 < c ∧ q = es.length - U.length ∧ (U.map ME.born).Nodup ∧ (∀ e ∈ U, e ∈ es) ∧ J true (U.map fun e => [.str (keyS e)]) L ∧
    (∀ q ∈ L, Mem.of L q.1 = some q.2) ∧ ∀ q ∈ L, ((∃ q' ∈ L0, q'.1 = q.1) ∨ Oid.under x.p q.1) ∧ ¬ q.1 = b1 ∧ ¬ q.1 = o ∧ ¬ q.1 = .sub 0 1 x.p ∧ ∀ d j, c ≤ d → ¬ Oid.under (.sub d j x.p) q.1) es.length ⟨_, [], L0, rfl, by omega, rfl, List.nodup_nil, fun i h => (by cases h), hJ, hcL, fun q hq => ⟨.inl ⟨q, hq, rfl⟩, (hn0 q hq).1, (hn0 q hq).2.1, (hn0 q hq).2.2, fun d j _ h => hnp q hq (Oid.under_sub h)⟩⟩ ?_
  rintro q s' ⟨c, U, L, rfl, hc, rfl, hnd, hlt, hj, hcc, hnm⟩
  have hst : U.map ME.born = [] ∨ es = [] ∨ ∃ e ∈ es, e.born < clock := by
    cases U with
    | nil => exact .inl rfl
    | cons e _ => exact .inr (.inr ⟨e, hlt e List.mem_cons_self, (hw1 e (hlt e List.mem_cons_self)).2⟩)
  (try ((first | refine zn ?_ | refine ze ?_ | refine zk ?_); with_reducible (constructor; repeat constructor)); try refine zl ?_)
  refine K_ev nmd [] hng (by kernel_rfl) fun hf C S K hC1 hC hS hK => ?_; simp (disch := first | omega | assumption) only [go_sem]
  refine hS _ _ _ (fun o' hd ho' => nd_next (it := .sub 0 1 x.p) (id := o) (since := clock) (ks := [.ss]) (ag := false) (clock := clock) ho' rfl hst) ?_ ?_ (fun _ _ h => h.elim)
  · simp only [fa_cons, fa_nil, Mem.of_cons_at, Mem.of_nil_at, Mem.of_upds, Mem.of_putL, putLs, putL, List.cons_append, List.nil_append, List.append_nil, ↓reduceIte, eq_self, and_true, true_and, and_self, and_false, false_and, reduceCtorEq, Oid.sub.injEq, Nat.reduceEqDiff, hne1, Oid.sub_not_under hb1, Oid.sub_not_under ho, Oid.not_under_sub hb1, Oid.not_under_sub ho]
  rintro val upd (⟨e, he, hns, rfl, rfl⟩ | ⟨hall, rfl, rfl⟩)
  · have hfi := find_born hw2 he
    have hk := hstr e he
    have hnd' : ((U ++ [e]).map ME.born).Nodup := by
      rw [List.map_append]
      exact List.nodup_append.2 ⟨hnd, by simp, fun a ha b hb' e' => by simp at hb'; subst hb'; subst e'; exact hns ha⟩
    have hlt' : ∀ j ∈ U ++ [e], j ∈ es := fun j hj => by
      rcases List.mem_append.1 hj with hj | hj
      · exact hlt j hj
      · simp at hj; subst hj; exact he
    have hle := sub_len hw2 hlt' hnd'
    generalize hks : keyS e = s at *
    simp (disch := first | omega | assumption) only [go_sem, hne1, Oid.sub_not_under hb1, Oid.sub_not_under ho, Oid.not_under_sub hb1, Oid.not_under_sub ho, of_put_at, hk]
    refine hK ?_; clear hK hS hC hC1 K S C hf
    (repeat (first | (refine K_ifT rfl rfl ?_) | (refine K_ifF rfl rfl ?_) | (refine K_ev nmd [] hng (by kernel_rfl) fun hf C S K hC1 hC hS hK => ?_; simp (disch := first | omega | assumption) only [go_sem]; refine hK ?_; clear hK hS hC hC1 K S C hf) | ((first | refine zv ?_ | refine zw ?_ | refine zu ?_); with_reducible (constructor; repeat constructor); try refine zl ?_)))
    refine K_block ?_
    (repeat (first | (refine K_ifT rfl rfl ?_) | (refine K_ifF rfl rfl ?_) | (refine K_ev nmd [] hng (by kernel_rfl) fun hf C S K hC1 hC hS hK => ?_; simp (disch := first | omega | assumption) only [go_sem]; refine hK ?_; clear hK hS hC hC1 K S C hf) | ((first | refine zv ?_ | refine zw ?_ | refine zu ?_); with_reducible (constructor; repeat constructor); try refine zl ?_)))
    refine K_ev nmd [] hng (by kernel_rfl) fun hf C S K hC1 hC hS hK => ?_; simp (disch := first | omega | assumption) only [go_sem, hne1, Oid.sub_not_under hb1, Oid.sub_not_under ho, Oid.not_under_sub hb1, Oid.not_under_sub ho, of_put_at, hfi, hk, List.getLast?_concat]
    refine hK ?_; clear hK hS hC hC1 K S C hf
    (repeat (first | (refine K_ifT rfl rfl ?_) | (refine K_ifF rfl rfl ?_) | (refine K_ev nmd [] hng (by kernel_rfl) fun hf C S K hC1 hC hS hK => ?_; simp (disch := first | omega | assumption) only [go_sem]; refine hK ?_; clear hK hS hC hC1 K S C hf) | ((first | refine zv ?_ | refine zw ?_ | refine zu ?_); with_reducible (constructor; repeat constructor); try refine zl ?_)))
    have hnL : ∀ q ∈ L, ∀ q' ∈ ([(b1, .cells [.map o]), (o, .map [.ss] false es clock), (.sub 0 1 x.p, .iter (some o) clock (U.map ME.born ++ [e.born]) clock)] : List (Oid × AObj)), ¬ q.1 = q'.1 := fun q hq => by
      obtain ⟨_, a1, a2, a3, a4⟩ := hnm q hq
      simp only [fa_cons, fa_nil, Mem.of_cons_at, Mem.of_nil_at, Mem.of_upds, Mem.of_putL, putLs, putL, List.cons_append, List.nil_append, List.append_nil, ↓reduceIte, eq_self, and_true, true_and, and_self, and_false, false_and, reduceCtorEq, Oid.sub.injEq, Nat.reduceEqDiff, a1, a2, a3, not_false_eq_true]
    have hBm : ∀ q ∈ ([(b1, .cells [.map o]), (o, .map [.ss] false es clock), (.sub 0 1 x.p, .iter (some o) clock (U.map ME.born ++ [e.born]) clock)] : List (Oid × AObj)), Mem.of ([(b1, .cells [.map o]), (o, .map [.ss] false es clock), (.sub 0 1 x.p, .iter (some o) clock (U.map ME.born ++ [e.born]) clock)] ++ L) q.1 = some q.2 := by
      simp only [fa_cons, fa_nil, Mem.of_cons_at, Mem.of_nil_at, Mem.of_upds, Mem.of_putL, putLs, putL, List.cons_append, List.nil_append, List.append_nil, ↓reduceIte, eq_self, and_true, true_and, and_self, and_false, false_and, reduceCtorEq, Oid.sub.injEq, Nat.reduceEqDiff, hne1, Oid.sub_not_under hb1, Oid.sub_not_under ho, Oid.not_under_sub hb1, Oid.not_under_sub ho]
    have hall := cons_app hBm hnL hcc
    have hmm : (U ++ [e]).map ME.born = U.map ME.born ++ [e.born] := by simp
    have hlen2 : (U ++ [e]).length = U.length + 1 := by simp
    refine K_ev nmd [] hng (by kernel_rfl) fun hf C S K hC1 hC hS hK => ?_; simp (disch := first | omega | assumption) only [go_sem, hne1, Oid.sub_not_under hb1, Oid.sub_not_under ho, Oid.not_under_sub hb1, Oid.not_under_sub ho, of_put_at]
    refine hS _ _ _ (fun o' hd ho' => eff_yield ho' rfl (hY _ [.str s] L (.sub (c + 1 + 1) 2 x.p) hj rfl ⟨by rw [List.length_map]; rw [hlen2] at hle; omega, s, rfl⟩)) (fun q hq => hall q (List.mem_append_right _ hq)) ?_ (fun _ _ h => h.elim)
    rintro val upd ⟨b, L', rfl, hj', hU⟩
    have hym := yield_mem hU (fun q hq => hall q (List.mem_append_right _ hq)) hBm ?_
    rotate_left
    · intro q hq
      refine ⟨fun q' hq' => hnL q' hq' q hq, fun hu => ?_⟩
      simp only [List.mem_cons, List.not_mem_nil, or_false] at hq
      rcases hq with rfl | rfl | rfl
      · exact hb1 (Oid.under_sub hu)
      · exact ho (Oid.under_sub hu)
      · have := (Oid.apart hu (Oid.under_refl _)).1; omega
    have hcl : ∀ q ∈ L', Mem.of L' q.1 = some q.2 := fun q hq => by
      obtain ⟨o', ho'⟩ := Mem.of_some hq
      obtain ⟨q', h1, h2, h3⟩ := Mem.of_mem ho'
      have h4 := hym q (List.mem_append_right _ hq)
      have h5 := hym q' (List.mem_append_right _ h1)
      rw [h2, h4, h3] at h5
      rw [ho']; exact h5.symm
    simp (disch := first | omega | assumption) only [go_sem]
    refine hK ?_; clear hK hS hC hC1 K S C hf
    (repeat (first | (refine K_ifT rfl rfl ?_) | (refine K_ifF rfl rfl ?_) | (refine K_ev nmd [] hng (by kernel_rfl) fun hf C S K hC1 hC hS hK => ?_; simp (disch := first | omega | assumption) only [go_sem]; refine hK ?_; clear hK hS hC hC1 K S C hf) | ((first | refine zv ?_ | refine zw ?_ | refine zu ?_); with_reducible (constructor; repeat constructor); try refine zl ?_)))
    refine K_mem ([(b1, .cells [.map o]), (o, .map [.ss] false es clock), (.sub 0 1 x.p, .iter (some o) clock (U.map ME.born ++ [e.born]) clock)] ++ L') (by rw [← Mem.of_upds]; exact hym) ?_
    have hnm' : ∀ q ∈ L', ((∃ q' ∈ L0, q'.1 = q.1) ∨ Oid.under x.p q.1) ∧ ¬ q.1 = b1 ∧ ¬ q.1 = o ∧ ¬ q.1 = .sub 0 1 x.p ∧ ∀ d j, c + 1 + 1 + 1 ≤ d → ¬ Oid.under (.sub d j x.p) q.1 := fun q hq => by
      rcases hU.nam q hq with ⟨q', h1, h2⟩ | h1
      · obtain ⟨a0, a1, a2, a3, a4⟩ := hnm q' h1
        rw [h2] at a0 a1 a2 a3 a4
        exact ⟨a0, a1, a2, a3, fun d j hd => a4 d j (by omega)⟩
      · have hu := Oid.under_sub h1
        refine ⟨.inr hu, fun e => hb1 (e ▸ hu), fun e => ho (e ▸ hu), fun e => ?_, fun d j hd h2 => ?_⟩
        · rw [e] at h1; have := (Oid.apart h1 (Oid.under_refl _)).1; omega
        · have := (Oid.apart h1 h2).1; omega
    have hmap : ((U ++ [e]).map fun e => [AV.str (keyS e)]) = (U.map fun e => [AV.str (keyS e)]) ++ [[.str s]] := by simp [hks]
    have hnL' : ∀ q ∈ L', ∀ q' ∈ ([(b1, .cells [.map o]), (o, .map [.ss] false es clock), (.sub 0 1 x.p, .iter (some o) clock (U.map ME.born ++ [e.born]) clock)] : List (Oid × AObj)), ¬ q.1 = q'.1 := fun q hq => by
      obtain ⟨_, a1, a2, a3, a4⟩ := hnm' q hq
      simp only [fa_cons, fa_nil, Mem.of_cons_at, Mem.of_nil_at, Mem.of_upds, Mem.of_putL, putLs, putL, List.cons_append, List.nil_append, List.append_nil, ↓reduceIte, eq_self, and_true, true_and, and_self, and_false, false_and, reduceCtorEq, Oid.sub.injEq, Nat.reduceEqDiff, a1, a2, a3, not_false_eq_true]
    have hall' := cons_app (L := L') (B := [(b1, .cells [.map o]), (o, .map [.ss] false es clock), (.sub 0 1 x.p, .iter (some o) clock (U.map ME.born ++ [e.born]) clock)]) (fun q hq => by
      have := hym q (List.mem_append_left _ hq)
      revert q
      simp only [fa_cons, fa_nil, Mem.of_cons_at, Mem.of_nil_at, Mem.of_upds, Mem.of_putL, putLs, putL, List.cons_append, List.nil_append, List.append_nil, ↓reduceIte, eq_self, and_true, true_and, and_self, and_false, false_and, reduceCtorEq, Oid.sub.injEq, Nat.reduceEqDiff, hne1, Oid.sub_not_under hb1, Oid.sub_not_under ho, Oid.not_under_sub hb1, Oid.not_under_sub ho, implies_true]) hnL' hcl
    cases b with
    | true =>
      (repeat (first | (refine K_ifT rfl rfl ?_) | (refine K_ifF rfl rfl ?_) | (refine K_ev nmd [] hng (by kernel_rfl) fun hf C S K hC1 hC hS hK => ?_; simp (disch := first | omega | assumption) only [go_sem]; refine hK ?_; clear hK hS hC hC1 K S C hf) | ((first | refine zn ?_ | refine ze ?_ | refine zk ?_); with_reducible (constructor; repeat constructor); try refine zl ?_)))
      rw [← hmap] at hj'
      refine ⟨_, Mem.of ([(b1, .cells [.map o]), (o, .map [.ss] false es clock), (.sub 0 1 x.p, .iter (some o) clock (U.map ME.born ++ [e.born]) clock)] ++ L'), ?_, mem_sub hall', c + 1 + 1 + 1, U ++ [e], L', by rw [hmm]; rfl, by omega, rfl, hnd', hlt', hj', hcl, hnm'⟩
      rw [hlen2] at hle ⊢; omega
    | false =>
      refine K_ifT rfl rfl (K_ret ?_)
      subst hQ
      have hsw := swap_of (L := [(b1, .cells [.map o]), (o, .map [.ss] false es clock)] ++ L0) (L' := [(b1, .cells [.map o]), (o, .map [.ss] false es clock)] ++ L') (m := Mem.of ([(b1, .cells [.map o]), (o, .map [.ss] false es clock), (.sub 0 1 x.p, .iter (some o) clock (U.map ME.born ++ [e.born]) clock)] ++ L')) (sp := Oid.under x.p) (fun q hq => hall' q (by
          rcases List.mem_append.1 hq with hq | hq
          · exact List.mem_append_left _ (by simp only [List.mem_cons, List.not_mem_nil, or_false] at hq ⊢; rcases hq with h | h <;> simp [h])
          · exact List.mem_append_right _ hq)) (fun q hq => by
          rcases List.mem_append.1 hq with hq | hq
          · exact .inl ⟨q, List.mem_append_left _ hq, rfl⟩
          · rcases (hnm' q hq).1 with ⟨q', h1, h2⟩ | h
            · exact .inl ⟨q', List.mem_append_right _ h1, h2⟩
            · exact .inr h)
      exact done_ret _ _ rfl ⟨false, _, L', fun h => (by cases h), hj', hsw.1⟩ hsw.2
  · simp (disch := first | omega | assumption) only [go_sem]
    refine hK ?_; clear hK hS hC hC1 K S C hf
    (try ((first | refine zn ?_ | refine ze ?_ | refine zk ?_); with_reducible (constructor; repeat constructor)); try refine zl ?_)
    subst hQ
    have hfull := seen_perm hw2 hlt hnd fun e he => hall e he (hw1 e he).2
    have hnL : ∀ q ∈ L, ∀ q' ∈ ([(b1, .cells [.map o]), (o, .map [.ss] false es clock), (.sub 0 1 x.p, .iter (some o) clock (U.map ME.born) clock)] : List (Oid × AObj)), ¬ q.1 = q'.1 := fun q hq => by
      obtain ⟨_, a1, a2, a3, a4⟩ := hnm q hq
      simp only [fa_cons, fa_nil, Mem.of_cons_at, Mem.of_nil_at, Mem.of_upds, Mem.of_putL, putLs, putL, List.cons_append, List.nil_append, List.append_nil, ↓reduceIte, eq_self, and_true, true_and, and_self, and_false, false_and, reduceCtorEq, Oid.sub.injEq, Nat.reduceEqDiff, a1, a2, a3, not_false_eq_true]
    have hall' := cons_app (L := L) (B := [(b1, .cells [.map o]), (o, .map [.ss] false es clock), (.sub 0 1 x.p, .iter (some o) clock (U.map ME.born) clock)]) (by
      simp only [fa_cons, fa_nil, Mem.of_cons_at, Mem.of_nil_at, Mem.of_upds, Mem.of_putL, putLs, putL, List.cons_append, List.nil_append, List.append_nil, ↓reduceIte, eq_self, and_true, true_and, and_self, and_false, false_and, reduceCtorEq, Oid.sub.injEq, Nat.reduceEqDiff, hne1, Oid.sub_not_under hb1, Oid.sub_not_under ho, Oid.not_under_sub hb1, Oid.not_under_sub ho]) hnL hcc
    have hsw := swap_of (L := [(b1, .cells [.map o]), (o, .map [.ss] false es clock)] ++ L0) (L' := [(b1, .cells [.map o]), (o, .map [.ss] false es clock)] ++ L) (m := Mem.of ([(b1, .cells [.map o]), (o, .map [.ss] false es clock), (.sub 0 1 x.p, .iter (some o) clock (U.map ME.born) clock)] ++ L)) (sp := Oid.under x.p) (fun q hq => hall' q (by
          rcases List.mem_append.1 hq with hq | hq
          · exact List.mem_append_left _ (by simp only [List.mem_cons, List.not_mem_nil, or_false] at hq ⊢; rcases hq with h | h <;> simp [h])
          · exact List.mem_append_right _ hq)) (fun q hq => by
          rcases List.mem_append.1 hq with hq | hq
          · exact .inl ⟨q, List.mem_append_left _ hq, rfl⟩
          · rcases (hnm q hq).1 with ⟨q', h1, h2⟩ | h
            · exact .inl ⟨q', List.mem_append_right _ h1, h2⟩
            · exact .inr h)
    refine K_ifF rfl rfl ?_
    (try ((first | refine zn ?_ | refine ze ?_ | refine zk ?_); with_reducible (constructor; repeat constructor)); try refine zl ?_)
    refine K_nil ?_
    exact done_normal _ _ rfl ⟨true, _, L, fun _ => ⟨U, hfull, rfl⟩, hj, hsw.1⟩ hsw.2
end Go.Proofs.YtaecbmbecofijaaGreatDoor
namespace Go.Proofs.YtaecbmbecofijaaGreatDoor
open Go Go.Ab
set_option maxRecDepth 20000
set_option maxHeartbeats 4000000
theorem keysT_ok (o : Oid) (p : Oid) (ho : ¬ Oid.under p o) : CallOK Tryz.prog 74 [.map o] (Oid.under p) ⟨[], .fn (.func 121) [] [.ptr (.sub 0 0 p) 0], [(.sub 0 0 p, some (.cells [.map o]))]⟩ := by
  refine fnOK (n := 4) (rs := [.tmp 2]) Tryz.func74 rfl rfl (by decide) rfl rfl rfl ?_; rintro x rfl hrd hng
  (repeat (first | (refine K_ifT rfl rfl ?_) | (refine K_ifF rfl rfl ?_) | (refine K_ev nmd [] hng (by kernel_rfl) fun hf C S K hC1 hC hS hK => ?_; simp (disch := first | omega | assumption) only [go_sem]; refine hK ?_; clear hK hS hC hC1 K S C hf) | ((first | refine zn ?_ | refine ze ?_ | refine zk ?_); with_reducible (constructor; repeat constructor); try refine zl ?_)))
  refine K_ret (done_ret _ _ rfl ⟨rfl, rfl⟩ ?_)
  intro i o' h
  rw [Mem.of_upds] at h
  exact h
theorem paths_ok (st t : Oid) (tv : AV) (es : List ME) (clock : Nat) (hel : es.length ≤ 2000000000000) (hts : ¬ t = st) (p : Oid) (hs : ¬ Oid.under p st) (ht : ¬ Oid.under p t) :
    CallOK Tryz.prog 29 [.ptr st 0] (Oid.under p) ⟨[(st, .cells [.map t, tv]), (t, .map [.ss] false es clock)], .list 1 ((sortS (es.map keyS)).map .str), []⟩ := by
  refine fnOK (n := 9) (rs := [.tmp 2]) Tryz.func29 rfl rfl (by decide) rfl rfl rfl ?_; rintro x rfl hrd hng
  have hu12 : Oid.under (.sub 1 4 x.p) (.sub 0 0 (.sub 1 4 x.p)) := Oid.under_sub (Oid.under_refl _)
  have hapt : ∀ p', Oid.under (.sub 1 5 x.p) p' → ¬ Oid.under p' (.sub 0 0 (.sub 1 4 x.p)) := fun p' h h2 => by
    have := (Oid.apart (Oid.under_trans h h2) hu12).2
    omega
  (try ((first | refine zn ?_ | refine ze ?_ | refine zk ?_); with_reducible (constructor; repeat constructor)); try refine zl ?_)
  (repeat (first | (refine K_ifT rfl rfl ?_) | (refine K_ifF rfl rfl ?_) | (refine K_ev nmd [] hng (by kernel_rfl) fun hf C S K hC1 hC hS hK => ?_; simp (disch := first | omega | assumption) only [go_sem]; refine hK ?_; clear hK hS hC hC1 K S C hf) | ((first | refine zn ?_ | refine ze ?_ | refine zk ?_); with_reducible (constructor; repeat constructor); try refine zl ?_)))
  refine K_ev nmd [] hng (by kernel_rfl) fun hf C S K hC1 hC hS hK => ?_; simp (disch := first | omega | assumption) only [go_sem, Oid.not_under_sub ht, Oid.sub_not_under ht, Oid.not_under_sub hs, Oid.sub_not_under hs, hts]
  refine hC1 _ (keysT_ok t _ (fun h => ht (Oid.under_sub h))) (by simp (disch := first | omega | assumption) only [go_sem]) ?_
  simp (disch := first | omega | assumption) only [go_sem]
  refine hC1 _ (sorted_ok 121 [.ptr (.sub 0 0 (.sub 1 4 x.p)) 0] [(.sub 0 0 (.sub 1 4 x.p), .cells [.map t]), (t, .map [.ss] false es clock)] es.length (es.map keyS) _ hel (by simp) _ ?_ ?_
    (fun p' hp => keysT_seq (.sub 0 0 (.sub 1 4 x.p)) t es clock p' ?_ ?_ ?_) ?_) ?_ ?_
  · intro q hq
    simp only [List.mem_cons, List.not_mem_nil, or_false] at hq
    rcases hq with rfl | rfl
    · exact hapt _ (Oid.under_refl _)
    · exact fun h => ht (Oid.under_sub h)
  · intro q hq
    simp only [List.mem_cons, List.not_mem_nil, or_false] at hq
    rcases hq with rfl | rfl <;> (intro sz xs e; cases e)
  · exact fun e => ht (e ▸ Oid.under_sub hu12)
  · exact hapt _ hp
  · exact fun h => ht (Oid.under_sub (Oid.under_trans hp h))
  · intro l hl
    obtain ⟨U, h1, h2⟩ := hl rfl
    have h3 : l = U.map keyS := str_inj (by rw [h2, List.map_map]; rfl)
    rw [h3]
    exact h1.map _
  · have h0 := Oid.not_under_sub (fun h => ht (Oid.under_sub h) : ¬ Oid.under (.sub 1 4 x.p) t) 0 0
    have h1 := Oid.sub_not_under (fun h => ht (Oid.under_sub h) : ¬ Oid.under (.sub 1 4 x.p) t) 0 0
    have h2 := Oid.not_under_sub (fun h => hs (Oid.under_sub h) : ¬ Oid.under (.sub 1 4 x.p) st) 0 0
    have h3 := Oid.sub_not_under (fun h => hs (Oid.under_sub h) : ¬ Oid.under (.sub 1 4 x.p) st) 0 0
    simp only [fa_cons, fa_nil, Mem.of_cons_at, Mem.of_nil_at, Mem.of_upds, Mem.of_putL, putLs, putL, List.cons_append, List.nil_append, List.append_nil, ↓reduceIte, eq_self, and_true, true_and, and_self, and_false, false_and, reduceCtorEq, Oid.sub.injEq, Nat.reduceEqDiff, of_put_at, h0, h1, h2, h3, Oid.not_under_sub ht, Oid.sub_not_under ht, Oid.not_under_sub hs, Oid.sub_not_under hs, hts]
  · simp (disch := first | omega | assumption) only [go_sem]
    refine hK ?_; clear hK hS hC hC1 K S C hf
    (repeat (first | (refine K_ifT rfl rfl ?_) | (refine K_ifF rfl rfl ?_) | (refine K_ev nmd [] hng (by kernel_rfl) fun hf C S K hC1 hC hS hK => ?_; simp (disch := first | omega | assumption) only [go_sem]; refine hK ?_; clear hK hS hC hC1 K S C hf) | ((first | refine zn ?_ | refine ze ?_ | refine zk ?_); with_reducible (constructor; repeat constructor); try refine zl ?_)))
    have h0 := Oid.not_under_sub (fun h => ht (Oid.under_sub h) : ¬ Oid.under (.sub 1 4 x.p) t) 0 0
    have h1 := Oid.sub_not_under (fun h => ht (Oid.under_sub h) : ¬ Oid.under (.sub 1 4 x.p) t) 0 0
    have h2 := Oid.not_under_sub (fun h => hs (Oid.under_sub h) : ¬ Oid.under (.sub 1 4 x.p) st) 0 0
    have h3 := Oid.sub_not_under (fun h => hs (Oid.under_sub h) : ¬ Oid.under (.sub 1 4 x.p) st) 0 0
    refine K_ret (done_upd rfl ?_ ?_)
    all_goals simp only [List.mem_cons, List.not_mem_nil, or_false, forall_eq_or_imp, forall_eq, Option.some.injEq, forall_eq', Mem.of_cons_at, eq_self, if_true, ↓reduceIte, reduceCtorEq, implies_true, not_true_eq_false, false_imp_iff, true_and, and_true, false_and, and_false, imp_self, of_put_at, h0, h1, h2, h3, Oid.not_under_sub ht, Oid.sub_not_under ht, Oid.not_under_sub hs, Oid.sub_not_under hs, hts]
theorem pathsP_eq {es : List ME} {L : PL} (h : MapP es L) (hs : SortG ltB L) : sortS (es.map keyS) = L.map (·.1) := by
  refine sortS_eq ?_ (List.pairwise_map.2 (hs.imp fun {a b} h => List.le_of_lt (ltS_lt h)))
  obtain ⟨E, rfl, h2, _⟩ := h
  have h3 : (E.map (entG AV.str Bits.av)).map keyS = (E.map prj).map (·.1) := by
    rw [List.map_map, List.map_map]; rfl
  rw [h3]
  exact h2.map _
end Go.Proofs.YtaecbmbecofijaaGreatDoor
namespace Go.Proofs.YtaecbmbecofijaaGreatDoor
open Go Go.Ab
set_option maxRecDepth 20000
set_option maxHeartbeats 4000000
theorem putP_len (n : Str) (b : Bits) (L : PL) : (putP n b L).length ≤ L.length + 1 := by
  unfold putP
  split
  · omega
  · generalize (if b.k = 0 then none else some b) = o
    induction L with
    | nil => cases o <;> simp [insG, tipG]
    | cons q L ih =>
      simp only [insG]
      split
      · simp only [List.length_cons]; omega
      · have : (tipG n o).length ≤ 1 := by cases o <;> simp [tipG]
        simp only [List.length_append, List.length_cons]
        split
        · omega
        · rw [List.length_cons]; omega
theorem putP_mem {n : Str} {b : Bits} {L : PL} {q : Str × Bits} (h : q ∈ putP n b L) : q = (n, b) ∨ q ∈ L := by
  unfold putP at h
  split at h
  · exact .inr h
  · refine (insG_mem h).imp (fun h => ?_) id
    obtain ⟨h1, h2⟩ := tipG_mem h
    split at h2
    · cases h2
    · simp only [Option.some.injEq] at h2
      rw [Prod.ext_iff]; exact ⟨h1, h2.symm⟩
end Go.Proofs.YtaecbmbecofijaaGreatDoor
namespace Go.Proofs.YtaecbmbecofijaaGreatDoor
open Go Go.Ab
set_option maxRecDepth 20000
set_option maxHeartbeats 4000000
abbrev RL := List ((Str × Bool) × Str)
def ltF (a b : Str × Bool) : Prop := ltB a.1 b.1 ∨ (a.1 = b.1 ∧ a.2 = false ∧ b.2 = true)
instance : DecidableRel ltF := fun a b => inferInstanceAs (Decidable (ltB a.1 b.1 ∨ (a.1 = b.1 ∧ a.2 = false ∧ b.2 = true)))
theorem ordF : Ord ltF where
  irr a h := by
    rcases h with h | ⟨_, h1, h2⟩
    · exact ordB.irr _ h
    · rw [h1] at h2; cases h2
  tr a b c h1 h2 := by
    rcases h1 with h1 | ⟨h1, h3, h4⟩ <;> rcases h2 with h2 | ⟨h2, h5, h6⟩
    · exact .inl (ordB.tr _ _ _ h1 h2)
    · exact .inl (h2 ▸ h1)
    · exact .inl (h1 ▸ h2)
    · rw [h4] at h5; cases h5
  tot a b h hn := by
    obtain ⟨a1, a2⟩ := a
    obtain ⟨b1, b2⟩ := b
    by_cases he : a1 = b1
    · subst he
      right
      refine ⟨rfl, ?_, ?_⟩
      · cases b2 with
        | false => rfl
        | true =>
          cases a2 with
          | false => exact absurd (.inr ⟨rfl, rfl, rfl⟩) h
          | true => exact absurd rfl hn
      · cases a2 with
        | true => rfl
        | false =>
          cases b2 with
          | false => exact absurd rfl hn
          | true => exact absurd (.inr ⟨rfl, rfl, rfl⟩) h
    · exact .inl (ordB.tot a1 b1 (fun h' => h (.inl h')) he)
def keyF (q : Str × Bool) : AV := .agg [.str q.1, .bool q.2]
theorem encF : EncOK keyF := fun a b => by
  obtain ⟨a1, a2⟩ := a
  obtain ⟨b1, b2⟩ := b
  by_cases h1 : a1 = b1 <;> by_cases h2 : a2 = b2 <;> simp [sameK, keyF, AV.cells, eqCells, eqS, h1, h2]
def tchAV (q : (Str × Bool) × Str) : AV := .agg [.str q.1.1, .bool q.1.2, .str q.2]
/-- What a facet of a tree is. -/
def valP (L : PL) (f : Str × Bool) : Str := if f.2 = true then encT (namesP L f.1) else valT (getP L f.1)
/-- What is noted behind a read. -/
def readR (old : PL) (W : WL) (f : Str × Bool) (R : RL) : RL := if f.2 = false ∧ (lookG f.1 W).isSome = true then R else if (lookG f R).isSome = true then R else insG ltF f (some (valP old f)) R
theorem getP_ok {L : PL} (h : POk L) (n : Str) : (getP L n).ok := by
  unfold getP
  split
  · exact ⟨⟨by decide, by decide⟩, ⟨by decide, by decide⟩, by decide⟩
  · cases h2 : lookG n L with
    | none => exact ⟨⟨by decide, by decide⟩, ⟨by decide, by decide⟩, by decide⟩
    | some b =>
      have : ∀ {L : PL}, lookG n L = some b → ∃ q ∈ L, q.2 = b := by
        intro L
        induction L with
        | nil => intro h; cases h
        | cons q L ih =>
          intro h
          simp only [lookG] at h
          split at h
          · exact ⟨q, List.mem_cons_self, Option.some.inj h⟩
          · obtain ⟨q', h3, h4⟩ := ih h; exact ⟨q', List.mem_cons_of_mem _ h3, h4⟩
      obtain ⟨q, h3, h4⟩ := this h2
      rw [Option.getD_some, ← h4]
      exact h.val q h3
/-- Nothing less than nought. -/
def PNat (L : PL) : Prop := ∀ q ∈ L, 0 ≤ q.2.k ∧ 0 ≤ q.2.m
theorem getP_nat {L : PL} (h : PNat L) (n : Str) : 0 ≤ (getP L n).k ∧ 0 ≤ (getP L n).m := by
  unfold getP
  split
  · exact ⟨by decide, by decide⟩
  · cases h2 : lookG n L with
    | none => exact ⟨by decide, by decide⟩
    | some b =>
      have : ∀ {L : PL}, lookG n L = some b → ∃ q ∈ L, q.2 = b := by
        intro L
        induction L with
        | nil => intro h; cases h
        | cons q L ih =>
          intro h
          simp only [lookG] at h
          split at h
          · exact ⟨q, List.mem_cons_self, Option.some.inj h⟩
          · obtain ⟨q', h3, h4⟩ := ih h; exact ⟨q', List.mem_cons_of_mem _ h3, h4⟩
      obtain ⟨q, h3, h4⟩ := this h2
      rw [Option.getD_some, ← h4]
      exact h q h3
end Go.Proofs.YtaecbmbecofijaaGreatDoor
namespace Go.Proofs.YtaecbmbecofijaaGreatDoor
open Go Go.Ab
set_option maxRecDepth 20000
set_option maxHeartbeats 4000000
theorem valueT_ok (o : Oid) (eso : List ME) (co : Nat) (old : PL) (hm : MapP eso old) (hs : SortG ltB old) (ho : POk old) (n : Str) (hn : n.length ≤ 140737488355000) (f : Bool) (p : Oid) (hp : p.mono = false) (u1 : ¬ Oid.under p o) :
    CallOK Tryz.prog 73 [.map o, keyF (n, f)] (Oid.under p) ⟨[(o, .map [.ss] false eso co)], .str (valP old (n, f)), []⟩ := by
  have u1' : ∀ c i, ¬ Oid.under (.sub c i p) o := fun c i h => u1 (Oid.under_sub h)
  have hkl := fun e he => Nat.le_trans (mapP_key hm ho e he) (show 1000000 ≤ 140737488355328 by decide)
  have hol := ho.len
  have hel : eso.length ≤ 2000000000000 := by rw [mapP_len hm]; omega
  have hnm := fun p h => names_ok o n hn eso co hkl hel p h
  rw [namesE_eq hm hs] at hnm
  obtain ⟨l1, l2⟩ := namesP_enc ho n
  have hen := fun p hp => encode_ok (namesP old n) (by omega) (by omega) p hp
  have hat := fun p h => at_ok o o eso co p h h n ((lookG n old).getD Bits.no) (mapP_val hm n)
  have hgp : (if n = [] then (⟨2, 7, []⟩ : Bits) else (lookG n old).getD Bits.no) = getP old n := rfl
  rw [hgp] at hat
  have hv := fun p hp => value_ok (getP old n) (getP_ok ho n) p hp
  simp only [keyF]
  refine fnOK (n := 17) (rs := [.tmp 4]) Tryz.func73 rfl rfl (by decide) rfl rfl rfl ?_; rintro x rfl hrd hng
  (try ((first | refine zn ?_ | refine ze ?_ | refine zk ?_); with_reducible (constructor; repeat constructor)); try refine zl ?_)
  refine K_ev nmd [] hng (by kernel_rfl) fun hf C S K hC1 hC hS hK => ?_; simp (disch := first | omega | assumption) only [go_sem, Oid.not_under_sub u1, Oid.sub_not_under u1]
  refine hK ?_; clear hK hS hC hC1 K S C hf
  cases f with
  | true =>
    rw [show valP old (n, true) = encT (namesP old n) from if_pos rfl]
    generalize namesP old n = A at *
    (repeat (first | (refine K_ifT rfl rfl ?_) | (refine K_ifF rfl rfl ?_) | (refine K_ev nmd [] hng (by kernel_rfl) fun hf C S K hC1 hC hS hK => ?_; simp (disch := first | omega | assumption) only [go_sem, Oid.not_under_sub u1, Oid.sub_not_under u1]; (repeat ((first | refine hC1 _ (hnm _ (u1' _ _)) (by simp (disch := first | omega | assumption) only [go_sem]) ?_ | refine hC1 _ (hen _ (mono_sub' rfl hp)) (by simp (disch := first | omega | assumption) only [go_sem]) ?_); simp (disch := first | omega | assumption) only [go_sem])); refine hK ?_; clear hK hS hC hC1 K S C hf) | ((first | refine zn ?_ | refine ze ?_ | refine zk ?_); with_reducible (constructor; repeat constructor); try refine zl ?_)))
    refine K_ret (done_upd rfl ?_ ?_)
    all_goals simp only [List.mem_cons, List.not_mem_nil, or_false, forall_eq_or_imp, forall_eq, Option.some.injEq, forall_eq', Mem.of_cons_at, eq_self, if_true, ↓reduceIte, reduceCtorEq, implies_true, not_true_eq_false, false_imp_iff, true_and, and_true, false_and, and_false, imp_self, Oid.not_under_sub u1, Oid.sub_not_under u1]
  | false =>
    rw [show valP old (n, false) = valT (getP old n) from if_neg Bool.false_ne_true]
    generalize getP old n = B at *
    simp only [Bits.av] at hat hv
    (repeat (first | (refine K_ifT rfl rfl ?_) | (refine K_ifF rfl rfl ?_) | (refine K_ev nmd [] hng (by kernel_rfl) fun hf C S K hC1 hC hS hK => ?_; simp (disch := first | omega | assumption) only [go_sem, Oid.not_under_sub u1, Oid.sub_not_under u1]; (repeat ((first | refine hC1 _ (hat _ (u1' _ _)) (by simp (disch := first | omega | assumption) only [go_sem]) ?_ | refine hC1 _ (hv _ (mono_sub' rfl hp)) (by simp (disch := first | omega | assumption) only [go_sem]) ?_); simp (disch := first | omega | assumption) only [go_sem])); refine hK ?_; clear hK hS hC hC1 K S C hf) | ((first | refine zn ?_ | refine ze ?_ | refine zk ?_); with_reducible (constructor; repeat constructor); try refine zl ?_)))
    refine K_ret (done_upd rfl ?_ ?_)
    all_goals simp only [List.mem_cons, List.not_mem_nil, or_false, forall_eq_or_imp, forall_eq, Option.some.injEq, forall_eq', Mem.of_cons_at, eq_self, if_true, ↓reduceIte, reduceCtorEq, implies_true, not_true_eq_false, false_imp_iff, true_and, and_true, false_and, and_false, imp_self, Oid.not_under_sub u1, Oid.sub_not_under u1]
def readE (f w h : Bool) (k v : AV) (es : List ME) (c : Nat) : List ME × Nat := if ((!f && w) || h) = true then (es, c) else (setE k v c es, c + 1)
section
variable (st t tr o rd wr : Oid) (hn : [wr, rd, o, tr, t, st].Nodup) (es eso esr esw : List ME) (clock co cr cw : Nat)
include hn
theorem readT_ok (old : PL) (hm : MapP eso old) (hs : SortG ltB old) (ho : POk old) (n : Str) (hnl : n.length ≤ 140737488355000) (f w h : Bool) (hw : valE (.str n) (.bool false) esw = .bool w) (hh : hasE (keyF (n, f)) esr = h) (p : Oid) (hp : p.mono = false) (hu : ∀ i ∈ [st, t, tr, o, rd, wr], ¬ Oid.under p i) :
    CallOK Tryz.prog 64 [.ptr st 0, keyF (n, f)] (Oid.under p) ⟨[(st, .cells [.map t, .ptr tr 0]), (t, .map [.ss] false es clock), (tr, .cells [.map o, .map rd, .map wr]), (o, .map [.ss] false eso co), (rd, .map [.ss, .sb] true esr cr), (wr, .map [.ss] false esw cw)], .tuple [], [(rd, some (.map [.ss, .sb] true (readE f w h (keyF (n, f)) (.str (valP old (n, f))) esr cr).1 (readE f w h (keyF (n, f)) (.str (valP old (n, f))) esr cr).2))]⟩ := by
  simp only [List.nodup_cons, List.mem_cons, List.not_mem_nil, or_false, not_or, not_false_eq_true, List.nodup_nil, and_true] at hn; simp only [List.mem_cons, List.not_mem_nil, or_false, forall_eq_or_imp, forall_eq] at hu; have hd := hn; obtain ⟨u1, u2, u3, u4, u5, u6⟩ := hu
  have u4' : ∀ c i, ¬ Oid.under (.sub c i p) o := fun c i h => u4 (Oid.under_sub h)
  have hval := fun p hp h => valueT_ok o eso co old hm hs ho n hnl f p hp h
  generalize valP old (n, f) = V at *
  simp only [keyF] at hval hh ⊢
  refine fnOK (n := 59) (rs := []) Tryz.func64 rfl rfl (by decide) rfl rfl rfl ?_; rintro x rfl hrd hng
  cases f with
  | false =>
    cases w with
    | true =>
      (try ((first | refine zn ?_ | refine ze ?_ | refine zk ?_); with_reducible (constructor; repeat constructor)); try refine zl ?_)
      refine K_ev nmd [] hng (by kernel_rfl) fun hf C S K hC1 hC hS hK => ?_; simp (disch := first | omega | assumption) only [go_sem, hd, Oid.not_under_sub u1, Oid.sub_not_under u1, Oid.not_under_sub u2, Oid.sub_not_under u2, Oid.not_under_sub u3, Oid.sub_not_under u3, Oid.not_under_sub u4, Oid.sub_not_under u4, Oid.not_under_sub u5, Oid.sub_not_under u5, Oid.not_under_sub u6, Oid.sub_not_under u6]
      refine hK ?_; clear hK hS hC hC1 K S C hf
      (try ((first | refine zn ?_ | refine ze ?_ | refine zk ?_); with_reducible (constructor; repeat constructor)); try refine zl ?_)
      refine K_evd nmd [(5, 11), (9, 15)] [] mixed hng (by kernel_rfl) [0, 3, 27] fun hf C S K hC hS hK => ?_; simp (disch := first | omega | assumption) only [go_sem, hw, hd, Oid.not_under_sub u1, Oid.sub_not_under u1, Oid.not_under_sub u2, Oid.sub_not_under u2, Oid.not_under_sub u3, Oid.sub_not_under u3, Oid.not_under_sub u4, Oid.sub_not_under u4, Oid.not_under_sub u5, Oid.sub_not_under u5, Oid.not_under_sub u6, Oid.sub_not_under u6]
      (first | refine hK (dynN_quiet rfl) ?_ | refine hK (by simp (disch := first | omega | assumption) only [go_sem, List.reverse_cons, List.reverse_nil, ne_eq, not_false_eq_true, implies_true]) ?_); clear hK hS hC K S C hf
      (repeat (first | (refine K_ifT rfl rfl ?_) | (refine K_ifF rfl rfl ?_) | (refine K_ev nmd [] hng (by kernel_rfl) fun hf C S K hC1 hC hS hK => ?_; simp (disch := first | omega | assumption) only [go_sem]; refine hK ?_; clear hK hS hC hC1 K S C hf) | ((first | refine zn ?_ | refine ze ?_ | refine zk ?_); with_reducible (constructor; repeat constructor); try refine zl ?_)))
      refine K_ret (done_upd rfl ?_ ?_)
      all_goals simp only [List.mem_cons, List.not_mem_nil, or_false, forall_eq_or_imp, forall_eq, Option.some.injEq, forall_eq', Mem.of_cons_at, eq_self, if_true, ↓reduceIte, reduceCtorEq, implies_true, not_true_eq_false, false_imp_iff, true_and, and_true, false_and, and_false, imp_self, hd, Oid.not_under_sub u1, Oid.sub_not_under u1, Oid.not_under_sub u2, Oid.sub_not_under u2, Oid.not_under_sub u3, Oid.sub_not_under u3, Oid.not_under_sub u4, Oid.sub_not_under u4, Oid.not_under_sub u5, Oid.sub_not_under u5, Oid.not_under_sub u6, Oid.sub_not_under u6, readE, Bool.not_false, Bool.true_and, Bool.true_or]
    | false =>
      (try ((first | refine zn ?_ | refine ze ?_ | refine zk ?_); with_reducible (constructor; repeat constructor)); try refine zl ?_)
      refine K_ev nmd [] hng (by kernel_rfl) fun hf C S K hC1 hC hS hK => ?_; simp (disch := first | omega | assumption) only [go_sem, hd, Oid.not_under_sub u1, Oid.sub_not_under u1, Oid.not_under_sub u2, Oid.sub_not_under u2, Oid.not_under_sub u3, Oid.sub_not_under u3, Oid.not_under_sub u4, Oid.sub_not_under u4, Oid.not_under_sub u5, Oid.sub_not_under u5, Oid.not_under_sub u6, Oid.sub_not_under u6]
      refine hK ?_; clear hK hS hC hC1 K S C hf
      (try ((first | refine zn ?_ | refine ze ?_ | refine zk ?_); with_reducible (constructor; repeat constructor)); try refine zl ?_)
      refine K_evd nmd [(5, 11), (9, 15)] [] mixed hng (by kernel_rfl) [0, 3, 27] fun hf C S K hC hS hK => ?_; simp (disch := first | omega | assumption) only [go_sem, hw, hd, Oid.not_under_sub u1, Oid.sub_not_under u1, Oid.not_under_sub u2, Oid.sub_not_under u2, Oid.not_under_sub u3, Oid.sub_not_under u3, Oid.not_under_sub u4, Oid.sub_not_under u4, Oid.not_under_sub u5, Oid.sub_not_under u5, Oid.not_under_sub u6, Oid.sub_not_under u6]
      (first | refine hK (dynN_quiet rfl) ?_ | refine hK (by simp (disch := first | omega | assumption) only [go_sem, List.reverse_cons, List.reverse_nil, ne_eq, not_false_eq_true, implies_true]) ?_); clear hK hS hC K S C hf
      (repeat (first | (refine K_ifT rfl rfl ?_) | (refine K_ifF rfl rfl ?_) | (refine K_ev nmd [] hng (by kernel_rfl) fun hf C S K hC1 hC hS hK => ?_; simp (disch := first | omega | assumption) only [go_sem]; refine hK ?_; clear hK hS hC hC1 K S C hf) | ((first | refine zn ?_ | refine ze ?_ | refine zk ?_); with_reducible (constructor; repeat constructor); try refine zl ?_)))
      (try ((first | refine zn ?_ | refine ze ?_ | refine zk ?_); with_reducible (constructor; repeat constructor)); try refine zl ?_)
      cases h with
      | true =>
        refine K_evd nmd [] [] mixed hng (by kernel_rfl) [0, 3, 5] fun hf C S K hC hS hK => ?_; simp (disch := first | omega | assumption) only [go_sem, hh, resOk, hd, Oid.not_under_sub u1, Oid.sub_not_under u1, Oid.not_under_sub u2, Oid.sub_not_under u2, Oid.not_under_sub u3, Oid.sub_not_under u3, Oid.not_under_sub u4, Oid.sub_not_under u4, Oid.not_under_sub u5, Oid.sub_not_under u5, Oid.not_under_sub u6, Oid.sub_not_under u6]
        (first | refine hK (dynN_quiet rfl) ?_ | refine hK (by simp (disch := first | omega | assumption) only [go_sem, List.reverse_cons, List.reverse_nil, ne_eq, not_false_eq_true, implies_true]) ?_); clear hK hS hC K S C hf
        (repeat (first | (refine K_ifT rfl rfl ?_) | (refine K_ifF rfl rfl ?_) | (refine K_ev nmd [] hng (by kernel_rfl) fun hf C S K hC1 hC hS hK => ?_; simp (disch := first | omega | assumption) only [go_sem]; refine hK ?_; clear hK hS hC hC1 K S C hf) | ((first | refine zn ?_ | refine ze ?_ | refine zk ?_); with_reducible (constructor; repeat constructor); try refine zl ?_)))
        refine K_nil (done_updN rfl ?_ ?_)
        all_goals simp only [List.mem_cons, List.not_mem_nil, or_false, forall_eq_or_imp, forall_eq, Option.some.injEq, forall_eq', Mem.of_cons_at, eq_self, if_true, ↓reduceIte, reduceCtorEq, implies_true, not_true_eq_false, false_imp_iff, true_and, and_true, false_and, and_false, imp_self, hd, Oid.not_under_sub u1, Oid.sub_not_under u1, Oid.not_under_sub u2, Oid.sub_not_under u2, Oid.not_under_sub u3, Oid.sub_not_under u3, Oid.not_under_sub u4, Oid.sub_not_under u4, Oid.not_under_sub u5, Oid.sub_not_under u5, Oid.not_under_sub u6, Oid.sub_not_under u6, readE, Bool.not_false, Bool.true_and, Bool.true_or, Bool.or_true]
      | false =>
        refine K_evd nmd [] [] mixed hng (by kernel_rfl) [0, 3, 5] fun hf C S K hC hS hK => ?_; simp (disch := first | omega | assumption) only [go_sem, hh, resOk, hd, Oid.not_under_sub u1, Oid.sub_not_under u1, Oid.not_under_sub u2, Oid.sub_not_under u2, Oid.not_under_sub u3, Oid.sub_not_under u3, Oid.not_under_sub u4, Oid.sub_not_under u4, Oid.not_under_sub u5, Oid.sub_not_under u5, Oid.not_under_sub u6, Oid.sub_not_under u6]
        (first | refine hK (dynN_quiet rfl) ?_ | refine hK (by simp (disch := first | omega | assumption) only [go_sem, List.reverse_cons, List.reverse_nil, ne_eq, not_false_eq_true, implies_true]) ?_); clear hK hS hC K S C hf
        (repeat (first | (refine K_ifT rfl rfl ?_) | (refine K_ifF rfl rfl ?_) | (refine K_ev nmd [] hng (by kernel_rfl) fun hf C S K hC1 hC hS hK => ?_; simp (disch := first | omega | assumption) only [go_sem]; refine hK ?_; clear hK hS hC hC1 K S C hf) | ((first | refine zn ?_ | refine ze ?_ | refine zk ?_); with_reducible (constructor; repeat constructor); try refine zl ?_)))
        refine K_evd nmd [] [(3, 16), (6, 16), (7, 16)] mixed hng (by kernel_rfl) [0] fun hf C S K hC hS hK => ?_; simp (disch := first | omega | assumption) only [go_sem, hh, hd, Oid.not_under_sub u1, Oid.sub_not_under u1, Oid.not_under_sub u2, Oid.sub_not_under u2, Oid.not_under_sub u3, Oid.sub_not_under u3, Oid.not_under_sub u4, Oid.sub_not_under u4, Oid.not_under_sub u5, Oid.sub_not_under u5, Oid.not_under_sub u6, Oid.sub_not_under u6]
        refine hC _ (hval _ (mono_sub' rfl hp) (u4' _ _)) (by simp (disch := first | omega | assumption) only [go_sem, hd, Oid.not_under_sub u1, Oid.sub_not_under u1, Oid.not_under_sub u2, Oid.sub_not_under u2, Oid.not_under_sub u3, Oid.sub_not_under u3, Oid.not_under_sub u4, Oid.sub_not_under u4, Oid.not_under_sub u5, Oid.sub_not_under u5, Oid.not_under_sub u6, Oid.sub_not_under u6]) ?_
        simp (disch := first | omega | assumption) only [go_sem, hh, hd, Oid.not_under_sub u1, Oid.sub_not_under u1, Oid.not_under_sub u2, Oid.sub_not_under u2, Oid.not_under_sub u3, Oid.sub_not_under u3, Oid.not_under_sub u4, Oid.sub_not_under u4, Oid.not_under_sub u5, Oid.sub_not_under u5, Oid.not_under_sub u6, Oid.sub_not_under u6]
        (first | refine hK (dynN_quiet rfl) ?_ | refine hK (by simp (disch := first | omega | assumption) only [go_sem, List.reverse_cons, List.reverse_nil, ne_eq, not_false_eq_true, implies_true]) ?_); clear hK hS hC K S C hf
        refine K_nil (done_updN rfl ?_ ?_)
        all_goals simp only [List.mem_cons, List.not_mem_nil, or_false, forall_eq_or_imp, forall_eq, Option.some.injEq, forall_eq', Mem.of_cons_at, eq_self, if_true, ↓reduceIte, reduceCtorEq, implies_true, not_true_eq_false, false_imp_iff, true_and, and_true, false_and, and_false, imp_self, hd, Oid.not_under_sub u1, Oid.sub_not_under u1, Oid.not_under_sub u2, Oid.sub_not_under u2, Oid.not_under_sub u3, Oid.sub_not_under u3, Oid.not_under_sub u4, Oid.sub_not_under u4, Oid.not_under_sub u5, Oid.sub_not_under u5, Oid.not_under_sub u6, Oid.sub_not_under u6, readE, hh, Bool.not_false, Bool.not_true, Bool.true_and, Bool.false_and, Bool.or_false, Bool.false_eq_true]
  | true =>
    (try ((first | refine zn ?_ | refine ze ?_ | refine zk ?_); with_reducible (constructor; repeat constructor)); try refine zl ?_)
    refine K_ev nmd [] hng (by kernel_rfl) fun hf C S K hC1 hC hS hK => ?_; simp (disch := first | omega | assumption) only [go_sem, hd, Oid.not_under_sub u1, Oid.sub_not_under u1, Oid.not_under_sub u2, Oid.sub_not_under u2, Oid.not_under_sub u3, Oid.sub_not_under u3, Oid.not_under_sub u4, Oid.sub_not_under u4, Oid.not_under_sub u5, Oid.sub_not_under u5, Oid.not_under_sub u6, Oid.sub_not_under u6]
    refine hK ?_; clear hK hS hC hC1 K S C hf
    (try ((first | refine zn ?_ | refine ze ?_ | refine zk ?_); with_reducible (constructor; repeat constructor)); try refine zl ?_)
    refine K_evd nmd [(5, 11), (9, 15)] [] mixed hng (by kernel_rfl) [0, 3, 27] fun hf C S K hC hS hK => ?_; simp (disch := first | omega | assumption) only [go_sem, hd, Oid.not_under_sub u1, Oid.sub_not_under u1, Oid.not_under_sub u2, Oid.sub_not_under u2, Oid.not_under_sub u3, Oid.sub_not_under u3, Oid.not_under_sub u4, Oid.sub_not_under u4, Oid.not_under_sub u5, Oid.sub_not_under u5, Oid.not_under_sub u6, Oid.sub_not_under u6]
    (first | refine hK (dynN_quiet rfl) ?_ | refine hK (by simp (disch := first | omega | assumption) only [go_sem, List.reverse_cons, List.reverse_nil, ne_eq, not_false_eq_true, implies_true]) ?_); clear hK hS hC K S C hf
    (repeat (first | (refine K_ifT rfl rfl ?_) | (refine K_ifF rfl rfl ?_) | (refine K_ev nmd [] hng (by kernel_rfl) fun hf C S K hC1 hC hS hK => ?_; simp (disch := first | omega | assumption) only [go_sem]; refine hK ?_; clear hK hS hC hC1 K S C hf) | ((first | refine zn ?_ | refine ze ?_ | refine zk ?_); with_reducible (constructor; repeat constructor); try refine zl ?_)))
    (try ((first | refine zn ?_ | refine ze ?_ | refine zk ?_); with_reducible (constructor; repeat constructor)); try refine zl ?_)
    cases h with
    | true =>
      refine K_evd nmd [] [] mixed hng (by kernel_rfl) [0, 3, 5] fun hf C S K hC hS hK => ?_; simp (disch := first | omega | assumption) only [go_sem, hh, resOk, hd, Oid.not_under_sub u1, Oid.sub_not_under u1, Oid.not_under_sub u2, Oid.sub_not_under u2, Oid.not_under_sub u3, Oid.sub_not_under u3, Oid.not_under_sub u4, Oid.sub_not_under u4, Oid.not_under_sub u5, Oid.sub_not_under u5, Oid.not_under_sub u6, Oid.sub_not_under u6]
      (first | refine hK (dynN_quiet rfl) ?_ | refine hK (by simp (disch := first | omega | assumption) only [go_sem, List.reverse_cons, List.reverse_nil, ne_eq, not_false_eq_true, implies_true]) ?_); clear hK hS hC K S C hf
      (repeat (first | (refine K_ifT rfl rfl ?_) | (refine K_ifF rfl rfl ?_) | (refine K_ev nmd [] hng (by kernel_rfl) fun hf C S K hC1 hC hS hK => ?_; simp (disch := first | omega | assumption) only [go_sem]; refine hK ?_; clear hK hS hC hC1 K S C hf) | ((first | refine zn ?_ | refine ze ?_ | refine zk ?_); with_reducible (constructor; repeat constructor); try refine zl ?_)))
      refine K_nil (done_updN rfl ?_ ?_)
      all_goals simp only [List.mem_cons, List.not_mem_nil, or_false, forall_eq_or_imp, forall_eq, Option.some.injEq, forall_eq', Mem.of_cons_at, eq_self, if_true, ↓reduceIte, reduceCtorEq, implies_true, not_true_eq_false, false_imp_iff, true_and, and_true, false_and, and_false, imp_self, hd, Oid.not_under_sub u1, Oid.sub_not_under u1, Oid.not_under_sub u2, Oid.sub_not_under u2, Oid.not_under_sub u3, Oid.sub_not_under u3, Oid.not_under_sub u4, Oid.sub_not_under u4, Oid.not_under_sub u5, Oid.sub_not_under u5, Oid.not_under_sub u6, Oid.sub_not_under u6, readE, Bool.not_false, Bool.true_and, Bool.true_or, Bool.or_true]
    | false =>
      refine K_evd nmd [] [] mixed hng (by kernel_rfl) [0, 3, 5] fun hf C S K hC hS hK => ?_; simp (disch := first | omega | assumption) only [go_sem, hh, resOk, hd, Oid.not_under_sub u1, Oid.sub_not_under u1, Oid.not_under_sub u2, Oid.sub_not_under u2, Oid.not_under_sub u3, Oid.sub_not_under u3, Oid.not_under_sub u4, Oid.sub_not_under u4, Oid.not_under_sub u5, Oid.sub_not_under u5, Oid.not_under_sub u6, Oid.sub_not_under u6]
      (first | refine hK (dynN_quiet rfl) ?_ | refine hK (by simp (disch := first | omega | assumption) only [go_sem, List.reverse_cons, List.reverse_nil, ne_eq, not_false_eq_true, implies_true]) ?_); clear hK hS hC K S C hf
      (repeat (first | (refine K_ifT rfl rfl ?_) | (refine K_ifF rfl rfl ?_) | (refine K_ev nmd [] hng (by kernel_rfl) fun hf C S K hC1 hC hS hK => ?_; simp (disch := first | omega | assumption) only [go_sem]; refine hK ?_; clear hK hS hC hC1 K S C hf) | ((first | refine zn ?_ | refine ze ?_ | refine zk ?_); with_reducible (constructor; repeat constructor); try refine zl ?_)))
      refine K_evd nmd [] [(3, 16), (6, 16), (7, 16)] mixed hng (by kernel_rfl) [0] fun hf C S K hC hS hK => ?_; simp (disch := first | omega | assumption) only [go_sem, hh, hd, Oid.not_under_sub u1, Oid.sub_not_under u1, Oid.not_under_sub u2, Oid.sub_not_under u2, Oid.not_under_sub u3, Oid.sub_not_under u3, Oid.not_under_sub u4, Oid.sub_not_under u4, Oid.not_under_sub u5, Oid.sub_not_under u5, Oid.not_under_sub u6, Oid.sub_not_under u6]
      refine hC _ (hval _ (mono_sub' rfl hp) (u4' _ _)) (by simp (disch := first | omega | assumption) only [go_sem, hd, Oid.not_under_sub u1, Oid.sub_not_under u1, Oid.not_under_sub u2, Oid.sub_not_under u2, Oid.not_under_sub u3, Oid.sub_not_under u3, Oid.not_under_sub u4, Oid.sub_not_under u4, Oid.not_under_sub u5, Oid.sub_not_under u5, Oid.not_under_sub u6, Oid.sub_not_under u6]) ?_
      simp (disch := first | omega | assumption) only [go_sem, hh, hd, Oid.not_under_sub u1, Oid.sub_not_under u1, Oid.not_under_sub u2, Oid.sub_not_under u2, Oid.not_under_sub u3, Oid.sub_not_under u3, Oid.not_under_sub u4, Oid.sub_not_under u4, Oid.not_under_sub u5, Oid.sub_not_under u5, Oid.not_under_sub u6, Oid.sub_not_under u6]
      (first | refine hK (dynN_quiet rfl) ?_ | refine hK (by simp (disch := first | omega | assumption) only [go_sem, List.reverse_cons, List.reverse_nil, ne_eq, not_false_eq_true, implies_true]) ?_); clear hK hS hC K S C hf
      refine K_nil (done_updN rfl ?_ ?_)
      all_goals simp only [List.mem_cons, List.not_mem_nil, or_false, forall_eq_or_imp, forall_eq, Option.some.injEq, forall_eq', Mem.of_cons_at, eq_self, if_true, ↓reduceIte, reduceCtorEq, implies_true, not_true_eq_false, false_imp_iff, true_and, and_true, false_and, and_false, imp_self, hd, Oid.not_under_sub u1, Oid.sub_not_under u1, Oid.not_under_sub u2, Oid.sub_not_under u2, Oid.not_under_sub u3, Oid.sub_not_under u3, Oid.not_under_sub u4, Oid.sub_not_under u4, Oid.not_under_sub u5, Oid.sub_not_under u5, Oid.not_under_sub u6, Oid.sub_not_under u6, readE, hh, Bool.not_false, Bool.not_true, Bool.true_and, Bool.false_and, Bool.or_false, Bool.false_eq_true]
end
end Go.Proofs.YtaecbmbecofijaaGreatDoor
namespace Go.Proofs.YtaecbmbecofijaaGreatDoor
open Go Go.Ab
set_option maxRecDepth 100000
set_option maxHeartbeats 2000000
theorem clone_w (b : Nat) (es : Array MapEntry) (clock : Nat) (w : World) (hb : w.heap[b]? = some (.map es clock)) :
    Calls Tryz.prog 62 #[.map (some b)] w fun e w' => e = .returned (.map (some w.heap.size)) ∧ w' = w.alloc (.map es clock) := by
  have hq := fun w => run_eql_map_nil_sl (P := Tryz.prog) w 91 _ _ (some b) Tryz.underlying91
  go_enter Tryz.func62, Tryz.ntmps62
  go_wp2
  rw [run_callFunc_extern Tryz.func109 (by kernel_rfl) (by kernel_rfl) (by kernel_rfl) (e := Extern.MapsClone.clone) (by kernel_rfl), run_maps_clone_sl w 91 hb]
  simp only [Result.andThen]
  rw [Oper.upon_value]
  go_wp2
  rw [run_typeAssert_map_sl _ 91 20 _ _ _ Tryz.underlying91]
  simp only [Result.andThen]
  rw [Oper.upon_value]
  go_wp2
  go_ret
  exact ⟨rfl, rfl⟩
theorem clone_ok (o : Oid) (ks : List TyS) (ag : Bool) (es : List ME) (clock : Nat) (p : Oid) : CallOK Tryz.prog 62 [.map o] (Oid.under p) ⟨[(o, .map ks ag es clock)], .map (.sub 0 0 p), [(.sub 0 0 p, some (.map ks ag es clock))]⟩ :=
  ⟨by kernel_rfl, fun x g args w m hm hn ha hs hx => by
    obtain ⟨v, rfl, hv⟩ := ha.one
    obtain ⟨b, rfl, hb⟩ := hv.map_inv
    have hmi := hn (o, .map ks ag es clock) (by simp)
    obtain ⟨b', h1, _, _, h4⟩ := hm.obj o _ hmi
    rw [hb] at h1; simp only [Option.some.injEq] at h1; subst h1
    obtain ⟨⟨ents, k1, k2⟩, k3⟩ := h4
    refine (clone_w b ents clock w k1).mono ?_
    rintro e w' ⟨rfl, rfl⟩
    obtain ⟨hl, hu⟩ := hs (.sub 0 0 p) (Oid.under_sub (Oid.under_refl _))
    have hle := Gh.le_bind (b := w.heap.size) hl
    have hnew := hm.new (i := .sub 0 0 p) hl hu (o := .map ks ag es clock) (ob := .map ents clock) ⟨⟨ents, heap_new _ _, k2.mono hle⟩, k3⟩ (fun t9 h9 => by cases h9)
    refine ⟨g.bind (.sub 0 0 p) w.heap.size, _, rfl, hle, fun i hi => ?_, .map _ _ ?_, hnew⟩
    · simp only [Gh.bind]
      rw [if_neg]
      rintro rfl
      exact hi (Oid.under_sub (Oid.under_refl _))
    · simp [Gh.bind]⟩
theorem begin_ok (st t : Oid) (tv : AV) (es : List ME) (clock : Nat) (hts : ¬ t = st) (p : Oid) (hs : ¬ Oid.under p st) (ht : ¬ Oid.under p t) :
    CallOK Tryz.prog 23 [.ptr st 0] (Oid.under p) ⟨[(st, .cells [.map t, tv]), (t, .map [.ss] false es clock)], .tuple [], [(st, some (.cells [.map t, .ptr (.sub 0 9 p) 0])), (.sub 0 9 p, some (.cells [.map (.sub 0 0 (.sub 0 5 p)), .map (.sub 0 6 p), .map (.sub 0 7 p)])), (.sub 0 0 (.sub 0 5 p), some (.map [.ss] false es clock)), (.sub 0 6 p, some (.map [.ss, .sb] true [] 0)), (.sub 0 7 p, some (.map [.ss] false [] 0))]⟩ := by
  have hs5 : ¬ Oid.under (.sub 0 5 p) st := fun h => hs (Oid.under_sub h)
  have ht5 : ¬ Oid.under (.sub 0 5 p) t := fun h => ht (Oid.under_sub h)
  refine fnOK (n := 14) (rs := []) Tryz.func23 rfl rfl (by decide) rfl rfl rfl ?_; rintro x rfl hrd hng
  (try ((first | refine zn ?_ | refine ze ?_ | refine zk ?_); with_reducible (constructor; repeat constructor)); try refine zl ?_)
  refine K_ev nmd [] hng (by kernel_rfl) fun hf C S K hC1 hC hS hK => ?_; simp (disch := first | omega | assumption) only [go_sem, Oid.not_under_sub ht, Oid.sub_not_under ht, Oid.not_under_sub hs, Oid.sub_not_under hs, hts, Oid.sub_not_under hs5, Oid.not_under_sub hs5, Oid.sub_not_under ht5, Oid.not_under_sub ht5]
  refine hC1 _ (clone_ok t [.ss] false es clock _) (by simp (disch := first | omega | assumption) only [go_sem, Oid.not_under_sub ht, Oid.sub_not_under ht, Oid.not_under_sub hs, Oid.sub_not_under hs, hts, Oid.sub_not_under hs5, Oid.not_under_sub hs5, Oid.sub_not_under ht5, Oid.not_under_sub ht5]) ?_
  simp (disch := first | omega | assumption) only [go_sem, Oid.not_under_sub ht, Oid.sub_not_under ht, Oid.not_under_sub hs, Oid.sub_not_under hs, hts, Oid.sub_not_under hs5, Oid.not_under_sub hs5, Oid.sub_not_under ht5, Oid.not_under_sub ht5]
  refine hK ?_; clear hK hS hC hC1 K S C hf
  (repeat (first | (refine K_ifT rfl rfl ?_) | (refine K_ifF rfl rfl ?_) | (refine K_ev nmd [] hng (by kernel_rfl) fun hf C S K hC1 hC hS hK => ?_; simp (disch := first | omega | assumption) only [go_sem]; refine hK ?_; clear hK hS hC hC1 K S C hf) | ((first | refine zn ?_ | refine ze ?_ | refine zk ?_); with_reducible (constructor; repeat constructor); try refine zl ?_)))
  refine K_nil (done_updN rfl ?_ ?_)
  all_goals simp only [List.mem_cons, List.not_mem_nil, or_false, forall_eq_or_imp, forall_eq, Option.some.injEq, forall_eq', Mem.of_cons_at, eq_self, if_true, ↓reduceIte, reduceCtorEq, implies_true, not_true_eq_false, false_imp_iff, true_and, and_true, false_and, and_false, imp_self, Oid.sub.injEq, Nat.reduceEqDiff, Oid.not_under_sub ht, Oid.sub_not_under ht, Oid.not_under_sub hs, Oid.sub_not_under hs, hts, Oid.sub_not_under hs5, Oid.not_under_sub hs5, Oid.sub_not_under ht5, Oid.not_under_sub ht5]
theorem copy_ok (st t : Oid) (tv : AV) (es : List ME) (clock : Nat) (hts : ¬ t = st) (p : Oid) (hs : ¬ Oid.under p st) (ht : ¬ Oid.under p t) :
    CallOK Tryz.prog 18 [.ptr st 0] (Oid.under p) ⟨[(st, .cells [.map t, tv]), (t, .map [.ss] false es clock)], .ptr (.sub 1 6 p) 0, [(.sub 1 6 p, some (.cells [.map (.sub 0 0 (.sub 1 4 p)), .nilPtr])), (.sub 0 0 (.sub 1 4 p), some (.map [.ss] false es clock))]⟩ := by
  have hs5 : ¬ Oid.under (.sub 1 4 p) st := fun h => hs (Oid.under_sub h)
  have ht5 : ¬ Oid.under (.sub 1 4 p) t := fun h => ht (Oid.under_sub h)
  refine fnOK (n := 10) (rs := [.tmp 2]) Tryz.func18 rfl rfl (by decide) rfl rfl rfl ?_; rintro x rfl hrd hng
  (repeat (first | (refine K_ifT rfl rfl ?_) | (refine K_ifF rfl rfl ?_) | (refine K_ev nmd [] hng (by kernel_rfl) fun hf C S K hC1 hC hS hK => ?_; simp (disch := first | omega | assumption) only [go_sem, Oid.not_under_sub ht, Oid.sub_not_under ht, Oid.not_under_sub hs, Oid.sub_not_under hs, hts, Oid.sub_not_under hs5, Oid.not_under_sub hs5, Oid.sub_not_under ht5, Oid.not_under_sub ht5]; refine hK ?_; clear hK hS hC hC1 K S C hf) | ((first | refine zn ?_ | refine ze ?_ | refine zk ?_); with_reducible (constructor; repeat constructor); try refine zl ?_)))
  refine K_ev nmd [] hng (by kernel_rfl) fun hf C S K hC1 hC hS hK => ?_; simp (disch := first | omega | assumption) only [go_sem, Oid.not_under_sub ht, Oid.sub_not_under ht, Oid.not_under_sub hs, Oid.sub_not_under hs, hts, Oid.sub_not_under hs5, Oid.not_under_sub hs5, Oid.sub_not_under ht5, Oid.not_under_sub ht5]
  refine hC1 _ (clone_ok t [.ss] false es clock _) (by simp (disch := first | omega | assumption) only [go_sem, Oid.not_under_sub ht, Oid.sub_not_under ht, Oid.not_under_sub hs, Oid.sub_not_under hs, hts, Oid.sub_not_under hs5, Oid.not_under_sub hs5, Oid.sub_not_under ht5, Oid.not_under_sub ht5]) ?_
  simp (disch := first | omega | assumption) only [go_sem, Oid.not_under_sub ht, Oid.sub_not_under ht, Oid.not_under_sub hs, Oid.sub_not_under hs, hts, Oid.sub_not_under hs5, Oid.not_under_sub hs5, Oid.sub_not_under ht5, Oid.not_under_sub ht5]
  refine hK ?_; clear hK hS hC hC1 K S C hf
  (repeat (first | (refine K_ifT rfl rfl ?_) | (refine K_ifF rfl rfl ?_) | (refine K_ev nmd [] hng (by kernel_rfl) fun hf C S K hC1 hC hS hK => ?_; simp (disch := first | omega | assumption) only [go_sem]; refine hK ?_; clear hK hS hC hC1 K S C hf) | ((first | refine zn ?_ | refine ze ?_ | refine zk ?_); with_reducible (constructor; repeat constructor); try refine zl ?_)))
  refine K_ret (done_upd rfl ?_ ?_)
  all_goals simp only [List.mem_cons, List.not_mem_nil, or_false, forall_eq_or_imp, forall_eq, Option.some.injEq, forall_eq', Mem.of_cons_at, eq_self, if_true, ↓reduceIte, reduceCtorEq, implies_true, not_true_eq_false, false_imp_iff, true_and, and_true, false_and, and_false, imp_self, Oid.sub.injEq, Nat.reduceEqDiff, Oid.not_under_sub ht, Oid.sub_not_under ht, Oid.not_under_sub hs, Oid.sub_not_under hs, hts, Oid.sub_not_under hs5, Oid.not_under_sub hs5, Oid.sub_not_under ht5, Oid.not_under_sub ht5]
end Go.Proofs.YtaecbmbecofijaaGreatDoor
namespace Go.Proofs.YtaecbmbecofijaaGreatDoor
open Go Go.Ab
set_option maxRecDepth 20000
set_option maxHeartbeats 4000000
section
variable (st t tr o rd wr : Oid) (hn : [wr, rd, o, tr, t, st].Nodup) (es eso esr esw : List ME) (clock co cr cw : Nat)
include hn
theorem atT_ok (old L : PL) (hm : MapP eso old) (hs : SortG ltB old) (ho : POk old) (hm1 : MapP es L) (n : Str) (hnl : n.length ≤ 140737488355000) (w h : Bool) (hw : valE (.str n) (.bool false) esw = .bool w) (hh : hasE (keyF (n, false)) esr = h) (p : Oid) (hp : p.mono = false) (hu : ∀ i ∈ [st, t, tr, o, rd, wr], ¬ Oid.under p i) :
    CallOK Tryz.prog 24 [.ptr st 0, .str n] (Oid.under p) ⟨[(st, .cells [.map t, .ptr tr 0]), (t, .map [.ss] false es clock), (tr, .cells [.map o, .map rd, .map wr]), (o, .map [.ss] false eso co), (rd, .map [.ss, .sb] true esr cr), (wr, .map [.ss] false esw cw)], (getP L n).av, [(rd, some (.map [.ss, .sb] true (readE false w h (keyF (n, false)) (.str (valP old (n, false))) esr cr).1 (readE false w h (keyF (n, false)) (.str (valP old (n, false))) esr cr).2))]⟩ := by
  have hrd' := fun p hp hu => readT_ok st t tr o rd wr hn es eso esr esw clock co cr cw old hm hs ho n hnl false w h hw hh p hp hu
  have hat := fun p h => at_ok t t es clock p h h n ((lookG n L).getD Bits.no) (mapP_val hm1 n)
  have hgp : (if n = [] then (⟨2, 7, []⟩ : Bits) else (lookG n L).getD Bits.no) = getP L n := rfl
  rw [hgp] at hat
  have hu' : ∀ c j, ∀ i ∈ [st, t, tr, o, rd, wr], ¬ Oid.under (.sub c j p) i := fun c j i hi h => hu i hi (Oid.under_sub h)
  simp only [List.nodup_cons, List.mem_cons, List.not_mem_nil, or_false, not_or, not_false_eq_true, List.nodup_nil, and_true] at hn; simp only [List.mem_cons, List.not_mem_nil, or_false, forall_eq_or_imp, forall_eq] at hu; have hd := hn; obtain ⟨u1, u2, u3, u4, u5, u6⟩ := hu
  have u2' : ∀ c i, ¬ Oid.under (.sub c i p) t := fun c i h => u2 (Oid.under_sub h)
  generalize (readE false w h (keyF (n, false)) (.str (valP old (n, false))) esr cr).1 = E1 at *
  generalize (readE false w h (keyF (n, false)) (.str (valP old (n, false))) esr cr).2 = C1 at *
  generalize getP L n = B at *
  simp only [Bits.av, keyF] at *
  refine fnOK (n := 15) (rs := [.cell 4 37]) Tryz.func24 rfl rfl (by decide) rfl rfl rfl ?_; rintro x rfl hrd hng
  (repeat (first | (refine K_ifT rfl rfl ?_) | (refine K_ifF rfl rfl ?_) | (refine K_ev nmd [] hng (by kernel_rfl) fun hf C S K hC1 hC hS hK => ?_; simp (disch := first | omega | assumption) only [go_sem, hd, Oid.not_under_sub u1, Oid.sub_not_under u1, Oid.not_under_sub u2, Oid.sub_not_under u2, Oid.not_under_sub u3, Oid.sub_not_under u3, Oid.not_under_sub u4, Oid.sub_not_under u4, Oid.not_under_sub u5, Oid.sub_not_under u5, Oid.not_under_sub u6, Oid.sub_not_under u6]; refine hK ?_; clear hK hS hC hC1 K S C hf) | ((first | refine zn ?_ | refine ze ?_ | refine zk ?_); with_reducible (constructor; repeat constructor); try refine zl ?_)))
  refine K_ev nmd [] hng (by kernel_rfl) fun hf C S K hC1 hC hS hK => ?_; simp (disch := first | omega | assumption) only [go_sem, hd, Oid.not_under_sub u1, Oid.sub_not_under u1, Oid.not_under_sub u2, Oid.sub_not_under u2, Oid.not_under_sub u3, Oid.sub_not_under u3, Oid.not_under_sub u4, Oid.sub_not_under u4, Oid.not_under_sub u5, Oid.sub_not_under u5, Oid.not_under_sub u6, Oid.sub_not_under u6]
  refine hC1 _ (hrd' _ (mono_sub' rfl hp) (hu' _ _)) (by simp (disch := first | omega | assumption) only [go_sem, hd, Oid.not_under_sub u1, Oid.sub_not_under u1, Oid.not_under_sub u2, Oid.sub_not_under u2, Oid.not_under_sub u3, Oid.sub_not_under u3, Oid.not_under_sub u4, Oid.sub_not_under u4, Oid.not_under_sub u5, Oid.sub_not_under u5, Oid.not_under_sub u6, Oid.sub_not_under u6]) ?_
  simp (disch := first | omega | assumption) only [go_sem, hd, Oid.not_under_sub u1, Oid.sub_not_under u1, Oid.not_under_sub u2, Oid.sub_not_under u2, Oid.not_under_sub u3, Oid.sub_not_under u3, Oid.not_under_sub u4, Oid.sub_not_under u4, Oid.not_under_sub u5, Oid.sub_not_under u5, Oid.not_under_sub u6, Oid.sub_not_under u6]
  refine hK ?_; clear hK hS hC hC1 K S C hf
  (try ((first | refine zn ?_ | refine ze ?_ | refine zk ?_); with_reducible (constructor; repeat constructor)); try refine zl ?_)
  refine K_ev nmd [] hng (by kernel_rfl) fun hf C S K hC1 hC hS hK => ?_; simp (disch := first | omega | assumption) only [go_sem, hd, Oid.not_under_sub u1, Oid.sub_not_under u1, Oid.not_under_sub u2, Oid.sub_not_under u2, Oid.not_under_sub u3, Oid.sub_not_under u3, Oid.not_under_sub u4, Oid.sub_not_under u4, Oid.not_under_sub u5, Oid.sub_not_under u5, Oid.not_under_sub u6, Oid.sub_not_under u6]
  refine hC1 _ (hat _ (u2' _ _)) (by simp (disch := first | omega | assumption) only [go_sem, hd, Oid.not_under_sub u1, Oid.sub_not_under u1, Oid.not_under_sub u2, Oid.sub_not_under u2, Oid.not_under_sub u3, Oid.sub_not_under u3, Oid.not_under_sub u4, Oid.sub_not_under u4, Oid.not_under_sub u5, Oid.sub_not_under u5, Oid.not_under_sub u6, Oid.sub_not_under u6]) ?_
  simp (disch := first | omega | assumption) only [go_sem, hd, Oid.not_under_sub u1, Oid.sub_not_under u1, Oid.not_under_sub u2, Oid.sub_not_under u2, Oid.not_under_sub u3, Oid.sub_not_under u3, Oid.not_under_sub u4, Oid.sub_not_under u4, Oid.not_under_sub u5, Oid.sub_not_under u5, Oid.not_under_sub u6, Oid.sub_not_under u6]
  refine hK ?_; clear hK hS hC hC1 K S C hf
  (repeat (first | (refine K_ifT rfl rfl ?_) | (refine K_ifF rfl rfl ?_) | (refine K_ev nmd [] hng (by kernel_rfl) fun hf C S K hC1 hC hS hK => ?_; simp (disch := first | omega | assumption) only [go_sem, hd, Oid.not_under_sub u1, Oid.sub_not_under u1, Oid.not_under_sub u2, Oid.sub_not_under u2, Oid.not_under_sub u3, Oid.sub_not_under u3, Oid.not_under_sub u4, Oid.sub_not_under u4, Oid.not_under_sub u5, Oid.sub_not_under u5, Oid.not_under_sub u6, Oid.sub_not_under u6]; refine hK ?_; clear hK hS hC hC1 K S C hf) | ((first | refine zn ?_ | refine ze ?_ | refine zk ?_); with_reducible (constructor; repeat constructor); try refine zl ?_)))
  refine K_ret (done_upd (by simp (disch := first | omega | assumption) only [go_sem, hd, Oid.not_under_sub u1, Oid.sub_not_under u1, Oid.not_under_sub u2, Oid.sub_not_under u2, Oid.not_under_sub u3, Oid.sub_not_under u3, Oid.not_under_sub u4, Oid.sub_not_under u4, Oid.not_under_sub u5, Oid.sub_not_under u5, Oid.not_under_sub u6, Oid.sub_not_under u6]) ?_ ?_)
  all_goals simp only [List.mem_cons, List.not_mem_nil, or_false, forall_eq_or_imp, forall_eq, Option.some.injEq, forall_eq', Mem.of_cons_at, eq_self, if_true, ↓reduceIte, reduceCtorEq, implies_true, not_true_eq_false, false_imp_iff, true_and, and_true, false_and, and_false, imp_self, hd, Oid.not_under_sub u1, Oid.sub_not_under u1, Oid.not_under_sub u2, Oid.sub_not_under u2, Oid.not_under_sub u3, Oid.sub_not_under u3, Oid.not_under_sub u4, Oid.sub_not_under u4, Oid.not_under_sub u5, Oid.sub_not_under u5, Oid.not_under_sub u6, Oid.sub_not_under u6]
theorem namesT_ok (old L : PL) (hm : MapP eso old) (hs : SortG ltB old) (ho : POk old) (hm1 : MapP es L) (hs1 : SortG ltB L) (ho1 : POk L) (n : Str) (hnl : n.length ≤ 140737488355000) (w h : Bool) (hw : valE (.str n) (.bool false) esw = .bool w) (hh : hasE (keyF (n, true)) esr = h) (p : Oid) (hp : p.mono = false) (hu : ∀ i ∈ [st, t, tr, o, rd, wr], ¬ Oid.under p i) :
    CallOK Tryz.prog 25 [.ptr st 0, .str n] (Oid.under p) ⟨[(st, .cells [.map t, .ptr tr 0]), (t, .map [.ss] false es clock), (tr, .cells [.map o, .map rd, .map wr]), (o, .map [.ss] false eso co), (rd, .map [.ss, .sb] true esr cr), (wr, .map [.ss] false esw cw)], .list 1 ((namesP L n).map AV.str), [(rd, some (.map [.ss, .sb] true (readE true w h (keyF (n, true)) (.str (valP old (n, true))) esr cr).1 (readE true w h (keyF (n, true)) (.str (valP old (n, true))) esr cr).2))]⟩ := by
  have hrd' := fun p hp hu => readT_ok st t tr o rd wr hn es eso esr esw clock co cr cw old hm hs ho n hnl true w h hw hh p hp hu
  have hkl := fun e he => Nat.le_trans (mapP_key hm1 ho1 e he) (show 1000000 ≤ 140737488355328 by decide)
  have hol := ho1.len
  have hel : es.length ≤ 2000000000000 := by rw [mapP_len hm1]; omega
  have hnm := fun p h => names_ok t n hnl es clock hkl hel p h
  rw [namesE_eq hm1 hs1] at hnm
  have hu' : ∀ c j, ∀ i ∈ [st, t, tr, o, rd, wr], ¬ Oid.under (.sub c j p) i := fun c j i hi h => hu i hi (Oid.under_sub h)
  simp only [List.nodup_cons, List.mem_cons, List.not_mem_nil, or_false, not_or, not_false_eq_true, List.nodup_nil, and_true] at hn; simp only [List.mem_cons, List.not_mem_nil, or_false, forall_eq_or_imp, forall_eq] at hu; have hd := hn; obtain ⟨u1, u2, u3, u4, u5, u6⟩ := hu
  have u2' : ∀ c i, ¬ Oid.under (.sub c i p) t := fun c i h => u2 (Oid.under_sub h)
  generalize (readE true w h (keyF (n, true)) (.str (valP old (n, true))) esr cr).1 = E1 at *
  generalize (readE true w h (keyF (n, true)) (.str (valP old (n, true))) esr cr).2 = C1 at *
  generalize namesP L n = B at *
  simp only [keyF] at *
  refine fnOK (n := 15) (rs := [.tmp 4]) Tryz.func25 rfl rfl (by decide) rfl rfl rfl ?_; rintro x rfl hrd hng
  (repeat (first | (refine K_ifT rfl rfl ?_) | (refine K_ifF rfl rfl ?_) | (refine K_ev nmd [] hng (by kernel_rfl) fun hf C S K hC1 hC hS hK => ?_; simp (disch := first | omega | assumption) only [go_sem, hd, Oid.not_under_sub u1, Oid.sub_not_under u1, Oid.not_under_sub u2, Oid.sub_not_under u2, Oid.not_under_sub u3, Oid.sub_not_under u3, Oid.not_under_sub u4, Oid.sub_not_under u4, Oid.not_under_sub u5, Oid.sub_not_under u5, Oid.not_under_sub u6, Oid.sub_not_under u6]; refine hK ?_; clear hK hS hC hC1 K S C hf) | ((first | refine zn ?_ | refine ze ?_ | refine zk ?_); with_reducible (constructor; repeat constructor); try refine zl ?_)))
  refine K_ev nmd [] hng (by kernel_rfl) fun hf C S K hC1 hC hS hK => ?_; simp (disch := first | omega | assumption) only [go_sem, hd, Oid.not_under_sub u1, Oid.sub_not_under u1, Oid.not_under_sub u2, Oid.sub_not_under u2, Oid.not_under_sub u3, Oid.sub_not_under u3, Oid.not_under_sub u4, Oid.sub_not_under u4, Oid.not_under_sub u5, Oid.sub_not_under u5, Oid.not_under_sub u6, Oid.sub_not_under u6]
  refine hC1 _ (hrd' _ (mono_sub' rfl hp) (hu' _ _)) (by simp (disch := first | omega | assumption) only [go_sem, hd, Oid.not_under_sub u1, Oid.sub_not_under u1, Oid.not_under_sub u2, Oid.sub_not_under u2, Oid.not_under_sub u3, Oid.sub_not_under u3, Oid.not_under_sub u4, Oid.sub_not_under u4, Oid.not_under_sub u5, Oid.sub_not_under u5, Oid.not_under_sub u6, Oid.sub_not_under u6]) ?_
  simp (disch := first | omega | assumption) only [go_sem, hd, Oid.not_under_sub u1, Oid.sub_not_under u1, Oid.not_under_sub u2, Oid.sub_not_under u2, Oid.not_under_sub u3, Oid.sub_not_under u3, Oid.not_under_sub u4, Oid.sub_not_under u4, Oid.not_under_sub u5, Oid.sub_not_under u5, Oid.not_under_sub u6, Oid.sub_not_under u6]
  refine hK ?_; clear hK hS hC hC1 K S C hf
  (try ((first | refine zn ?_ | refine ze ?_ | refine zk ?_); with_reducible (constructor; repeat constructor)); try refine zl ?_)
  refine K_ev nmd [] hng (by kernel_rfl) fun hf C S K hC1 hC hS hK => ?_; simp (disch := first | omega | assumption) only [go_sem, hd, Oid.not_under_sub u1, Oid.sub_not_under u1, Oid.not_under_sub u2, Oid.sub_not_under u2, Oid.not_under_sub u3, Oid.sub_not_under u3, Oid.not_under_sub u4, Oid.sub_not_under u4, Oid.not_under_sub u5, Oid.sub_not_under u5, Oid.not_under_sub u6, Oid.sub_not_under u6]
  refine hC1 _ (hnm _ (u2' _ _)) (by simp (disch := first | omega | assumption) only [go_sem, hd, Oid.not_under_sub u1, Oid.sub_not_under u1, Oid.not_under_sub u2, Oid.sub_not_under u2, Oid.not_under_sub u3, Oid.sub_not_under u3, Oid.not_under_sub u4, Oid.sub_not_under u4, Oid.not_under_sub u5, Oid.sub_not_under u5, Oid.not_under_sub u6, Oid.sub_not_under u6]) ?_
  simp (disch := first | omega | assumption) only [go_sem, hd, Oid.not_under_sub u1, Oid.sub_not_under u1, Oid.not_under_sub u2, Oid.sub_not_under u2, Oid.not_under_sub u3, Oid.sub_not_under u3, Oid.not_under_sub u4, Oid.sub_not_under u4, Oid.not_under_sub u5, Oid.sub_not_under u5, Oid.not_under_sub u6, Oid.sub_not_under u6]
  refine hK ?_; clear hK hS hC hC1 K S C hf
  (repeat (first | (refine K_ifT rfl rfl ?_) | (refine K_ifF rfl rfl ?_) | (refine K_ev nmd [] hng (by kernel_rfl) fun hf C S K hC1 hC hS hK => ?_; simp (disch := first | omega | assumption) only [go_sem, hd, Oid.not_under_sub u1, Oid.sub_not_under u1, Oid.not_under_sub u2, Oid.sub_not_under u2, Oid.not_under_sub u3, Oid.sub_not_under u3, Oid.not_under_sub u4, Oid.sub_not_under u4, Oid.not_under_sub u5, Oid.sub_not_under u5, Oid.not_under_sub u6, Oid.sub_not_under u6]; refine hK ?_; clear hK hS hC hC1 K S C hf) | ((first | refine zn ?_ | refine ze ?_ | refine zk ?_); with_reducible (constructor; repeat constructor); try refine zl ?_)))
  refine K_ret (done_upd rfl ?_ ?_)
  all_goals simp only [List.mem_cons, List.not_mem_nil, or_false, forall_eq_or_imp, forall_eq, Option.some.injEq, forall_eq', Mem.of_cons_at, eq_self, if_true, ↓reduceIte, reduceCtorEq, implies_true, not_true_eq_false, false_imp_iff, true_and, and_true, false_and, and_false, imp_self, hd, Oid.not_under_sub u1, Oid.sub_not_under u1, Oid.not_under_sub u2, Oid.sub_not_under u2, Oid.not_under_sub u3, Oid.sub_not_under u3, Oid.not_under_sub u4, Oid.sub_not_under u4, Oid.not_under_sub u5, Oid.sub_not_under u5, Oid.not_under_sub u6, Oid.sub_not_under u6]
def putWE (n : Str) (es : List ME) (c : Nat) : List ME × Nat := if n = [] then (es, c) else (setE (.str n) (.bool true) c es, if hasE (.str n) es = true then c else c + 1)
theorem putT_ok (n : Str) (b : Bits) (p : Oid) (hp : p.mono = false) (hu : ∀ i ∈ [st, t, tr, o, rd, wr], ¬ Oid.under p i) :
    CallOK Tryz.prog 19 [.ptr st 0, .str n, b.av] (Oid.under p) ⟨[(st, .cells [.map t, .ptr tr 0]), (t, .map [.ss] false es clock), (tr, .cells [.map o, .map rd, .map wr]), (o, .map [.ss] false eso co), (rd, .map [.ss, .sb] true esr cr), (wr, .map [.ss] false esw cw)], .tuple [], [(t, some (.map [.ss] false (putE n b es clock) (putC n b es clock))), (wr, some (.map [.ss] false (putWE n esw cw).1 (putWE n esw cw).2))]⟩ := by
  simp only [List.nodup_cons, List.mem_cons, List.not_mem_nil, or_false, not_or, not_false_eq_true, List.nodup_nil, and_true] at hn; simp only [List.mem_cons, List.not_mem_nil, or_false, forall_eq_or_imp, forall_eq] at hu; have hd := hn; obtain ⟨u1, u2, u3, u4, u5, u6⟩ := hu
  simp only [Bits.av]
  by_cases hn0 : n = []
  · unfold putE putC putWE
    simp only [if_pos hn0]
    refine fnOK (n := 35) (rs := []) Tryz.func19 rfl rfl (by decide) rfl rfl rfl ?_; rintro x rfl hrd hng
    (repeat (first | (refine K_ifT rfl rfl ?_) | (refine K_ifF rfl rfl ?_) | (refine K_ev nmd [] hng (by kernel_rfl) fun hf C S K hC1 hC hS hK => ?_; simp (disch := first | omega | assumption) only [go_sem, hd, Oid.not_under_sub u1, Oid.sub_not_under u1, Oid.not_under_sub u2, Oid.sub_not_under u2, Oid.not_under_sub u3, Oid.sub_not_under u3, Oid.not_under_sub u4, Oid.sub_not_under u4, Oid.not_under_sub u5, Oid.sub_not_under u5, Oid.not_under_sub u6, Oid.sub_not_under u6]; refine hK ?_; clear hK hS hC hC1 K S C hf) | ((first | refine zn ?_ | refine ze ?_ | refine zk ?_); with_reducible (constructor; repeat constructor); try refine zl ?_)))
    refine K_ifd rfl rfl (fun hb => ?_) (fun hb => ?_)
    · (repeat (first | (refine K_ifT rfl rfl ?_) | (refine K_ifF rfl rfl ?_) | (refine K_ev nmd [] hng (by kernel_rfl) fun hf C S K hC1 hC hS hK => ?_; simp (disch := first | omega | assumption) only [go_sem, hd, Oid.not_under_sub u1, Oid.sub_not_under u1, Oid.not_under_sub u2, Oid.sub_not_under u2, Oid.not_under_sub u3, Oid.sub_not_under u3, Oid.not_under_sub u4, Oid.sub_not_under u4, Oid.not_under_sub u5, Oid.sub_not_under u5, Oid.not_under_sub u6, Oid.sub_not_under u6]; refine hK ?_; clear hK hS hC hC1 K S C hf) | ((first | refine zn ?_ | refine ze ?_ | refine zk ?_); with_reducible (constructor; repeat constructor); try refine zl ?_)))
      refine K_ret (done_updR rfl ?_ ?_)
      all_goals simp only [List.mem_cons, List.not_mem_nil, or_false, forall_eq_or_imp, forall_eq, Option.some.injEq, forall_eq', Mem.of_cons_at, eq_self, if_true, ↓reduceIte, reduceCtorEq, implies_true, not_true_eq_false, false_imp_iff, true_and, and_true, false_and, and_false, imp_self, hd, Oid.not_under_sub u1, Oid.sub_not_under u1, Oid.not_under_sub u2, Oid.sub_not_under u2, Oid.not_under_sub u3, Oid.sub_not_under u3, Oid.not_under_sub u4, Oid.sub_not_under u4, Oid.not_under_sub u5, Oid.sub_not_under u5, Oid.not_under_sub u6, Oid.sub_not_under u6]
    · exact absurd hn0 hb
  · unfold putE putC putWE
    simp only [if_neg hn0]
    refine fnOK (n := 35) (rs := []) Tryz.func19 rfl rfl (by decide) rfl rfl rfl ?_; rintro x rfl hrd hng
    (repeat (first | (refine K_ifT rfl rfl ?_) | (refine K_ifF rfl rfl ?_) | (refine K_ev nmd [] hng (by kernel_rfl) fun hf C S K hC1 hC hS hK => ?_; simp (disch := first | omega | assumption) only [go_sem, hd, Oid.not_under_sub u1, Oid.sub_not_under u1, Oid.not_under_sub u2, Oid.sub_not_under u2, Oid.not_under_sub u3, Oid.sub_not_under u3, Oid.not_under_sub u4, Oid.sub_not_under u4, Oid.not_under_sub u5, Oid.sub_not_under u5, Oid.not_under_sub u6, Oid.sub_not_under u6]; refine hK ?_; clear hK hS hC hC1 K S C hf) | ((first | refine zn ?_ | refine ze ?_ | refine zk ?_); with_reducible (constructor; repeat constructor); try refine zl ?_)))
    refine K_ifd rfl rfl (fun hb => ?_) (fun hb => ?_)
    · exact absurd hb hn0
    · (repeat (first | (refine K_ifT rfl rfl ?_) | (refine K_ifF rfl rfl ?_) | (refine K_ev nmd [] hng (by kernel_rfl) fun hf C S K hC1 hC hS hK => ?_; simp (disch := first | omega | assumption) only [go_sem, hd, Oid.not_under_sub u1, Oid.sub_not_under u1, Oid.not_under_sub u2, Oid.sub_not_under u2, Oid.not_under_sub u3, Oid.sub_not_under u3, Oid.not_under_sub u4, Oid.sub_not_under u4, Oid.not_under_sub u5, Oid.sub_not_under u5, Oid.not_under_sub u6, Oid.sub_not_under u6]; refine hK ?_; clear hK hS hC hC1 K S C hf) | ((first | refine zn ?_ | refine ze ?_ | refine zk ?_); with_reducible (constructor; repeat constructor); try refine zl ?_)))
      by_cases hk : b.k = 0
      · simp only [if_pos hk]
        refine K_ifd rfl rfl (fun hb => ?_) (fun hb => ?_)
        · (repeat (first | (refine K_ifT rfl rfl ?_) | (refine K_ifF rfl rfl ?_) | (refine K_ev nmd [] hng (by kernel_rfl) fun hf C S K hC1 hC hS hK => ?_; simp (disch := first | omega | assumption) only [go_sem, hd, Oid.not_under_sub u1, Oid.sub_not_under u1, Oid.not_under_sub u2, Oid.sub_not_under u2, Oid.not_under_sub u3, Oid.sub_not_under u3, Oid.not_under_sub u4, Oid.sub_not_under u4, Oid.not_under_sub u5, Oid.sub_not_under u5, Oid.not_under_sub u6, Oid.sub_not_under u6]; refine hK ?_; clear hK hS hC hC1 K S C hf) | ((first | refine zn ?_ | refine ze ?_ | refine zk ?_); with_reducible (constructor; repeat constructor); try refine zl ?_)))
          refine K_nil (done_updN rfl ?_ ?_)
          all_goals simp only [List.mem_cons, List.not_mem_nil, or_false, forall_eq_or_imp, forall_eq, Option.some.injEq, forall_eq', Mem.of_cons_at, eq_self, if_true, ↓reduceIte, reduceCtorEq, implies_true, not_true_eq_false, false_imp_iff, true_and, and_true, false_and, and_false, imp_self, hd, Oid.not_under_sub u1, Oid.sub_not_under u1, Oid.not_under_sub u2, Oid.sub_not_under u2, Oid.not_under_sub u3, Oid.sub_not_under u3, Oid.not_under_sub u4, Oid.sub_not_under u4, Oid.not_under_sub u5, Oid.sub_not_under u5, Oid.not_under_sub u6, Oid.sub_not_under u6]
        · exact absurd hk hb
      · simp only [if_neg hk]
        refine K_ifd rfl rfl (fun hb => ?_) (fun hb => ?_)
        · exact absurd hb hk
        · (try ((first | refine zn ?_ | refine ze ?_ | refine zk ?_); with_reducible (constructor; repeat constructor)); try refine zl ?_)
          refine K_evd nmd [] [] mixed hng (by kernel_rfl) [0] fun hf C S K hC hS hK => ?_; simp (disch := first | omega | assumption) only [go_sem, hd, Oid.not_under_sub u1, Oid.sub_not_under u1, Oid.not_under_sub u2, Oid.sub_not_under u2, Oid.not_under_sub u3, Oid.sub_not_under u3, Oid.not_under_sub u4, Oid.sub_not_under u4, Oid.not_under_sub u5, Oid.sub_not_under u5, Oid.not_under_sub u6, Oid.sub_not_under u6]
          (first | refine hK (dynN_quiet rfl) ?_ | refine hK (by simp (disch := first | omega | assumption) only [go_sem, List.reverse_cons, List.reverse_nil, ne_eq, not_false_eq_true, implies_true]) ?_); clear hK hS hC K S C hf
          refine K_nil (done_updN rfl ?_ ?_)
          all_goals simp only [List.mem_cons, List.not_mem_nil, or_false, forall_eq_or_imp, forall_eq, Option.some.injEq, forall_eq', Mem.of_cons_at, eq_self, if_true, ↓reduceIte, reduceCtorEq, implies_true, not_true_eq_false, false_imp_iff, true_and, and_true, false_and, and_false, imp_self, Bits.av, hd, Oid.not_under_sub u1, Oid.sub_not_under u1, Oid.not_under_sub u2, Oid.sub_not_under u2, Oid.not_under_sub u3, Oid.sub_not_under u3, Oid.not_under_sub u4, Oid.sub_not_under u4, Oid.not_under_sub u5, Oid.sub_not_under u5, Oid.not_under_sub u6, Oid.sub_not_under u6]
end
end Go.Proofs.YtaecbmbecofijaaGreatDoor
namespace Go.Ab
open Go.Proofs Go.Shelf Go.Sort
/-- A world without objects: what was fixed for good is still there. -/
theorem MemRel.bare {x : Ctx} {g : Gh} {m : Mem} {w W : World} {p : Oid} (h : MemRel x g m w) (hcom : ∀ b o v, g.com b o = some v → W.cell? ⟨b, o, none⟩ = some v)
    (hrow : ∀ b r, g.row b = some r → ∃ c t fz, W.heap[b]? = some (.cells c t fz) ∧ c.size = r) (htyp : ∀ (b : Nat) (c : Array Value) (t : TypeId) (fz : Nat × Nat), w.heap[b]? = some (Obj.cells c t fz) → ∃ c' fz', W.heap[b]? = some (Obj.cells c' t fz')) : MemRel { ng := x.ng, g0 := g, w0 := W, may0 := fun _ => False, p := p, rd := none } g Mem.emp W :=
  ⟨Gh.le_refl g, fun _ _ => rfl, h.glob, fun _ _ _ hv => .inl hv, fun _ _ hi => (by cases hi), fun _ _ _ _ _ hi => (by cases hi), hcom, h.one, hrow, rfl, rfl, ⟨rfl, fun _ => Nat.le_refl _⟩, Nat.le_refl _, fun _ _ _ => rfl, fun t q b hb => let ⟨c, fz, h1⟩ := h.typs t q b hb; htyp b c t fz h1⟩
/-- Nothing old may be written: the world has grown. -/
theorem MemRel.grown {x : Ctx} {g : Gh} {m : Mem} {w : World} (h : MemRel x g m w) (hm : ∀ b, ¬ x.may0 b) (hp : x.p.mono = true) : ∃ q os, w = grow (x.w0.drewN q) os := by
  refine ⟨w.drawn - x.w0.drawn, w.heap.extract x.w0.heap.size w.heap.size, ?_⟩
  have hh : w.heap = x.w0.heap ++ w.heap.extract x.w0.heap.size w.heap.size := by
    apply Array.ext_getElem?
    intro b
    rw [Array.getElem?_append]
    split
    · rename_i hb; exact h.kept b hb (hm b)
    · rename_i hb
      rw [Array.getElem?_extract]
      by_cases hb' : b < w.heap.size
      · rw [if_pos (by omega), show x.w0.heap.size + (b - x.w0.heap.size) = b by omega]
      · rw [if_neg (by omega), Array.getElem?_eq_none (by omega)]
  have hd := h.output.2 hp
  obtain ⟨heap, tape, drawn, os, output⟩ := w
  simp only [grow, World.drewN] at hh hd ⊢
  have h1 := h.os; have h2 := h.tape; have h3 := h.output.1
  simp only at h1 h2 h3
  rw [← hh, ← h1, ← h2, ← h3]
  congr 1
  omega
section
variable {α : Type} [Inhabited α] (enc : α → List Value) (k : Nat)
theorem sw_other {w : World} {b m : Nat} {dk : Array α} {os : Array Obj} {b' : Nat} (hb : b' ≠ b) (hlt : b' < w.heap.size) : (sortWorldK enc k w b 0 m dk os).heap[b']? = w.heap[b']? := by
  unfold sortWorldK putRowK putRow mapBlock
  rw [heap_grow_old _ _ (by simpa [ahead] using hlt)]
  simp [Array.getElem?_modify, Ne.symm hb, ahead]
theorem sw_same {w : World} {b m : Nat} {dk : Array α} {os : Array Obj} {c : Array Value} {t : TypeId} {fz : Nat × Nat} (hb : w.heap[b]? = some (.cells c t fz)) :
    (sortWorldK enc k w b 0 m dk os).heap[b]? = some (.cells (putCells id 0 (flatK enc k dk) c) t fz) := by
  have hlt := (Array.getElem?_eq_some_iff.1 hb).1
  unfold sortWorldK putRowK putRow mapBlock
  rw [heap_grow_old _ _ (by simpa [ahead] using hlt)]
  simp [Array.getElem?_modify, hb, ahead, onCells]
theorem putCells_size (d : Array Value) (c : Array Value) : (putCells id 0 d c).size = c.size := by simp [putCells]
theorem sw_size {w : World} {b m : Nat} {dk : Array α} {os : Array Obj} : w.heap.size ≤ (sortWorldK enc k w b 0 m dk os).heap.size := size_sortWorldK_c enc k w b 0 m dk os
end
theorem sort_ok {P : Program} [Laid P] {ρ : Ren} (L : SlLaysF0.n6 P ρ) {α : Type} [Inhabited α] (k : Nat) (aE : ∀ w, (isAgg (ρ.t 24)).run P w = .ok true w) (zE : ∀ w, (Go.sizeOf (ρ.t 24)).run P w = .ok k w)
    (enc : α → List Value) (av : α → AV) (hk : ∀ x, (enc x).length = k) (h1 : ∀ x, ∀ v ∈ enc x, v.oneCell' = true) (hcl : ∀ x, (av x).cells.length = k) (hagg : ∀ g x, VR g (av x) (.agg (enc x).toArray))
    (henc : ∀ g x j v, j < k → (VR g ((av x).cells.getD j .undef) v ↔ v = (enc x).getD j undef)) (cf : α → α → Int) (hO : SWO (ltOf cf)) (gf : Nat)
    (hg : ∀ x y p, CallOK P gf [av x, av y] (Oid.under p) ⟨[], .int .i64 (cf x y), []⟩) (l : List α) (hl : ¬ l = []) (hsz : l.length < 4611686018427387904) (rid p : Oid) (he : entersB P (ρ.f 6) = true) :
    CallND P (ρ.f 6) [.sl rid k l.length, .fn (.func gf) [] []] (Oid.under p) [(rid, .arr k (l.map av))] (fun v u => v = .tuple [] ∧ ∃ l' : List α, l'.Perm l ∧ l'.Pairwise (fun x y => ltOf cf y x = false) ∧ u = [(rid, some (.arr k (l'.map av)))]) (fun _ _ => False) := by
  refine ⟨he, fun x g args w m hm hn hargs hsp hng => ?_⟩
  have hmi := hn _ List.mem_cons_self
  simp only at hmi
  have a0 := hargs.2 0 (by simp)
  have a1 := hargs.2 1 (by simp)
  simp only [List.getD_cons_zero, List.getD_cons_succ] at a0 a1
  have hne : l.length ≠ 0 := fun e => hl (List.eq_nil_of_length_eq_zero e)
  obtain ⟨b, cap, e0, hloc, hcap, hrow⟩ := a0.sl_inv'.resolve_left fun h => hne h.1
  obtain ⟨fa, fb, e1, s1, s2, _, _⟩ := a1.fn_inv
  have f1 : fa = #[] := Array.eq_empty_of_size_eq_zero (by simpa using s1)
  have f2 : fb = #[] := Array.eq_empty_of_size_eq_zero (by simpa using s2)
  subst f1; subst f2
  have eargs : args = #[.slice (some ⟨b, 0, none⟩) l.toArray.size cap, .func (.func gf) #[] #[]] := by
    apply Array.ext
    · rw [hargs.1]; rfl
    · intro i h2 h3
      have hi : i < 2 := h3
      rcases i with _ | _ | i
      · simpa [Array.getD_eq_getD_getElem?, h2] using e0
      · simpa [Array.getD_eq_getD_getElem?, h2] using e1
      · omega
  obtain ⟨b0, hb0, hcom, hmay, hobj⟩ := hm.objL hmi hloc
  rw [hloc] at hb0; simp only [Option.some.injEq] at hb0; subst hb0
  obtain ⟨c, t, fz, hh, hcs, hfz, hxl, hone, hv⟩ := hobj
  have hlt := (Array.getElem?_eq_some_iff.1 hh).1
  simp only [List.length_map] at hcs hxl hone hv
  have hcell : ∀ i j, i < l.length → j < k → c.getD (i * k + j) undef = (enc (l.getD i default)).getD j undef := fun i j hi hj => by
    have := hv i j hi hj
    rw [getD_map_in av hi] at this
    exact (henc g _ j _ hj).1 this
  have hH : HoldsK enc k w b 0 l.toArray := by
    intro j hj
    rw [size_flatK] at hj
    have hj' : j < l.length * k := by simpa using hj
    have hk0 : 0 < k := Nat.pos_of_ne_zero fun e => by subst e; simp at hj'
    have hi : j / k < l.length := (Nat.div_lt_iff_lt_mul hk0).2 hj'
    have hjc : j < c.size := by omega
    constructor
    · rw [get_flatK _ _ _ _ hj]
      have h3 := hcell (j / k) (j % k) hi (Nat.mod_lt _ hk0)
      have h4 : j / k * k + j % k = j := Nat.div_add_mod' j k
      rw [h4] at h3
      simp only [World.cell?, hh, Nat.zero_add, Option.isSome_none, Bool.false_eq_true, if_false, Array.getElem?_eq_getElem hjc, Option.some.injEq, id_eq]
      rw [Array.getD_eq_getD_getElem?, Array.getElem?_eq_getElem hjc, Option.getD_some] at h3
      rw [h3]
      have h5 : l.toArray[j / k]! = l.getD (j / k) default := by simp [List.getElem?_eq_getElem hi, hi]
      rw [h5]
      have h6 : j % k < (enc (l.getD (j / k) default)).length := by rw [hk]; exact Nat.mod_lt _ hk0
      rw [getElem!_pos (enc (l.getD (j / k) default)) (j % k) h6, List.getD_eq_getElem?_getD, List.getElem?_eq_getElem h6, Option.getD_some]
    · simp only [World.frozen?, hh, Nat.zero_add]
      have := hfz j hjc
      by_cases h : fz.1 ≤ j
      · have : ¬ j < fz.2 := fun h' => this ⟨h, h'⟩
        simp [this]
      · simp [h]
  have hcmp : CmpLays P gf #[] enc k cf b 0 l.toArray.size w := by
    intro mm os dk hs u v
    have hb := hm.bare (W := sortWorldK enc k w b 0 mm dk os) (p := .sub 0 999983 p) (fun b' o v hv => ?_) (fun b' r hr => ?_) (fun b' c9 t9 fz9 h9 => ?_)
    · have hc := (hg u v (.sub 0 999983 p)).calls _ g #[.agg (enc u).toArray, .agg (enc v).toArray] _ _ hb (fun q hq => by cases hq) ⟨rfl, fun j hj => ?_⟩ (fun i hi => ⟨(hsp i (Oid.under_sub hi)).1, hi⟩) (hng.inner rfl hm.le)
      · refine hc.mono fun en w' ⟨g', v', h2, h3, h4, h5, h6⟩ => ⟨by rw [h2, h5.int_inv], ?_⟩
        exact h6.grown (fun _ h => h) (by simp [Oid.mono_sub])
      · rcases j with _ | _ | j
        · exact hagg g u
        · exact hagg g v
        · exact absurd hj (by simp)
    · have hb' : b' ≠ b := fun e => by subst e; rw [hcom o] at hv; cases hv
      have h2 := hm.com b' o v hv
      have h3 : b' < w.heap.size := by
        rcases Nat.lt_or_ge b' w.heap.size with h | h
        · exact h
        · simp [World.cell?, Array.getElem?_eq_none h] at h2
      simp only [World.cell?] at h2 ⊢
      rw [sw_other enc k hb' h3]; exact h2
    · obtain ⟨c', t', fz', h2, h3⟩ := hm.rows b' r hr
      by_cases hb' : b' = b
      · subst hb'; exact ⟨_, _, _, sw_same enc k h2, by rw [putCells_size]; exact h3⟩
      · exact ⟨c', t', fz', by rw [sw_other enc k hb' (Array.getElem?_eq_some_iff.1 h2).1]; exact h2, h3⟩
    · by_cases hb' : b' = b
      · subst hb'; exact ⟨_, _, sw_same enc k h9⟩
      · exact ⟨c9, fz9, by rw [sw_other enc k hb' (Array.getElem?_eq_some_iff.1 h9).1]; exact h9⟩
  have eg : ∀ args w, (callFunc gf args).run P w = .ok (.enter gf args) w := by
    have he := (hg default default p).enters
    unfold entersB at he
    cases hfn : P.funcs[gf]? with
    | none => rw [hfn] at he; cases he
    | some fn =>
      rw [hfn] at he
      simp only [Bool.and_eq_true, bne_iff_ne, ne_eq] at he
      obtain ⟨he1, he2⟩ := he
      have hb : fn.body.isNone = false := by cases hbb : fn.body <;> simp_all
      have hnm : (fn.name == "runtime.NumGoroutine") = false := by simpa using he2
      intro args w
      simp only [callFunc, Sem.run_bind, run_program, hfn, hnm, hb, Bool.false_eq_true, if_false, Result.andThen_ok, Sem.run_pure]
  rw [eargs]
  refine (AnyQ.slices_SortFunc L k aE zE enc hk h1 cf hO gf #[] b 0 cap l.toArray w eg hcmp hH hlt (by simpa using hsz)).mono ?_
  rintro en w' ⟨rfl, d', n, os, hp, hs, rfl⟩
  refine .inl ⟨g, _, .tuple [], [(rid, some (.arr k (d'.toList.map av)))], rfl, ⟨rfl, d'.toList, ?_, ?_, rfl⟩, Gh.le_refl g, fun _ _ => rfl, .tuple _ _ rfl (fun j hj => absurd hj (Nat.not_lt_zero _)), ?_⟩
  · have h2 := hp.2.2
    have h3 := hp.1
    have h5 : d'.size = l.length := by simpa using h3
    have h6 : d'.toList.Perm (List.take d'.size l) := by simpa [← h3] using h2
    rwa [h5, List.take_length] at h6
  · rw [List.pairwise_iff_getElem]
    intro i j hi hj hij
    have hi' : i < d'.size := by simpa using hi
    have hj' : j < d'.size := by simpa using hj
    have := hs i j (Nat.zero_le _) hij (by rw [← hp.1]; exact hj')
    rw [getElem!_pos d' i hi', getElem!_pos d' j hj'] at this
    simpa using this
  · have hds : d'.size = l.length := by simpa using hp.1
    refine hm.turn (o := .arr k (d'.toList.map av)) hmi hloc rfl rfl ⟨rfl, Nat.le_add_right _ _⟩ (sw_size enc k) (fun b' hb' hlt' => sw_other enc k hb' hlt') (fun r hr => ?_) ?_ ?_
    · obtain ⟨c', t', fz', h2, h3⟩ := hm.rows b r hr
      exact ⟨_, _, _, sw_same enc k h2, by rw [putCells_size]; exact h3⟩
    · intro c9 t9 fz9 h9; exact ⟨_, _, sw_same enc k h9⟩
    · have hget : ∀ i j, i < d'.size → j < k → (putCells id 0 (flatK enc k d') c).getD (i * k + j) undef = (enc d'[i]!).getD j undef := fun i j hi hj => by
        have hlt2 : i * k + j < d'.size * k := by
          have := Nat.mul_le_mul_right k (show i + 1 ≤ d'.size from hi); rw [Nat.add_mul, Nat.one_mul] at this; omega
        have hc2 : i * k + j < c.size := by rw [hds] at hlt2; omega
        have e1 : (i * k + j) / k = i := (blk_iff k i _ (by omega)).1 ⟨by omega, by omega⟩
        have e2 : (i * k + j) % k = j := by rw [Nat.mod_eq_sub_div_mul, e1]; omega
        have h6 : j < (enc d'[i]!).length := by rw [hk]; exact hj
        simp only [putCells, Array.getD_eq_getD_getElem?, Array.getElem?_mapIdx, Array.getElem?_eq_getElem hc2, Option.map_some, Option.getD_some, Nat.zero_le, true_and, Nat.zero_add, Nat.sub_zero, size_flatK, hlt2, if_true, id_eq]
        rw [get_flatK _ _ _ _ hlt2, e1, e2, getElem!_pos (enc d'[i]!) j h6, List.getD_eq_getElem?_getD, List.getElem?_eq_getElem h6, Option.getD_some]
      have hav : ∀ i, i < d'.size → (d'.toList.map av).getD i .undef = av d'[i]! := fun i hi => by
        rw [getElem!_pos d' i hi]
        simp [List.getD_eq_getElem?_getD, List.getElem?_map, hi]
      refine ⟨_, t, fz, sw_same enc k hh, ?_, ?_, ?_, ?_, ?_⟩
      · rw [putCells_size, List.length_map, Array.length_toList, hds]; exact hcs
      · rw [putCells_size]; exact hfz
      · intro i hi
        rw [hav i (by simpa using hi)]; exact hcl _
      · intro j hj
        have hj' : j < d'.size * k := by simpa using hj
        have hk0 : 0 < k := Nat.pos_of_ne_zero fun e => by subst e; simp at hj'
        have hi : j / k < d'.size := (Nat.div_lt_iff_lt_mul hk0).2 hj'
        have := hget (j / k) (j % k) hi (Nat.mod_lt _ hk0)
        rw [Nat.div_add_mod'] at this
        rw [this]
        have h6 : j % k < (enc d'[j / k]!).length := by rw [hk]; exact Nat.mod_lt _ hk0
        rw [List.getD_eq_getElem?_getD, List.getElem?_eq_getElem h6, Option.getD_some]
        exact h1 _ _ (List.getElem_mem h6)
      · intro i j hi hj
        have hi' : i < d'.size := by simpa using hi
        rw [hav i hi', hget i j hi' hj]
        exact (henc g _ j _ hj).2 rfl
end Go.Ab
namespace Go.Proofs
open Go.Shelf
def Tryz.sortT_ren : Go.Shelf.Ren := ⟨fun | 6 => 67 | 15 => 112 | 14 => 111 | 28 => 152 | 29 => 153 | 20 => 144 | 21 => 145 | 22 => 146 | 23 => 147 | 24 => 148 | 25 => 149 | 26 => 150 | 27 => 151 | 46 => 171 | 47 => 172 | 48 => 173 | 49 => 174 | 50 => 175 | 57 => 201 | n => n, fun | 22 => 29 | 24 => 107 | 25 => 109 | 3 => 3 | 39 => 153 | 0 => 0 | 53 => 184 | 55 => 186 | 4 => 4 | 46 => 178 | 45 => 177 | 50 => 142 | 5 => 5 | 9 => 9 | 66 => 197 | 70 => 201 | 76 => 222 | 77 => 223 | n => n, fun | n => n⟩
theorem Tryz.sortT : Go.Proofs.SlLaysF0.n6 Tryz.prog Tryz.sortT_ren := {
  mixed := by kernel_rfl
  f6 := ⟨Tryz.f67.name, by decide, Tryz.func67.trans (congrArg some (by kernel_rfl))⟩
  f14 := ⟨Tryz.f111.name, by decide, Tryz.func111.trans (congrArg some (by kernel_rfl))⟩
  f15 := Tryz.func112.trans (congrArg some (by kernel_rfl))
  f20 := ⟨Tryz.f144.name, by decide, Tryz.func144.trans (congrArg some (by kernel_rfl))⟩
  f21 := ⟨Tryz.f145.name, by decide, Tryz.func145.trans (congrArg some (by kernel_rfl))⟩
  f22 := ⟨Tryz.f146.name, by decide, Tryz.func146.trans (congrArg some (by kernel_rfl))⟩
  f23 := ⟨Tryz.f147.name, by decide, Tryz.func147.trans (congrArg some (by kernel_rfl))⟩
  f24 := ⟨Tryz.f148.name, by decide, Tryz.func148.trans (congrArg some (by kernel_rfl))⟩
  f25 := ⟨Tryz.f149.name, by decide, Tryz.func149.trans (congrArg some (by kernel_rfl))⟩
  f26 := ⟨Tryz.f150.name, by decide, Tryz.func150.trans (congrArg some (by kernel_rfl))⟩
  f27 := ⟨Tryz.f151.name, by decide, Tryz.func151.trans (congrArg some (by kernel_rfl))⟩
  f28 := Tryz.func152.trans (congrArg some (by kernel_rfl))
  f29 := Tryz.func153.trans (congrArg some (by kernel_rfl))
  f46 := ⟨Tryz.f171.name, by decide, Tryz.func171.trans (congrArg some (by kernel_rfl))⟩
  f47 := Tryz.func172.trans (congrArg some (by kernel_rfl))
  f48 := Tryz.func173.trans (congrArg some (by kernel_rfl))
  f49 := ⟨Tryz.f174.name, by decide, Tryz.func174.trans (congrArg some (by kernel_rfl))⟩
  f50 := ⟨Tryz.f175.name, by decide, Tryz.func175.trans (congrArg some (by kernel_rfl))⟩
  f57 := ⟨Tryz.f201.name, by decide, Tryz.func201.trans (congrArg some (by kernel_rfl))⟩
  t0 := Tryz.underlying0
  a0 := Tryz.isAgg0
  z0 := Tryz.sizeOf0
  v0 := Tryz.zeroValue0
  t3 := Tryz.underlying3
  a3 := Tryz.isAgg3
  z3 := Tryz.sizeOf3
  v3 := Tryz.zeroValue3
  t4 := Tryz.underlying4
  a4 := Tryz.isAgg4
  z4 := Tryz.sizeOf4
  v4 := Tryz.zeroValue4
  t5 := Tryz.underlying5
  a5 := Tryz.isAgg5
  z5 := Tryz.sizeOf5
  v5 := Tryz.zeroValue5
  t9 := Tryz.underlying9
  a9 := Tryz.isAgg9
  z9 := Tryz.sizeOf9
  v9 := Tryz.zeroValue9
  t22 := Tryz.underlying29
  a22 := Tryz.isAgg29
  z22 := Tryz.sizeOf29
  v22 := Tryz.zeroValue29
  t25 := Tryz.underlying109
  a25 := Tryz.isAgg109
  z25 := Tryz.sizeOf109
  v25 := Tryz.zeroValue109
  t39 := Tryz.underlying153
  a39 := Tryz.isAgg153
  z39 := Tryz.sizeOf153
  v39 := Tryz.zeroValue153
  t45 := Tryz.underlying177
  a45 := Tryz.isAgg177
  z45 := Tryz.sizeOf177
  v45 := Tryz.zeroValue177
  t46 := Tryz.underlying178
  a46 := Tryz.isAgg178
  z46 := Tryz.sizeOf178
  v46 := Tryz.zeroValue178
  t50 := Tryz.underlying142
  a50 := Tryz.isAgg142
  z50 := Tryz.sizeOf142
  v50 := Tryz.zeroValue142
  t53 := Tryz.underlying184
  a53 := Tryz.isAgg184
  z53 := Tryz.sizeOf184
  v53 := Tryz.zeroValue184
  t55 := Tryz.underlying186
  a55 := Tryz.isAgg186
  z55 := Tryz.sizeOf186
  v55 := Tryz.zeroValue186
  t66 := Tryz.underlying197
  a66 := Tryz.isAgg197
  z66 := Tryz.sizeOf197
  v66 := Tryz.zeroValue197
  t70 := Tryz.underlying201
  a70 := Tryz.isAgg201
  z70 := Tryz.sizeOf201
  v70 := Tryz.zeroValue201
  t76 := Tryz.underlying222
  a76 := Tryz.isAgg222
  z76 := Tryz.sizeOf222
  v76 := Tryz.zeroValue222
  t77 := Tryz.underlying223
  a77 := Tryz.isAgg223
  z77 := Tryz.sizeOf223
  v77 := Tryz.zeroValue223 }
end Go.Proofs
namespace Go.Proofs.YtaecbmbecofijaaGreatDoor
open Go Go.Ab
open Go.Proofs (ltOf)
set_option maxRecDepth 20000
set_option maxHeartbeats 4000000
def cmpI (a b : Int) : Int := if a < b then -1 else if b < a then 1 else 0
def cmpS (a b : Str) : Int := if ltS a b then -1 else if a = b then 0 else 1
def orI : List Int → Int
  | [] => 0
  | a :: l => if a = 0 then orI l else a
def b2i (b : Bool) : Int := if b then 1 else 0
theorem isNaNI_ok (a : Int) (p : Oid) : CallOK Tryz.prog 155 [.int .i64 a] (Oid.under p) ⟨[], .bool false, []⟩ := by
  refine fnOK (n := 6) (rs := [.tmp 2]) Tryz.func155 rfl rfl (by decide) rfl rfl rfl ?_; rintro x rfl hrd hng
  (repeat (first | (refine K_ifT rfl rfl ?_) | (refine K_ifF rfl rfl ?_) | (refine K_ev nmd [] hng (by kernel_rfl) fun hf C S K hC1 hC hS hK => ?_; simp (disch := first | omega | assumption) only [go_sem, ne_eq, not_true_eq_false, decide_false]; refine hK ?_; clear hK hS hC hC1 K S C hf) | ((first | refine zn ?_ | refine ze ?_ | refine zk ?_); with_reducible (constructor; repeat constructor); try refine zl ?_)))
  exact K_ret (done1 rfl)
theorem isNaNS_ok (a : List UInt8) (p : Oid) : CallOK Tryz.prog 154 [.str a] (Oid.under p) ⟨[], .bool false, []⟩ := by
  refine fnOK (n := 6) (rs := [.tmp 2]) Tryz.func154 rfl rfl (by decide) rfl rfl rfl ?_; rintro x rfl hrd hng
  (repeat (first | (refine K_ifT rfl rfl ?_) | (refine K_ifF rfl rfl ?_) | (refine K_ev nmd [] hng (by kernel_rfl) fun hf C S K hC1 hC hS hK => ?_; simp (disch := first | omega | assumption) only [go_sem, ne_eq, not_true_eq_false, decide_false]; refine hK ?_; clear hK hS hC hC1 K S C hf) | ((first | refine zn ?_ | refine ze ?_ | refine zk ?_); with_reducible (constructor; repeat constructor); try refine zl ?_)))
  exact K_ret (done1 rfl)
theorem compareI_ok (a b : Int) (p : Oid) : CallOK Tryz.prog 115 [.int .i64 a, .int .i64 b] (Oid.under p) ⟨[], .int .i64 (cmpI a b), []⟩ := by
  refine fnOK (n := 20) (rs := [.tmp 4]) Tryz.func115 rfl rfl (by decide) rfl rfl rfl ?_; rintro x rfl hrd hng
  (repeat (first | (refine K_ifT rfl rfl ?_) | (refine K_ifF rfl rfl ?_) | (refine K_ev nmd [] hng (by kernel_rfl) fun hf C S K hC1 hC hS hK => ?_; simp (disch := first | omega | assumption) only [go_sem]; (repeat ((first | refine hC1 _ (isNaNI_ok _ _) (by simp (disch := first | omega | assumption) only [go_sem]) ?_); simp (disch := first | omega | assumption) only [go_sem])); refine hK ?_; clear hK hS hC hC1 K S C hf) | ((first | refine zn ?_ | refine ze ?_ | refine zk ?_); with_reducible (constructor; repeat constructor); try refine zl ?_)))
  refine K_ifd rfl rfl (fun hb => ?_) (fun hb => ?_)
  · (repeat (first | (refine K_ifT rfl rfl ?_) | (refine K_ifF rfl rfl ?_) | (refine K_ev nmd [] hng (by kernel_rfl) fun hf C S K hC1 hC hS hK => ?_; simp (disch := first | omega | assumption) only [go_sem]; refine hK ?_; clear hK hS hC hC1 K S C hf) | ((first | refine zn ?_ | refine ze ?_ | refine zk ?_); with_reducible (constructor; repeat constructor); try refine zl ?_)))
    refine K_ret (done1 (congrArg (AV.int .i64) ?_)); simp only [cmpI, if_pos hb]
  · (repeat (first | (refine K_ifT rfl rfl ?_) | (refine K_ifF rfl rfl ?_) | (refine K_ev nmd [] hng (by kernel_rfl) fun hf C S K hC1 hC hS hK => ?_; simp (disch := first | omega | assumption) only [go_sem]; refine hK ?_; clear hK hS hC hC1 K S C hf) | ((first | refine zn ?_ | refine ze ?_ | refine zk ?_); with_reducible (constructor; repeat constructor); try refine zl ?_)))
    refine K_ifd rfl rfl (fun hb => ?_) (fun hb => ?_)
    · (repeat (first | (refine K_ifT rfl rfl ?_) | (refine K_ifF rfl rfl ?_) | (refine K_ev nmd [] hng (by kernel_rfl) fun hf C S K hC1 hC hS hK => ?_; simp (disch := first | omega | assumption) only [go_sem]; refine hK ?_; clear hK hS hC hC1 K S C hf) | ((first | refine zn ?_ | refine ze ?_ | refine zk ?_); with_reducible (constructor; repeat constructor); try refine zl ?_)))
      refine K_ret (done1 (congrArg (AV.int .i64) ?_)); grind [cmpI]
    · (repeat (first | (refine K_ifT rfl rfl ?_) | (refine K_ifF rfl rfl ?_) | (refine K_ev nmd [] hng (by kernel_rfl) fun hf C S K hC1 hC hS hK => ?_; simp (disch := first | omega | assumption) only [go_sem]; refine hK ?_; clear hK hS hC hC1 K S C hf) | ((first | refine zn ?_ | refine ze ?_ | refine zk ?_); with_reducible (constructor; repeat constructor); try refine zl ?_)))
      refine K_ret (done1 (congrArg (AV.int .i64) ?_)); grind [cmpI]
theorem compareS_ok (a b : Str) (p : Oid) : CallOK Tryz.prog 114 [.str a, .str b] (Oid.under p) ⟨[], .int .i64 (cmpS a b), []⟩ := by
  refine fnOK (n := 20) (rs := [.tmp 4]) Tryz.func114 rfl rfl (by decide) rfl rfl rfl ?_; rintro x rfl hrd hng
  (repeat (first | (refine K_ifT rfl rfl ?_) | (refine K_ifF rfl rfl ?_) | (refine K_ev nmd [] hng (by kernel_rfl) fun hf C S K hC1 hC hS hK => ?_; simp (disch := first | omega | assumption) only [go_sem]; (repeat ((first | refine hC1 _ (isNaNS_ok _ _) (by simp (disch := first | omega | assumption) only [go_sem]) ?_); simp (disch := first | omega | assumption) only [go_sem])); refine hK ?_; clear hK hS hC hC1 K S C hf) | ((first | refine zn ?_ | refine ze ?_ | refine zk ?_); with_reducible (constructor; repeat constructor); try refine zl ?_)))
  refine K_if rfl rfl (fun hb => ?_) (fun hb => ?_)
  · (repeat (first | (refine K_ifT rfl rfl ?_) | (refine K_ifF rfl rfl ?_) | (refine K_ev nmd [] hng (by kernel_rfl) fun hf C S K hC1 hC hS hK => ?_; simp (disch := first | omega | assumption) only [go_sem]; refine hK ?_; clear hK hS hC hC1 K S C hf) | ((first | refine zn ?_ | refine ze ?_ | refine zk ?_); with_reducible (constructor; repeat constructor); try refine zl ?_)))
    refine K_ret (done1 (congrArg (AV.int .i64) ?_)); grind [cmpS]
  · (repeat (first | (refine K_ifT rfl rfl ?_) | (refine K_ifF rfl rfl ?_) | (refine K_ev nmd [] hng (by kernel_rfl) fun hf C S K hC1 hC hS hK => ?_; simp (disch := first | omega | assumption) only [go_sem]; refine hK ?_; clear hK hS hC hC1 K S C hf) | ((first | refine zn ?_ | refine ze ?_ | refine zk ?_); with_reducible (constructor; repeat constructor); try refine zl ?_)))
    refine K_if rfl rfl (fun hb => ?_) (fun hb => ?_)
    · (repeat (first | (refine K_ifT rfl rfl ?_) | (refine K_ifF rfl rfl ?_) | (refine K_ev nmd [] hng (by kernel_rfl) fun hf C S K hC1 hC hS hK => ?_; simp (disch := first | omega | assumption) only [go_sem]; refine hK ?_; clear hK hS hC hC1 K S C hf) | ((first | refine zn ?_ | refine ze ?_ | refine zk ?_); with_reducible (constructor; repeat constructor); try refine zl ?_)))
      refine K_ret (done1 (congrArg (AV.int .i64) ?_)); grind [cmpS]
    · (repeat (first | (refine K_ifT rfl rfl ?_) | (refine K_ifF rfl rfl ?_) | (refine K_ev nmd [] hng (by kernel_rfl) fun hf C S K hC1 hC hS hK => ?_; simp (disch := first | omega | assumption) only [go_sem]; refine hK ?_; clear hK hS hC hC1 K S C hf) | ((first | refine zn ?_ | refine ze ?_ | refine zk ?_); with_reducible (constructor; repeat constructor); try refine zl ?_)))
      refine K_ret (done1 (congrArg (AV.int .i64) ?_)); grind [cmpS]
theorem or_ok (l : List Int) (hl : l.length ≤ 9223372036854775807) (p : Oid) : CallOK Tryz.prog 113 [.list 1 (l.map (AV.int .i64))] (Oid.under p) ⟨[], .int .i64 (orI l), []⟩ := by
  refine fnOK (n := 18) (rs := [.tmp 2]) Tryz.func113 rfl rfl (by decide) rfl rfl rfl ?_; rintro x rfl hrd hng
  (repeat (first | (refine K_ifT rfl rfl ?_) | (refine K_ifF rfl rfl ?_) | (refine K_ev nmd [] hng (by kernel_rfl) fun hf C S K hC1 hC hS hK => ?_; simp (disch := first | omega | assumption) only [go_sem]; refine hK ?_; clear hK hS hC hC1 K S C hf) | ((first | refine zn ?_ | refine ze ?_ | refine zk ?_); with_reducible (constructor; repeat constructor); try refine zl ?_)))
  refine K_loop [3, 6, 7, 8] (fun k s' => ∃ (i : Nat) (c : Nat), k = l.length - i ∧ i ≤ l.length ∧ orI (l.drop i) = orI l ∧ s' = ⟨[(3, .int .i64 0), (6, .list 1 (l.map (AV.int .i64))), (7, .int .i64 l.length), (8, .int .i64 i)], Mem.of [], c, []⟩) _ ⟨0, _, rfl, Nat.zero_le _, rfl, rfl⟩ ?_
  rintro k s' ⟨i, c, rfl, hi, hno, rfl⟩
  (repeat (first | (refine K_ifT rfl rfl ?_) | (refine K_ifF rfl rfl ?_) | (refine K_ev nmd [] hng (by kernel_rfl) fun hf C S K hC1 hC hS hK => ?_; simp (disch := first | omega | assumption) only [go_sem]; refine hK ?_; clear hK hS hC hC1 K S C hf) | ((first | refine zn ?_ | refine ze ?_ | refine zk ?_); with_reducible (constructor; repeat constructor); try refine zl ?_)))
  refine K_ifd rfl rfl (fun hb => ?_) (fun hb => ?_)
  · have hd1 := drop_cons (l := l) (i := i) (by omega)
    rw [hd1, orI] at hno
    clear hd1
    (repeat (first | (refine K_ifT rfl rfl ?_) | (refine K_ifF rfl rfl ?_) | (refine K_ev nmd [] hng (by kernel_rfl) fun hf C S K hC1 hC hS hK => ?_; simp (disch := first | omega | assumption) only [go_sem]; refine hK ?_; clear hK hS hC hC1 K S C hf) | ((first | refine zn ?_ | refine ze ?_ | refine zk ?_); with_reducible (constructor; repeat constructor); try refine zl ?_)))
    refine K_ifd rfl rfl (fun hb => ?_) (fun hb => ?_)
    · (repeat (first | (refine K_ifT rfl rfl ?_) | (refine K_ifF rfl rfl ?_) | (refine K_ev nmd [] hng (by kernel_rfl) fun hf C S K hC1 hC hS hK => ?_; simp (disch := first | omega | assumption) only [go_sem]; refine hK ?_; clear hK hS hC hC1 K S C hf) | ((first | refine zn ?_ | refine ze ?_ | refine zk ?_); with_reducible (constructor; repeat constructor); try refine zl ?_)))
      refine K_ret (done1 (congrArg (AV.int .i64) ?_)); rw [← hno, if_neg hb]
    · (repeat (first | (refine K_ifT rfl rfl ?_) | (refine K_ifF rfl rfl ?_) | (refine K_ev nmd [] hng (by kernel_rfl) fun hf C S K hC1 hC hS hK => ?_; simp (disch := first | omega | assumption) only [go_sem]; refine hK ?_; clear hK hS hC hC1 K S C hf) | ((first | refine zn ?_ | refine ze ?_ | refine zk ?_); with_reducible (constructor; repeat constructor); try refine zl ?_)))
      have hb' : l.getD i default = 0 := Classical.not_not.1 hb
      refine ⟨_, _, ?_, fun _ _ h => h, i + 1, _, rfl, by omega, ?_, rfl⟩
      · omega
      · rw [← hno, if_pos hb']
  · (repeat (first | (refine K_ifT rfl rfl ?_) | (refine K_ifF rfl rfl ?_) | (refine K_ev nmd [] hng (by kernel_rfl) fun hf C S K hC1 hC hS hK => ?_; simp (disch := first | omega | assumption) only [go_sem]; refine hK ?_; clear hK hS hC hC1 K S C hf) | ((first | refine zn ?_ | refine ze ?_ | refine zk ?_); with_reducible (constructor; repeat constructor); try refine zl ?_)))
    refine K_ret (done1 (congrArg (AV.int .i64) ?_))
    rw [← hno, List.drop_eq_nil_of_le (by omega)]; rfl
theorem order1_ok (b : Bool) (p : Oid) : CallOK Tryz.prog 116 [.bool b] (Oid.under p) ⟨[], .int .i64 (b2i b), []⟩ := by
  refine fnOK (n := 4) (rs := [.tmp 2]) Tryz.func116 rfl rfl (by decide) rfl rfl rfl ?_; rintro x rfl hrd hng
  (repeat (first | (refine K_ifT rfl rfl ?_) | (refine K_ifF rfl rfl ?_) | (refine K_ev nmd [] hng (by kernel_rfl) fun hf C S K hC1 hC hS hK => ?_; simp (disch := first | omega | assumption) only [go_sem]; refine hK ?_; clear hK hS hC hC1 K S C hf) | ((first | refine zn ?_ | refine ze ?_ | refine zk ?_); with_reducible (constructor; repeat constructor); try refine zl ?_)))
  refine K_if rfl rfl (fun hb => ?_) (fun hb => ?_)
  · subst hb; (repeat (first | (refine K_ifT rfl rfl ?_) | (refine K_ifF rfl rfl ?_) | (refine K_ev nmd [] hng (by kernel_rfl) fun hf C S K hC1 hC hS hK => ?_; simp (disch := first | omega | assumption) only [go_sem]; refine hK ?_; clear hK hS hC hC1 K S C hf) | ((first | refine zn ?_ | refine ze ?_ | refine zk ?_); with_reducible (constructor; repeat constructor); try refine zl ?_)))
    exact K_ret (done1 rfl)
  · subst hb; (repeat (first | (refine K_ifT rfl rfl ?_) | (refine K_ifF rfl rfl ?_) | (refine K_ev nmd [] hng (by kernel_rfl) fun hf C S K hC1 hC hS hK => ?_; simp (disch := first | omega | assumption) only [go_sem]; refine hK ?_; clear hK hS hC hC1 K S C hf) | ((first | refine zn ?_ | refine ze ?_ | refine zk ?_); with_reducible (constructor; repeat constructor); try refine zl ?_)))
    exact K_ret (done1 rfl)
theorem cmpS_lt (a b : Str) : cmpS a b < 0 ↔ ltS a b = true := by
  simp only [cmpS]; split
  · rename_i h; exact ⟨fun _ => h, fun _ => by decide⟩
  · rename_i h
    refine ⟨fun h2 => ?_, fun h2 => absurd h2 h⟩
    split at h2 <;> simp at h2
theorem cmpS_eq (a b : Str) : cmpS a b = 0 ↔ a = b := by
  simp only [cmpS]; split
  · rename_i h
    refine ⟨fun h => by simp at h, fun e => ?_⟩
    subst e; rw [ltS_irr] at h; cases h
  · split
    · rename_i e; exact ⟨fun _ => e, fun _ => rfl⟩
    · rename_i e; exact ⟨fun h => absurd h (by decide), fun h => absurd h e⟩
abbrev Tch := (Str × Bool) × Str
instance : Inhabited Tch := ⟨(([], false), [])⟩
def rankF (x y : Tch) : Int := orI [cmpS x.1.1 y.1.1, cmpI (b2i x.1.2) (b2i y.1.2)]
theorem rank_lt (x y : Tch) : rankF x y < 0 ↔ ltF x.1 y.1 := by
  simp only [rankF, orI, ltF, ltB, ← cmpS_lt]
  have he := cmpS_eq x.1.1 y.1.1
  by_cases h : cmpS x.1.1 y.1.1 = 0
  · have := he.1 h
    have h0 : cmpS y.1.1 y.1.1 = 0 := (cmpS_eq _ _).2 rfl
    rw [this]
    cases x.1.2 <;> cases y.1.2 <;> simp [cmpI, b2i, h0]
  · have hne : ¬ x.1.1 = y.1.1 := fun e => h (he.2 e)
    simp [h, hne]
theorem rank_ok (x y : Tch) (p : Oid) : CallOK Tryz.prog 68 [tchAV x, tchAV y] (Oid.under p) ⟨[], .int .i64 (rankF x y), []⟩ := by
  have h5 := fun p => or_ok [cmpS x.1.1 y.1.1, cmpI (b2i x.1.2) (b2i y.1.2)] (by simp) p
  simp only [List.map_cons, List.map_nil] at h5
  simp only [tchAV, rankF]
  refine fnOK (n := 19) (rs := [.tmp 4]) Tryz.func68 rfl rfl (by decide) rfl rfl rfl ?_; rintro x rfl hrd hng
  (try ((first | refine zn ?_ | refine ze ?_ | refine zk ?_); with_reducible (constructor; repeat constructor)); try refine zl ?_)
  refine K_ev nmd [] hng (by kernel_rfl) fun hf C S K hC1 hC hS hK => ?_; simp (disch := first | omega | assumption) only [go_sem]
  refine hK ?_; clear hK hS hC hC1 K S C hf
  (try ((first | refine zn ?_ | refine ze ?_ | refine zk ?_); with_reducible (constructor; repeat constructor)); try refine zl ?_)
  refine K_evd nmd [] [(4, 6), (4, 9), (7, 9)] mixed hng (by kernel_rfl) [4] fun hf C S K hC hS hK => ?_; simp (disch := first | omega | assumption) only [go_sem]
  (repeat ((first | refine hC _ (compareS_ok _ _ _) (by simp (disch := first | omega | assumption) only [go_sem]) ?_ | refine hC _ (order1_ok _ _) (by simp (disch := first | omega | assumption) only [go_sem]) ?_ | refine hC _ (compareI_ok _ _ _) (by simp (disch := first | omega | assumption) only [go_sem]) ?_ | refine hC _ (h5 _) (by simp (disch := first | omega | assumption) only [go_sem]) ?_); simp (disch := first | omega | assumption) only [go_sem]))
  (first | refine hK (dynN_quiet rfl) ?_ | refine hK (by simp (disch := first | omega | assumption) only [go_sem, List.reverse_cons, List.reverse_nil, ne_eq, not_false_eq_true, implies_true]) ?_); clear hK hS hC K S C hf
  (repeat (first | (refine K_ifT rfl rfl ?_) | (refine K_ifF rfl rfl ?_) | (refine K_ev nmd [] hng (by kernel_rfl) fun hf C S K hC1 hC hS hK => ?_; simp (disch := first | omega | assumption) only [go_sem]; refine hK ?_; clear hK hS hC hC1 K S C hf) | ((first | refine zn ?_ | refine ze ?_ | refine zk ?_); with_reducible (constructor; repeat constructor); try refine zl ?_)))
  exact K_ret (done1 rfl)
theorem rank_swo : Go.Sort.SWO (ltOf rankF) := by
  have key : ∀ x y, ltOf rankF x y = true ↔ ltF x.1 y.1 := fun x y => by rw [ltOf, decide_eq_true_eq, rank_lt]
  have key2 : ∀ x y, ltOf rankF x y = false ↔ ¬ ltF x.1 y.1 := fun x y => by rw [← key, Bool.not_eq_true]
  refine ⟨fun x => (key2 x x).2 (ordF.irr _), fun x y z h1 h2 => (key x z).2 (ordF.tr _ _ _ ((key x y).1 h1) ((key y z).1 h2)), fun x y z h1 h2 => (key2 x z).2 fun h => ?_⟩
  have h1 := (key2 x y).1 h1
  have h2 := (key2 y z).1 h2
  by_cases e : x.1 = y.1
  · rw [e] at h; exact h2 h
  · exact h2 (ordF.tr _ _ _ (ordF.tot _ _ h1 e) h)
/-- What is sorted by rank is the list in order. -/
theorem rank_sorted {l R : List Tch} (hp : l.Perm R) (hR : SortG ltF R) (hs : l.Pairwise fun x y => ltOf rankF y x = false) : l = R := by
  have hnd : (l.map (·.1)).Nodup := ((hp.map (·.1)).nodup_iff).2 (hR.nodup ordF)
  refine sortG_one ordF hp ?_ hR
  rw [List.nodup_iff_pairwise_ne, List.pairwise_map] at hnd
  refine (hs.and hnd).imp ?_
  rintro a b ⟨h1, h2⟩
  have h3 : ¬ ltF b.1 a.1 := fun h => by rw [ltOf, decide_eq_false_iff_not, rank_lt] at h1; exact h1 h
  exact ordF.tot _ _ h3 fun e => h2 e.symm
def encT3 (h : Tch) : List Value := [.string ⟨h.1.1.toArray⟩, .bool h.1.2, .string ⟨h.2.toArray⟩]
theorem encT3_iff (g : Gh) (h : Tch) (j : Nat) (v : Value) (hj : j < 3) : VR g ((tchAV h).cells.getD j .undef) v ↔ v = (encT3 h).getD j undef := by
  rcases j with _ | _ | _ | j
  · exact str_enc
  · exact ⟨fun k => VR.bool_inv k, fun k => by rw [k]; exact .bool _⟩
  · exact str_enc
  · omega
theorem sort_tch (l : List Tch) (hl : ¬ l = []) (hsz : l.length < 4611686018427387904) (id p : Oid) :
    CallND Tryz.prog 67 [.sl id 3 l.length, .fn (.func 68) [] []] (Oid.under p) [(id, .arr 3 (l.map tchAV))] (fun v u => v = .tuple [] ∧ ∃ l' : List Tch, l'.Perm l ∧ l'.Pairwise (fun x y => ltOf rankF y x = false) ∧ u = [(id, some (.arr 3 (l'.map tchAV)))]) (fun _ _ => False) :=
  sort_ok (ρ := Tryz.sortT_ren) Tryz.sortT 3 Tryz.isAgg107 Tryz.sizeOf107 encT3 tchAV (fun _ => rfl) (fun x v hv => by
      simp only [encT3, List.mem_cons, List.not_mem_nil, or_false] at hv
      rcases hv with rfl | rfl | rfl <;> rfl) (fun _ => rfl)
    (fun g x => .agg _ _ rfl fun j hj => by
      have hj' : j < 3 := hj
      have := (encT3_iff g x j _ hj').2 rfl
      simpa [List.getD_eq_getElem?_getD, Array.getD_eq_getD_getElem?, tchAV, AV.cells] using this) encT3_iff rankF rank_swo 68 (fun x y p => rank_ok x y p) l hl hsz id p (by kernel_rfl)
end Go.Proofs.YtaecbmbecofijaaGreatDoor
namespace Go.Ab
/-- A block: its objects' names, and what lies under them. -/
abbrev Bk := List Oid × (Oid → AObj)
def bk (B : Bk) : List (Oid × AObj) := B.1.map fun i => (i, B.2 i)
/-- All of a block's objects are exchanged. -/
def sb (N : List Oid) (f : Oid → AObj) : List (Oid × Option AObj) := N.map fun i => (i, some (f i))
def Mem.blk (A : List (Oid × AObj)) (Bs : List Bk) : Mem := Mem.of (A ++ (Bs.map bk).flatten)
def Mem.cons (a : Oid × AObj) (m : Mem) : Mem := m.set a.1 (some a.2)
/-- Nothing of it lies under p. -/
def Old0 (p : Oid) (N : List Oid) : Prop := ∀ i ∈ N, ¬ Oid.under p i
def DJ (N M : List Oid) : Prop := ∀ i ∈ N, i ∉ M
theorem Old0.sub {p : Oid} {N : List Oid} (h : Old0 p N) (c i : Nat) : Old0 (.sub c i p) N := fun j hj hu => h j hj (Oid.under_sub hu)
theorem Old0.mem {p : Oid} {N : List Oid} (h : Old0 p N) {c i : Nat} : Oid.sub c i p ∉ N := fun hm => h _ hm (Oid.under_sub (Oid.under_refl _))
theorem Old0.mem2 {p : Oid} {N : List Oid} (h : Old0 p N) {c i c' i' : Nat} : Oid.sub c' i' (.sub c i p) ∉ N := fun hm => h _ hm (Oid.under_sub (Oid.under_sub (Oid.under_refl _)))
/-- What was made ahead of count c. -/
def OldC (p : Oid) (c : Nat) (N : List Oid) : Prop := ∀ i ∈ N, ¬ Young p c i
theorem OldC.sub {p : Oid} {c0 : Nat} {N : List Oid} (h : OldC p c0 N) {c : Nat} (hc : c0 ≤ c) (i : Nat) : Old0 (.sub c i p) N := fun j hj hu => h j hj ⟨c, i, hc, hu⟩
theorem OldC.mono {p : Oid} {c0 c : Nat} {N : List Oid} (h : OldC p c0 N) (hc : c0 ≤ c) : OldC p c N := fun j hj hu => h j hj (hu.mono hc)
theorem OldC.mem {p : Oid} {c0 : Nat} {N : List Oid} (h : OldC p c0 N) {c i : Nat} (hc : c0 ≤ c) : Oid.sub c i p ∉ N := fun hm => h _ hm ⟨c, i, hc, Oid.under_refl _⟩
theorem Old0.C {p : Oid} {N : List Oid} (h : Old0 p N) (c : Nat) : OldC p c N := fun j hj hu => h j hj hu.under
theorem Mem.blk_at (q : Oid × AObj) (A : List (Oid × AObj)) (Bs : List Bk) (i : Oid) : Mem.blk (q :: A) Bs i = if i = q.1 then some q.2 else Mem.blk A Bs i := rfl
theorem blk_upd_nil (A : List (Oid × AObj)) (Bs : List Bk) : (Mem.blk A Bs).upds [] = Mem.blk A Bs := rfl
theorem of_putL_app (i : Oid) (o : AObj) (F : List (Oid × AObj)) : ∀ A, (Mem.of (A ++ F)).set i (some o) = Mem.of (putL i (some o) A ++ F)
  | [] => rfl
  | q :: A => by
    have ih := of_putL_app i o F A
    simp only [putL]
    by_cases h : i = q.1
    · rw [if_pos h]; funext k; simp only [List.cons_append, Mem.of, Mem.set]; subst h; split <;> rfl
    · rw [if_neg h]; funext k; simp only [List.cons_append, Mem.of]; rw [← ih]; simp only [Mem.set]
      by_cases h1 : k = i
      · rw [if_pos h1, if_pos h1, if_neg (fun h2 => h (h1.symm.trans h2))]
      · rw [if_neg h1, if_neg h1]
theorem blk_upd_some (A : List (Oid × AObj)) (Bs : List Bk) (i : Oid) (o : AObj) (u : List (Oid × Option AObj)) : (Mem.blk A Bs).upds ((i, some o) :: u) = (Mem.blk (putL i (some o) A) Bs).upds u := by
  show ((Mem.of _).set i (some o)).upds u = _
  rw [of_putL_app]; rfl
/-- A name is struck out of a block. -/
def del (i : Oid) (B : Bk) : Bk := (B.1.filter fun j => decide (¬ j = i), B.2)
def delB (i : Oid) : List Bk → List Bk
  | [] => []
  | B :: Bs => del i B :: delB i Bs
theorem delB_nil (i : Oid) : delB i [] = [] := rfl
theorem delB_cons (i : Oid) (B : Bk) (Bs : List Bk) : delB i (B :: Bs) = del i B :: delB i Bs := rfl
/-! ### a block is exchanged -/
theorem upds_at (N : List Oid) (f : Oid → AObj) (i : Oid) : ∀ m : Mem, (m.upds (sb N f)) i = if i ∈ N then some (f i) else m i := by
  induction N with
  | nil => intro m; simp [sb, Mem.upds]
  | cons j N ih =>
    intro m
    show ((m.set j (some (f j))).upds (sb N f)) i = _
    rw [ih]
    by_cases h1 : i ∈ N
    · rw [if_pos h1, if_pos (List.mem_cons_of_mem _ h1)]
    · rw [if_neg h1]
      by_cases h2 : i = j
      · subst h2; rw [if_pos List.mem_cons_self]; simp [Mem.set]
      · rw [if_neg (by simp [h1, h2])]; simp [Mem.set, h2]
theorem of_bk (N : List Oid) (f : Oid → AObj) (F : List (Oid × AObj)) (i : Oid) : Mem.of (bk (N, f) ++ F) i = if i ∈ N then some (f i) else Mem.of F i := by
  induction N with
  | nil => simp [bk]
  | cons j N ih =>
    show (Mem.of (bk (N, f) ++ F)).set j (some (f j)) i = _
    simp only [Mem.set]
    by_cases h2 : i = j
    · subst h2; rw [if_pos rfl, if_pos List.mem_cons_self]
    · rw [if_neg h2, ih]
      by_cases h1 : i ∈ N
      · rw [if_pos h1, if_pos (List.mem_cons_of_mem _ h1)]
      · rw [if_neg h1, if_neg (by simp [h1, h2])]
theorem blk_nil_at (N : List Oid) (f : Oid → AObj) (Bs : List Bk) (i : Oid) : Mem.blk [] ((N, f) :: Bs) i = if i ∈ N then some (f i) else Mem.blk [] Bs i := of_bk N f _ i
theorem blk_sb0 (N : List Oid) (f g : Oid → AObj) (Bs : List Bk) : (Mem.blk [] ((N, f) :: Bs)).upds (sb N g) = Mem.blk [] ((N, g) :: Bs) := by
  funext i
  rw [upds_at, blk_nil_at, blk_nil_at]
  split <;> rfl
theorem blk_sb1 {M N : List Oid} (h : DJ M N) (e f g : Oid → AObj) (Bs : List Bk) : (Mem.blk [] ((M, e) :: (N, f) :: Bs)).upds (sb N g) = Mem.blk [] ((M, e) :: (N, g) :: Bs) := by
  funext i
  rw [upds_at, blk_nil_at, blk_nil_at, blk_nil_at, blk_nil_at]
  by_cases h1 : i ∈ N
  · rw [if_pos h1, if_neg (fun h2 => h i h2 h1), if_pos h1]
  · simp only [if_neg h1]
theorem blk_sbA {q : Oid × AObj} {A : List (Oid × AObj)} {Bs : List Bk} {N : List Oid} {g : Oid → AObj} (h : q.1 ∉ N) : (Mem.blk (q :: A) Bs).upds (sb N g) = Mem.cons q ((Mem.blk A Bs).upds (sb N g)) := by
  funext i
  rw [upds_at]
  simp only [Mem.cons, Mem.set, Mem.blk_at]
  rw [upds_at]
  by_cases h1 : i = q.1
  · subst h1; rw [if_neg h, if_pos rfl, if_pos rfl]
  · rw [if_neg h1, if_neg h1]
theorem blk_sbS {c k : Nat} {p : Oid} {o : AObj} {A : List (Oid × AObj)} {Bs : List Bk} {N : List Oid} {g : Oid → AObj} (h : Old0 p N) : (Mem.blk ((.sub c k p, o) :: A) Bs).upds (sb N g) = Mem.cons (.sub c k p, o) ((Mem.blk A Bs).upds (sb N g)) := blk_sbA h.mem
/-! ### what a call asks -/
theorem mem_bk {B : Bk} {q : Oid × AObj} : q ∈ bk B ↔ q.1 ∈ B.1 ∧ q.2 = B.2 q.1 := by
  simp only [bk, List.mem_map]
  constructor
  · rintro ⟨i, h1, rfl⟩; exact ⟨h1, rfl⟩
  · rintro ⟨h1, h2⟩; exact ⟨q.1, h1, by rw [← h2]⟩
theorem need_0 (N : List Oid) (f : Oid → AObj) (Bs : List Bk) : (∀ q, q ∈ bk (N, f) → Mem.blk [] ((N, f) :: Bs) q.1 = some q.2) = True := eq_true fun q hq => by
  obtain ⟨h1, h2⟩ := mem_bk.1 hq
  rw [blk_nil_at, if_pos h1, h2]
theorem need_1 {M N : List Oid} (h : DJ M N) (e f : Oid → AObj) (Bs : List Bk) : (∀ q, q ∈ bk (N, f) → Mem.blk [] ((M, e) :: (N, f) :: Bs) q.1 = some q.2) = True := eq_true fun q hq => by
  obtain ⟨h1, h2⟩ := mem_bk.1 hq
  rw [blk_nil_at, if_neg (fun h3 => h _ h3 h1), blk_nil_at, if_pos h1, h2]
theorem need_A {a : Oid × AObj} {A : List (Oid × AObj)} {Bs : List Bk} {N : List Oid} {f : Oid → AObj} (h : a.1 ∉ N) : (∀ q, q ∈ bk (N, f) → Mem.blk (a :: A) Bs q.1 = some q.2) = (∀ q, q ∈ bk (N, f) → Mem.blk A Bs q.1 = some q.2) := by
  refine propext ⟨fun k q hq => ?_, fun k q hq => ?_⟩
  · have := k q hq
    rwa [Mem.blk_at, if_neg (fun e : q.1 = a.1 => h (e ▸ (mem_bk.1 hq).1))] at this
  · rw [Mem.blk_at, if_neg (fun e : q.1 = a.1 => h (e ▸ (mem_bk.1 hq).1))]; exact k q hq
theorem need_S {c k : Nat} {p : Oid} {o : AObj} {A : List (Oid × AObj)} {Bs : List Bk} {N : List Oid} {f : Oid → AObj} (h : Old0 p N) : (∀ q, q ∈ bk (N, f) → Mem.blk ((.sub c k p, o) :: A) Bs q.1 = some q.2) = (∀ q, q ∈ bk (N, f) → Mem.blk A Bs q.1 = some q.2) := need_A h.mem
/-! ### the beginning and the end of a walk -/
theorem blk_s0 (B : Bk) : Mem.of (bk B) = Mem.blk [] [B] := by simp [Mem.blk]
theorem blk_of (A : List (Oid × AObj)) : Mem.of A = Mem.blk A [] := by simp [Mem.blk]
/-- What was asked, changed as it is told, is there. -/
theorem upd_blk {A0 : List (Oid × AObj)} {U : List (Oid × Option AObj)} {N : List Oid} {f g : Oid → AObj} {m : Mem} (h2 : ∀ q, q ∈ U → ∀ o, q.2 = some o → m q.1 = some o) (h3 : ∀ q, q ∈ A0 → (∀ r, r ∈ U → ¬ r.1 = q.1) → m q.1 = some q.2)
    (h4 : ∀ q, q ∈ bk (N, g) → m q.1 = some q.2) (i : Oid) (o : AObj) (h : ((Mem.of (A0 ++ bk (N, f))).upds (U ++ sb N g)) i = some o) : m i = some o := by
  rw [upds_append, upds_at] at h
  by_cases h1 : i ∈ N
  · rw [if_pos h1] at h
    rw [← h]; exact h4 (i, g i) (mem_bk.2 ⟨h1, rfl⟩)
  · rw [if_neg h1] at h
    by_cases hk : ∃ q ∈ U, q.1 = i
    · obtain ⟨q', k1, k2, k3⟩ := upds_mem (m := Mem.of (A0 ++ bk (N, f))) hk
      rw [k3] at h
      rw [← k2]; exact h2 q' k1 o h
    · rw [upds_nokey fun q hq e => hk ⟨q, hq, e⟩] at h
      obtain ⟨q, k1, rfl, rfl⟩ := Mem.of_mem h
      rcases List.mem_append.1 k1 with k1 | k1
      · exact h3 q k1 fun r hr e => hk ⟨r, hr, e⟩
      · exact absurd (mem_bk.1 k1).1 h1
section
variable {P : Program} {rs : List ResultVar} {fr : List (Nat × AV)} {m : Mem} {c : Nat} {val : AV} {N : List Oid} {f g : Oid → AObj} {Rp : AV → List (Oid × Option AObj) → Prop}
theorem done_b0 (h1 : retM P m fr rs = some val) (h4 : ∀ q, q ∈ bk (N, g) → m q.1 = some q.2) : DoneN P rs (bk (N, f)) (fun v u => v = val ∧ u = sb N g) Rp .ret ⟨fr, m, c, []⟩ :=
  done_ret val _ h1 ⟨rfl, rfl⟩ (upd_blk (A0 := []) (U := []) (fun _ h => by cases h) (fun _ h => by cases h) h4)
end
/-! ### a contract in the words of a block -/
theorem CallOK.toBk {P : Program} [Laid P] {f : FuncId} {xs : List AV} {sp : Oid → Prop} {L0 : List (Oid × AObj)} {v : AV} {U : List (Oid × Option AObj)} {N : List Oid} {F G : Oid → AObj}
    (h : CallOK P f xs sp ⟨L0, v, U⟩) (hL : ∀ q, q ∈ L0 → q ∈ bk (N, F)) (hU : ∀ q, q ∈ U → q.1 ∈ N) (hf : ∀ i, i ∈ N → ((Mem.of (bk (N, F))).upds U) i = some (G i)) : CallOK P f xs sp ⟨bk (N, F), v, sb N G⟩ :=
  ⟨h.enters, fun x g args w m hm hn ha hs hx => by
    refine (h.calls x g args w m hm (fun q hq => hn q (hL q hq)) ha hs hx).mono fun en w' ⟨g', v', h1, h2, h3, h4, h5⟩ => ⟨g', v', h1, h2, h3, h4, ?_⟩
    have : m.upds U = m.upds (sb N G) := by
      funext i
      rw [upds_at]
      by_cases hi : i ∈ N
      · rw [if_pos hi, ← hf i hi]
        refine upds_congr ?_
        rw [hn (i, F i) (mem_bk.2 ⟨hi, rfl⟩)]
        have := of_bk N F [] i
        rw [List.append_nil, if_pos hi] at this
        exact this.symm
      · rw [if_neg hi, upds_nokey fun q hq (e : q.1 = i) => hi (e ▸ hU q hq)]
    simp only at h5 ⊢
    rw [← this]; exact h5⟩
def setF (F : Oid → AObj) (i : Oid) (o : AObj) : Oid → AObj := fun j => if j = i then o else F j
theorem setF_at (F : Oid → AObj) (i : Oid) (o : AObj) (j : Oid) : setF F i o j = if j = i then o else F j := rfl
theorem of_bk0 {N : List Oid} {F : Oid → AObj} {i : Oid} (h : i ∈ N) : Mem.of (bk (N, F)) i = some (F i) := by
  have := of_bk N F [] i
  rwa [List.append_nil, if_pos h] at this
theorem bk2 (F : Oid → AObj) (a b : Oid) : bk ([a, b], F) = [(a, F a), (b, F b)] := rfl
theorem bk6 (F : Oid → AObj) (a b c d e f : Oid) : bk ([a, b, c, d, e, f], F) = [(a, F a), (b, F b), (c, F c), (d, F d), (e, F e), (f, F f)] := rfl
theorem bk1 (F : Oid → AObj) (a : Oid) : bk ([a], F) = [(a, F a)] := rfl
/-- One object's contract as a block's. -/
theorem CallOK.one {P : Program} [Laid P] {f : FuncId} {xs : List AV} {sp : Oid → Prop} {r : Oid} {o o' : AObj} {v : AV} {F : Oid → AObj} (h : CallOK P f xs sp ⟨[(r, o)], v, [(r, some o')]⟩) (hF : F r = o) : CallOK P f xs sp ⟨bk ([r], F), v, sb [r] (setF F r o')⟩ := by
  refine h.toBk ?_ (fun q hq => by rw [List.mem_singleton.1 hq]; simp) fun i hi => ?_
  · rw [bk1, hF]; exact fun q hq => hq
  · rw [List.mem_singleton.1 hi]
    show ((Mem.of _).set r (some o')) r = _
    simp [Mem.set, setF]
/-- A block is exchanged for one with other names. -/
def sbx (N : List Oid) (f : Oid → AObj) : List (Oid × Option AObj) := sb N f
theorem CallOK.toBx {P : Program} [Laid P] {f : FuncId} {xs : List AV} {sp : Oid → Prop} {L0 : List (Oid × AObj)} {v : AV} {U : List (Oid × Option AObj)} {N N' : List Oid} {F G : Oid → AObj}
    (h : CallOK P f xs sp ⟨L0, v, U⟩) (hL : ∀ q, q ∈ L0 → q ∈ bk (N, F)) (hU : ∀ q, q ∈ U → q.1 ∈ N') (hN : ∀ i, i ∈ N' → i ∈ N ∨ ∃ q ∈ U, q.1 = i) (hf : ∀ i, i ∈ N' → ((Mem.of (bk (N, F))).upds U) i = some (G i)) : CallOK P f xs sp ⟨bk (N, F), v, sbx N' G⟩ :=
  ⟨h.enters, fun x g args w m hm hn ha hs hx => by
    refine (h.calls x g args w m hm (fun q hq => hn q (hL q hq)) ha hs hx).mono fun en w' ⟨g', v', h1, h2, h3, h4, h5⟩ => ⟨g', v', h1, h2, h3, h4, ?_⟩
    have : m.upds U = m.upds (sbx N' G) := by
      funext i
      unfold sbx
      rw [upds_at]
      by_cases hi : i ∈ N'
      · rw [if_pos hi, ← hf i hi]
        by_cases hk : ∃ q ∈ U, q.1 = i
        · exact upds_key hk
        · refine upds_congr ?_
          have hiN := (hN i hi).resolve_right hk
          rw [hn (i, F i) (mem_bk.2 ⟨hiN, rfl⟩), of_bk0 hiN]
      · rw [if_neg hi, upds_nokey fun q hq (e : q.1 = i) => hi (e ▸ hU q hq)]
    simp only at h5 ⊢
    rw [← this]; exact h5⟩
theorem blk_exch {A : List (Oid × AObj)} {N N' : List Oid} {F G : Oid → AObj} {Bs : List Bk} (hA : ∀ a ∈ A, a.1 ∉ N') (hB : ∀ B ∈ Bs, DJ N B.1) : ∀ i o, Mem.blk A ((N', G) :: Bs) i = some o → ((Mem.blk A ((N, F) :: Bs)).upds (sbx N' G)) i = some o := by
  intro i o h
  unfold sbx
  rw [upds_at]
  have hBs : ∀ Cs : List Bk, (∀ B ∈ Cs, DJ N B.1) → ∀ o, Mem.blk [] Cs i = some o → i ∉ N := by
    intro Cs
    induction Cs with
    | nil => intro _ o h; cases h
    | cons C Cs ih =>
      obtain ⟨M, E⟩ := C
      intro hC o h
      rw [blk_nil_at] at h
      split at h
      · rename_i hm; exact fun hi => hC (M, E) List.mem_cons_self i hi hm
      · exact ih (fun B hB => hC B (List.mem_cons_of_mem _ hB)) o h
  induction A with
  | nil =>
    rw [blk_nil_at] at h ⊢
    split at h
    · rename_i hi; rw [if_pos hi]; exact h
    · rename_i hi; rw [if_neg hi, if_neg (hBs Bs hB o h)]; exact h
  | cons a A ih =>
    rw [Mem.blk_at] at h ⊢
    split at h
    · rename_i e
      rw [if_neg (by rw [e]; exact hA a List.mem_cons_self), if_pos e]; exact h
    · rename_i e
      have := ih (fun a ha => hA a (List.mem_cons_of_mem _ ha)) h
      rw [if_neg e]; exact this
theorem K_exch {P : Program} [Laid P] {x : Ctx} {n : Nat} {a : Code} {Q : AX → AS → Prop} {fr : List (Nat × AV)} {c : Nat} {ds : List AD} {A : List (Oid × AObj)} {N N' : List Oid} {F G : Oid → AObj} {Bs : List Bk} (hA : ∀ a ∈ A, a.1 ∉ N') (hB : ∀ B ∈ Bs, DJ N B.1)
    (h : T P x n a ⟨fr, Mem.blk A ((N', G) :: Bs), c, ds⟩ Q) : T P x n a ⟨fr, (Mem.blk A ((N, F) :: Bs)).upds (sbx N' G), c, ds⟩ Q := K_drop _ (blk_exch hA hB) h
attribute [go_sem] Mem.blk_at blk_upd_nil blk_upd_some delB_nil delB_cons blk_sb0 blk_sb1 blk_sbS need_0 need_1 need_S
end Go.Ab
