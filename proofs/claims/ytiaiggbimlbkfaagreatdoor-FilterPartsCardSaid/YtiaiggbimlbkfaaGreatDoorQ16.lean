/- Filter: what grep asks of a line, walked in the model's own words. -/
import Derived.Test.YtiaiggbimlbkfaaGreatDoorQ6
import Derived.Test.YtiaiggbimlbkfaaGreatDoorDel
import Derived.Shelf.SlicesE.DeleteFunc
import Derived.WalkKit
import Derived.BigQuiet
import Derived.Deep.QuietTactic
import Derived.Laws.Externs
import Derived.Laws.BitsLemmas
import Derived.Tactics
import Derived.Tactics2
import Derived.KernelRfl
set_option linter.unusedVariables false
set_option linter.unusedSimpArgs false
namespace Go.Proofs.YtiaiggbimlbkfaaGreatDoor
open Go Go.Ab Go.RowKit Go.Sort
set_option maxRecDepth 100000
theorem grep_gives (s t : ByteArray) (B1 B2 a o k cap : Nat) (no : Bool) (m : Int) (W : World) (hn : k ≤ 4000000) (hs : s.size < 4294967281)
    (h1 : W.cell? ⟨B1, 0, none⟩ = some (.slice (some ⟨a, o, none⟩) (k + 1) cap)) (h2 : W.cell? ⟨a, o + k, none⟩ = some (.string t)) (h3 : W.cell? ⟨B2, 0, none⟩ = some (.bool no)) (h4 : W.cell? ⟨0, 0, none⟩ = some (.int .i64 m)) :
    FnGives Tryz.prog 75 #[.pointer (some ⟨B1, 0, none⟩), .pointer (some ⟨B2, 0, none⟩)] #[.string s] (.bool (Lib.contains s.data.toList t.data.toList == no)) W := by
  show Calls Tryz.prog 75 #[.string s, .pointer (some ⟨B1, 0, none⟩), .pointer (some ⟨B2, 0, none⟩)] W _
  have hwr : IntKind.i64.wrap (k : Int) = (k : Int) := by rw [IntKind.wrap_i64]; omega
  have hix0 : (0 : Int) ≤ (k : Int) := by omega
  have hix1 : (k : Int) < (k : Int) + 1 := by omega
  have hix2 : (k : Int) < ((k + 1 : Nat) : Int) := by omega
  have hix3 : k < k + 1 := by omega
  go_enter Tryz.func75, Tryz.ntmps75
  go_wp2
  go_quiet ((go_at_call 76; exact Calls.quiet_of_same (Tryz.strings_Contains s t m _ hs h4)))
  go_wp2
  go_ret
  exact ⟨rfl, _, rfl⟩
/-- A contract of the shelf that turns a row of strings, with more arguments and needs. -/
theorem row_turn2 (l l' tl : List Str) (f : FuncId) (he : entersB Tryz.prog f = true) (hl : ¬ l = []) (ht : l'.length + tl.length = l.length) (id p : Oid) (av : AV) (val : Nat → Nat → Value) (xs : List AV) (need : List (Oid × AObj))
    (hval : ∀ (g : Gh) (b cap : Nat), g.loc id = some (some b) → l.length ≤ cap → g.row b = some (cap * 1) → VR g av (val b cap))
    (h : ∀ (x : Ctx) (g : Gh) (m : Mem) (args : Array Value) (b cap : Nat) (w : World), MemRel x g m w → Fit Tryz.prog x → (∀ q ∈ need, m q.1 = some q.2) → m id = some (.arr 1 (l.map .str)) → g.loc id = some (some b) → (∀ k, g.com b k = none) → VRs g (.sl id 1 l.length :: xs) args → args.getD 0 undef = .slice (some ⟨b, 0, none⟩) l.length cap →
      Holds encStr w b 0 l.toArray → b < w.heap.size → l.length ≤ cap → Calls Tryz.prog f args w fun e w' => e = .returned (val b cap) ∧ ∃ n os, w' = grow (putRow encStr (Sort.ahead w n) b 0 (l' ++ tl).toArray) os) :
    CallOK Tryz.prog f (.sl id 1 l.length :: xs) (Oid.under p) ⟨(id, .arr 1 (l.map .str)) :: need, av, [(id, some (.arr 1 (l'.map .str)))]⟩ := by
  refine ⟨he, fun x g args w m hm hn hargs hsp hng => ?_⟩
  have hmi := hn _ List.mem_cons_self
  have hmn : ∀ q ∈ need, m q.1 = some q.2 := fun q hq => hn q (List.mem_cons_of_mem _ hq)
  simp only at hmi
  obtain ⟨v, hva⟩ : ∃ v, args.getD 0 undef = v := ⟨_, rfl⟩
  have a0 := hargs.2 0 (by simp)
  rw [hva, List.getD_cons_zero] at a0
  have hne : l.length ≠ 0 := fun e => hl (List.eq_nil_of_length_eq_zero e)
  obtain ⟨b, cap, rfl, hloc, hcap, hrow⟩ := a0.sl_inv'.resolve_left fun h => hne h.1
  obtain ⟨b0, hb0, hcom, hmay, hobj⟩ := hm.objL hmi hloc
  rw [hloc] at hb0; simp only [Option.some.injEq] at hb0; subst hb0
  obtain ⟨c, t, fz, hh, hcs, hfz, hxl, hone, hv⟩ := hobj
  have hlt := (Array.getElem?_eq_some_iff.1 hh).1
  simp only [List.length_map, Nat.mul_one] at hcs hxl hone hv
  have hav : ∀ (l : List Str) i, i < l.length → (l.map AV.str).getD i .undef = .str (l.getD i []) := fun l i hi => by simp [List.getD_eq_getElem?_getD, List.getElem?_map, List.getElem?_eq_getElem hi]
  have hcell : ∀ i, i < l.length → c.getD i undef = encStr (l.getD i []) := fun i hi => by
    have := hv i 0 hi (by omega)
    rw [hav l i hi] at this
    simp only [AV.cells, List.getD_cons_zero, Nat.mul_one, Nat.add_zero] at this
    exact str_enc.1 this
  have hH : Holds encStr w b 0 l.toArray := by
    intro j hj
    have hj' : j < l.length := by simpa using hj
    have hjc : j < c.size := by omega
    constructor
    · have h3 := hcell j hj'
      simp only [World.cell?, hh, Nat.zero_add, Option.isSome_none, Bool.false_eq_true, if_false, Array.getElem?_eq_getElem hjc, Option.some.injEq]
      rw [Array.getD_eq_getD_getElem?, Array.getElem?_eq_getElem hjc, Option.getD_some] at h3
      rw [h3]
      have h5 : l.toArray[j]! = l.getD j [] := by simp [List.getElem?_eq_getElem hj', hj']
      rw [h5]
    · simp only [World.frozen?, hh, Nat.zero_add]
      have := hfz j hjc
      by_cases h : fz.1 ≤ j
      · have : ¬ j < fz.2 := fun h' => this ⟨h, h'⟩
        simp [this]
      · simp [h]
  refine (h x g m args b cap w hm hng hmn hmi hloc hcom hargs hva hH hlt hcap).mono ?_
  rintro en w' ⟨rfl, n, os, rfl⟩
  show ∃ _ _, _
  refine ⟨g, _, rfl, Gh.le_refl g, fun _ _ => rfl, hval g b cap hloc hcap hrow, ?_⟩
  refine hm.turn (o := .arr 1 (l'.map .str)) hmi hloc rfl rfl ⟨rfl, Nat.le_add_right _ _⟩ sr_size (fun b' hb' hlt' => sr_other hb' hlt') (fun r hr => ?_) ?_ ?_
  · obtain ⟨c', t', fz', h2, h3⟩ := hm.rows b r hr
    exact ⟨_, _, _, sr_same h2, by rw [pc_size]; exact h3⟩
  · intro c9 t9 fz9 h9; exact ⟨_, _, sr_same h9⟩
  · have hget : ∀ i, i < l'.length → (putCells encStr 0 (l' ++ tl).toArray c).getD i undef = encStr (l'.getD i []) := fun i hi => by
      have hc2 : i < c.size := by omega
      have hi2 : i < l'.length + tl.length := by omega
      simp only [putCells, Array.getD_eq_getD_getElem?, Array.getElem?_mapIdx, Array.getElem?_eq_getElem hc2, Option.map_some, Option.getD_some, Nat.zero_le, true_and, Nat.zero_add, Nat.sub_zero, List.size_toArray, List.length_append, hi2, if_true]
      congr 1
      simp [List.getElem?_eq_getElem hi, hi, hi2, List.getElem_append_left hi]
    refine ⟨_, t, fz, sr_same hh, ?_, ?_, ?_, ?_, ?_⟩
    · rw [pc_size, List.length_map, Nat.mul_one]; omega
    · rw [pc_size]; exact hfz
    · intro i hi
      rw [hav _ i (by simpa using hi)]; rfl
    · intro j hj
      have hj' : j < l'.length := by simpa using hj
      rw [hget j hj']; rfl
    · intro i j hi hj
      have hi' : i < l'.length := by simpa using hi
      obtain rfl : j = 0 := by omega
      rw [hav _ i hi', Nat.mul_one, Nat.add_zero, hget i hi']
      exact .str _ _ rfl
/-- A text that is short enough for the library's search. -/
abbrev ShortS := { s : Str // s.length < 4294967281 }
instance : Inhabited ShortS := ⟨⟨[], by decide⟩⟩
def encH (s : ShortS) : Value := encStr s.1
theorem short_of : ∀ l : List Str, (∀ s ∈ l, s.length < 4294967281) → ∃ ds : List ShortS, ds.map (·.1) = l
  | [], _ => ⟨[], rfl⟩
  | s :: l, h => by
    obtain ⟨ds, hd⟩ := short_of l fun t ht => h t (List.mem_cons_of_mem _ ht)
    exact ⟨⟨s, h s List.mem_cons_self⟩ :: ds, by rw [List.map_cons, hd]⟩
theorem short_get (ds : List ShortS) (j : Nat) (hj : j < ds.length) : encH ds.toArray[j]! = encStr (ds.map (·.1)).toArray[j]! := by
  have h2 : j < (ds.map (·.1)).length := by simpa using hj
  unfold encH
  rw [getElem!_pos ds.toArray j (by simpa using hj), getElem!_pos (ds.map (·.1)).toArray j (by simpa using hj)]
  simp
theorem short_cells (ds : List ShortS) (c : Array Value) : putCells encH 0 ds.toArray c = putCells encStr 0 (ds.map (·.1)).toArray c := by
  unfold putCells
  congr 1
  funext k v
  simp only [Nat.zero_le, true_and, Nat.zero_add, List.size_toArray, List.length_map, Nat.sub_zero]
  split
  · rename_i hk; exact short_get ds k hk
  · rfl
theorem short_row (w : World) (b : Nat) (ds : List ShortS) : putRow encH w b 0 ds.toArray = putRow encStr w b 0 (ds.map (·.1)).toArray := by
  unfold putRow
  congr 1
  funext c
  exact short_cells ds c
/-- What grep drops. -/
def grepQ (no : Bool) (u s : Str) : Bool := Lib.contains s u == no
theorem block_lt {w : World} {b o : Nat} {v : Value} (h : w.cell? ⟨b, o, none⟩ = some v) : b < w.heap.size := by
  simp only [World.cell?] at h
  cases hb : w.heap[b]? with
  | none => rw [hb] at h; simp at h
  | some ob => exact (Array.getElem?_eq_some_iff.1 hb).1
theorem del_ok (l : List Str) (hl : ¬ l = []) (hls : l.length ≤ 9223372036854775807) (hlm : ∀ s ∈ l, s.length < 4294967281) (args : List Str) (k : Nat) (hk : args.length = k + 1) (hk2 : k ≤ 4000000) (no : Bool) (id bx bn p : Oid) (hix : ¬ id = bx) (hin : ¬ id = bn) :
    CallOK Tryz.prog 74 [.sl id 1 l.length, .fn (.func 75) [] [.ptr bx 0, .ptr bn 0]] (Oid.under p)
      ⟨[(id, .arr 1 (l.map .str)), (bx, .cells [.list 1 (args.map .str)]), (bn, .cells [.bool no])], .sl id 1 (l.filter fun s => !grepQ no (args.getD k []) s).length, [(id, some (.arr 1 ((l.filter fun s => !grepQ no (args.getD k []) s).map .str)))]⟩ := by
  have hfl : (l.filter fun s => !grepQ no (args.getD k []) s).length ≤ l.length := List.length_filter_le _ _
  refine row_turn2 l (l.filter fun s => !grepQ no (args.getD k []) s) (List.replicate (l.length - (l.filter fun s => !grepQ no (args.getD k []) s).length) []) _ (by kernel_rfl) hl (by rw [List.length_replicate]; omega) id p _
    (fun b cap => .slice (some ⟨b, 0, none⟩) (l.filter fun s => !grepQ no (args.getD k []) s).length cap) _ _ (fun g b cap h1 h2 h3 => .sl _ _ _ _ _ h1 (Nat.le_trans hfl h2) h3) ?_
  intro x g m av b cap w hm hx hn hmi hloc hcom hargs hv0 hH hb hcap
  have ht := hm.told hx
  obtain ⟨mx, hmx⟩ := maxlen ht
  -- the closure
  have a1 := hargs.2 1 (by simp)
  simp only [List.getD_cons_succ, List.getD_cons_zero] at a1
  obtain ⟨fa, fb, hf, hfs, hbs, _, hfv⟩ := a1.fn_inv
  have hfa : fa = #[] := Array.eq_empty_of_size_eq_zero hfs
  have c0 := hfv 0 (by simp)
  have c1 := hfv 1 (by simp)
  simp only [List.getD_cons_succ, List.getD_cons_zero] at c0 c1
  obtain ⟨b1, hb1, l1⟩ := c0.ptr_inv
  obtain ⟨b2, hb2, l2⟩ := c1.ptr_inv
  have hfb : fb = #[.pointer (some ⟨b1, 0, none⟩), .pointer (some ⟨b2, 0, none⟩)] := by
    have h2 : fb.size = 2 := hbs
    apply Array.ext
    · rw [h2]; rfl
    · intro j h3 h4
      have h3' : j < 2 := by omega
      rw [Array.getD_eq_getD_getElem?, Array.getElem?_eq_getElem (by omega)] at hb1 hb2
      match j, h3' with
      | 0, _ => simpa using hb1
      | 1, _ => simpa using hb2
  have hav : av = #[.slice (some ⟨b, 0, none⟩) l.length cap, .func (.func 75) #[] #[.pointer (some ⟨b1, 0, none⟩), .pointer (some ⟨b2, 0, none⟩)]] := by
    have h2 : av.size = 2 := hargs.1
    apply Array.ext
    · rw [h2]; rfl
    · intro j h3 h4
      have h3' : j < 2 := by omega
      rw [Array.getD_eq_getD_getElem?, Array.getElem?_eq_getElem (by omega)] at hv0
      rw [Array.getD_eq_getD_getElem?, Array.getElem?_eq_getElem (by omega)] at hf
      match j, h3' with
      | 0, _ => simpa using hv0
      | 1, _ => rw [hfa, hfb] at hf; simpa using hf
  -- what it bears
  have n1 := hn (bx, .cells [.list 1 (args.map .str)]) (by simp)
  have n2 := hn (bn, .cells [.bool no]) (by simp)
  obtain ⟨b1', e1, cm1, _, ob1⟩ := hm.objL n1 l1
  rw [l1] at e1; simp only [Option.some.injEq] at e1; subst e1
  obtain ⟨b2', e2, cm2, _, ob2⟩ := hm.objL n2 l2
  rw [l2] at e2; simp only [Option.some.injEq] at e2; subst e2
  have d1 : b1 ≠ b := fun e => hix (hm.inj _ _ _ _ b hmi n1 hloc (e ▸ l1))
  have d2 : b2 ≠ b := fun e => hin (hm.inj _ _ _ _ b hmi n2 hloc (e ▸ l2))
  obtain ⟨q1, t1, f1, g1, s1, _, v1⟩ := ob1
  obtain ⟨q2, t2, f2, g2, s2, _, v2⟩ := ob2
  have w1 := v1 0 (by simp)
  have w2 := v2 0 (by simp)
  simp only [List.getD_cons_zero] at w1 w2
  have hq2 : w.cell? ⟨b2, 0, none⟩ = some (.bool no) := by
    have hs : q2.size = 1 := s2
    have e : q2.getD 0 undef = .bool no := by generalize q2.getD 0 undef = z at w2; cases w2; rfl
    rw [Array.getD_eq_getD_getElem?, Array.getElem?_eq_getElem (by omega), Option.getD_some] at e
    simp only [World.cell?, g2, Option.isSome_none, Bool.false_eq_true, if_false]
    rw [Array.getElem?_eq_getElem (by omega), e]
  rcases w1.list_inv with ⟨h0, _⟩ | ⟨a, o, cp, cs, e1, _, _, hc, hcv⟩
  · exact absurd (congrArg List.length h0) (by rw [List.length_map, hk]; simp)
  rw [List.length_map, hk] at e1 hc hcv
  have hq1 : w.cell? ⟨b1, 0, none⟩ = some (.slice (some ⟨a, o, none⟩) (k + 1) cp) := by
    have hs : q1.size = 1 := s1
    rw [Array.getD_eq_getD_getElem?, Array.getElem?_eq_getElem (by omega), Option.getD_some] at e1
    simp only [World.cell?, g1, Option.isSome_none, Bool.false_eq_true, if_false]
    rw [Array.getElem?_eq_getElem (by omega), e1]
  have hgk := hc k 0 (by omega) (by omega)
  have hvk := hcv k 0 (by omega) (by omega)
  have hgd : (args.map AV.str).getD k .undef = .str (args.getD k []) := by simp [List.getD_eq_getElem?_getD, List.getElem?_map, List.getElem?_eq_getElem (show k < args.length by omega)]
  rw [hgd] at hvk
  simp only [AV.cells, List.getD_cons_zero] at hvk
  rw [Nat.mul_one, Nat.add_zero] at hgk
  have hck := ht.com _ _ _ hgk
  rw [str_enc.1 hvk] at hck
  have da : a ≠ b := fun e => by rw [e, hcom] at hgk; cases hgk
  have dm : 0 ≠ b := fun e => by
    obtain ⟨_, _, _, _, m', h7⟩ := ht.facts
    rw [e, hcom] at h7; cases h7
  have gives : ∀ (W : World) (y : ShortS), W.cell? ⟨b1, 0, none⟩ = w.cell? ⟨b1, 0, none⟩ → W.cell? ⟨a, o + k, none⟩ = w.cell? ⟨a, o + k, none⟩ → W.cell? ⟨b2, 0, none⟩ = w.cell? ⟨b2, 0, none⟩ → W.cell? ⟨0, 0, none⟩ = w.cell? ⟨0, 0, none⟩ →
      FnGives Tryz.prog 75 #[.pointer (some ⟨b1, 0, none⟩), .pointer (some ⟨b2, 0, none⟩)] #[encH y] (.bool (grepQ no (args.getD k []) y.1)) W := fun W y h1 h2 h3 h4 =>
    grep_gives ⟨y.1.toArray⟩ ⟨(args.getD k []).toArray⟩ b1 b2 a o k cp no mx W hk2 (by show y.1.toArray.size < _; simpa using y.2) (h1.trans hq1) (h2.trans hck) (h3.trans hq2) (h4.trans hmx)
  obtain ⟨ds, rfl⟩ := short_of l hlm
  have eg : ∀ args w, (callFunc 75 args).run Tryz.prog w = .ok (.enter 75 args) w := enters_of Tryz.func75 (by kernel_rfl) rfl
  have hHs : Holds encH w b 0 ds.toArray := fun j hj => by
    have hj' : j < ds.length := by simpa using hj
    have := hH j (by simpa using hj)
    rwa [← short_get ds j hj'] at this
  have con := AnyE.slices_DeleteFunc Tryz.Del encH (fun _ => rfl) (fun y : ShortS => grepQ no (args.getD k []) y.1) 75 #[.pointer (some ⟨b1, 0, none⟩), .pointer (some ⟨b2, 0, none⟩)] eg default Tryz.zeroValue9 b 0 cap ds.toArray w
    (fun W y hb => gives W y (hb.cell (block_lt hq1)) (hb.cell (block_lt hck)) (hb.cell (block_lt hq2)) (hb.cell (block_lt hmx)))
    (fun n os dk y _ => by
      have same : ∀ b' o', b' ≠ b → b' < w.heap.size → (sortWorld encH w b 0 n dk os).cell? ⟨b', o', none⟩ = w.cell? ⟨b', o', none⟩ := fun b' o' h1 h2 => by
        unfold sortWorld
        rw [cell?_grow _ _ _ (by show b' < (putRow _ _ _ _ _).heap.size; rw [size_putRow]; exact h2), cell?_putRow_other _ _ b 0 _ _ (Or.inl h1)]
        rfl
      exact gives _ y (same _ _ d1 (block_lt hq1)) (same _ _ da (block_lt hck)) (same _ _ d2 (block_lt hq2)) (same _ _ dm (block_lt hmx)))
    hHs (by simpa using hls) (by simpa using hcap)
  change Calls Tryz.prog 74 _ _ _ at con
  rw [hav]
  have hsz : ds.toArray.size = (ds.map (·.1)).length := by simp
  rw [hsz] at con
  refine con.mono ?_
  rintro e w' ⟨rfl, q, rfl⟩
  have hfm : (ds.filter fun y : ShortS => !grepQ no (args.getD k []) y.1).map (·.1) = (ds.map (·.1)).filter fun s => !grepQ no (args.getD k []) s := by rw [List.filter_map]; rfl
  have hfl2 : (ds.filter fun y : ShortS => !grepQ no (args.getD k []) y.1).length = ((ds.map (·.1)).filter fun s => !grepQ no (args.getD k []) s).length := by rw [← hfm, List.length_map]
  refine ⟨by rw [← hfl2], q, #[], ?_⟩
  rw [short_row, grow_none, List.map_append, List.map_replicate]
  simp only [hfl2]
  rw [hfm]; rfl
end Go.Proofs.YtiaiggbimlbkfaaGreatDoor
