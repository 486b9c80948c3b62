/- The library's sort with a function that compares: the shelf's contract, in the words of this memory. -/
import Derived.Test.YtpdmiojenhodlaaFwD
import Derived.Shelf.SlSortCmp.WholeK
set_option linter.unusedVariables false
set_option linter.unusedSimpArgs false
namespace Go.Ab
open Go.Proofs Go.Shelf Go.Sort

/-- A world without objects: what was fixed for good is still there. -/
theorem MemRel.bare {x : Ctx} {g : Gh} {m : Mem} {w W : World} {p : Oid} (h : MemRel x g m w) (hcom : ∀ b o v, g.com b o = some v → W.cell? ⟨b, o, none⟩ = some v)
    (hrow : ∀ b r, g.row b = some r → ∃ c t fz, W.heap[b]? = some (.cells c t fz) ∧ c.size = r) : MemRel { ng := x.ng, g0 := g, w0 := W, may0 := fun _ => False, p := p, rd := none } g Mem.emp W :=
  ⟨Gh.le_refl g, fun _ _ => rfl, h.glob, fun _ _ _ hv => .inl hv, fun _ _ hi => (by cases hi), fun _ _ _ _ _ hi => (by cases hi), hcom, h.one, hrow, rfl, rfl, ⟨rfl, Nat.le_refl _⟩, Nat.le_refl _, fun _ _ _ => rfl⟩

/-- Nothing old may be written: the world has grown. -/
theorem MemRel.grown {x : Ctx} {g : Gh} {m : Mem} {w : World} (h : MemRel x g m w) (hm : ∀ b, ¬ x.may0 b) : ∃ q os, w = grow (x.w0.drewN q) os := by
  refine ⟨w.drawn - x.w0.drawn, w.heap.extract x.w0.heap.size w.heap.size, ?_⟩
  have hh : w.heap = x.w0.heap ++ w.heap.extract x.w0.heap.size w.heap.size := by
    apply Array.ext_getElem?
    intro b
    rw [Array.getElem?_append]
    split
    · rename_i hb; exact h.kept b hb (hm b)
    · rename_i hb
      rw [Array.getElem?_extract]
      by_cases hb' : b < w.heap.size
      · rw [if_pos (by omega), show x.w0.heap.size + (b - x.w0.heap.size) = b by omega]
      · rw [if_neg (by omega), Array.getElem?_eq_none (by omega)]
  have hd := h.output.2
  obtain ⟨heap, tape, drawn, os, output⟩ := w
  simp only [grow, World.drewN] at hh hd ⊢
  have h1 := h.os; have h2 := h.tape; have h3 := h.output.1
  simp only at h1 h2 h3
  rw [← hh, ← h1, ← h2, ← h3]
  congr 1
  omega

section
variable {α : Type} [Inhabited α] (enc : α → List Value) (k : Nat)
theorem sw_other {w : World} {b m : Nat} {dk : Array α} {os : Array Obj} {b' : Nat} (hb : b' ≠ b) (hlt : b' < w.heap.size) : (sortWorldK enc k w b 0 m dk os).heap[b']? = w.heap[b']? := by
  unfold sortWorldK putRowK putRow mapBlock
  rw [heap_grow_old _ _ (by simpa [ahead] using hlt)]
  simp [Array.getElem?_modify, Ne.symm hb, ahead]
theorem sw_same {w : World} {b m : Nat} {dk : Array α} {os : Array Obj} {c : Array Value} {t : TypeId} {fz : Nat × Nat} (hb : w.heap[b]? = some (.cells c t fz)) :
    (sortWorldK enc k w b 0 m dk os).heap[b]? = some (.cells (putCells id 0 (flatK enc k dk) c) t fz) := by
  have hlt := (Array.getElem?_eq_some_iff.1 hb).1
  unfold sortWorldK putRowK putRow mapBlock
  rw [heap_grow_old _ _ (by simpa [ahead] using hlt)]
  simp [Array.getElem?_modify, hb, ahead, onCells]
theorem putCells_size (d : Array Value) (c : Array Value) : (putCells id 0 d c).size = c.size := by simp [putCells]
theorem sw_size {w : World} {b m : Nat} {dk : Array α} {os : Array Obj} : w.heap.size ≤ (sortWorldK enc k w b 0 m dk os).heap.size := size_sortWorldK_c enc k w b 0 m dk os
end

theorem sort_ok {P : Program} {ρ : Ren} (L : SlLaysF0.n6 P ρ) {α : Type} [Inhabited α] (k : Nat) (aE : ∀ w, (isAgg (ρ.t 24)).run P w = .ok true w) (zE : ∀ w, (Go.sizeOf (ρ.t 24)).run P w = .ok k w)
    (enc : α → List Value) (av : α → AV) (hk : ∀ x, (enc x).length = k) (h1 : ∀ x, ∀ v ∈ enc x, v.oneCell' = true) (hcl : ∀ x, (av x).cells.length = k) (hagg : ∀ g x, VR g (av x) (.agg (enc x).toArray))
    (henc : ∀ g x j v, j < k → (VR g ((av x).cells.getD j .undef) v ↔ v = (enc x).getD j undef)) (cf : α → α → Int) (hO : SWO (ltOf cf)) (gf : Nat)
    (hg : ∀ x y p, CallOK P gf [av x, av y] (Oid.under p) ⟨[], .int .i64 (cf x y), []⟩) (l : List α) (hl : ¬ l = []) (hsz : l.length < 4611686018427387904) (rid p : Oid) (he : entersB P (ρ.f 6) = true) :
    CallND P (ρ.f 6) [.sl rid k l.length, .fn (.func gf) [] []] (Oid.under p) [(rid, .arr k (l.map av))] (fun v u => v = .tuple [] ∧ ∃ l' : List α, l'.Perm l ∧ l'.Pairwise (fun x y => ltOf cf y x = false) ∧ u = [(rid, some (.arr k (l'.map av)))]) (fun _ _ => False) := by
  refine ⟨he, fun x g args w m hm hn hargs hsp hng => ?_⟩
  have hmi := hn _ List.mem_cons_self
  simp only at hmi
  have a0 := hargs.2 0 (by simp)
  have a1 := hargs.2 1 (by simp)
  simp only [List.getD_cons_zero, List.getD_cons_succ] at a0 a1
  have hne : l.length ≠ 0 := fun e => hl (List.eq_nil_of_length_eq_zero e)
  obtain ⟨b, cap, e0, hloc, hcap, hrow⟩ := a0.sl_inv'.resolve_left fun h => hne h.1
  obtain ⟨fa, fb, e1, s1, s2, _, _⟩ := a1.fn_inv
  have f1 : fa = #[] := Array.eq_empty_of_size_eq_zero (by simpa using s1)
  have f2 : fb = #[] := Array.eq_empty_of_size_eq_zero (by simpa using s2)
  subst f1; subst f2
  have eargs : args = #[.slice (some ⟨b, 0, none⟩) l.toArray.size cap, .func (.func gf) #[] #[]] := by
    apply Array.ext
    · rw [hargs.1]; rfl
    · intro i h2 h3
      have hi : i < 2 := h3
      rcases i with _ | _ | i
      · simpa [Array.getD_eq_getD_getElem?, h2] using e0
      · simpa [Array.getD_eq_getD_getElem?, h2] using e1
      · omega
  obtain ⟨b0, hb0, hcom, hmay, hobj⟩ := hm.objL hmi hloc
  rw [hloc] at hb0; simp only [Option.some.injEq] at hb0; subst hb0
  obtain ⟨c, t, fz, hh, hcs, hfz, hxl, hone, hv⟩ := hobj
  have hlt := (Array.getElem?_eq_some_iff.1 hh).1
  simp only [List.length_map] at hcs hxl hone hv
  have hcell : ∀ i j, i < l.length → j < k → c.getD (i * k + j) undef = (enc (l.getD i default)).getD j undef := fun i j hi hj => by
    have := hv i j hi hj
    rw [getD_map_in av hi] at this
    exact (henc g _ j _ hj).1 this
  have hH : HoldsK enc k w b 0 l.toArray := by
    intro j hj
    rw [size_flatK] at hj
    have hj' : j < l.length * k := by simpa using hj
    have hk0 : 0 < k := Nat.pos_of_ne_zero fun e => by subst e; simp at hj'
    have hi : j / k < l.length := (Nat.div_lt_iff_lt_mul hk0).2 hj'
    have hjc : j < c.size := by omega
    constructor
    · rw [get_flatK _ _ _ _ hj]
      have h3 := hcell (j / k) (j % k) hi (Nat.mod_lt _ hk0)
      have h4 : j / k * k + j % k = j := Nat.div_add_mod' j k
      rw [h4] at h3
      simp only [World.cell?, hh, Nat.zero_add, Option.isSome_none, Bool.false_eq_true, if_false, Array.getElem?_eq_getElem hjc, Option.some.injEq, id_eq]
      rw [Array.getD_eq_getD_getElem?, Array.getElem?_eq_getElem hjc, Option.getD_some] at h3
      rw [h3]
      have h5 : l.toArray[j / k]! = l.getD (j / k) default := by simp [List.getElem?_eq_getElem hi, hi]
      rw [h5]
      have h6 : j % k < (enc (l.getD (j / k) default)).length := by rw [hk]; exact Nat.mod_lt _ hk0
      rw [getElem!_pos (enc (l.getD (j / k) default)) (j % k) h6, List.getD_eq_getElem?_getD, List.getElem?_eq_getElem h6, Option.getD_some]
    · simp only [World.frozen?, hh, Nat.zero_add]
      have := hfz j hjc
      by_cases h : fz.1 ≤ j
      · have : ¬ j < fz.2 := fun h' => this ⟨h, h'⟩
        simp [this]
      · simp [h]
  have hcmp : CmpLays P gf #[] enc k cf b 0 l.toArray.size w := by
    intro mm os dk hs u v
    have hb := hm.bare (W := sortWorldK enc k w b 0 mm dk os) (p := p) (fun b' o v hv => ?_) (fun b' r hr => ?_)
    · have hc := (hg u v p).calls _ g #[.agg (enc u).toArray, .agg (enc v).toArray] _ _ hb (fun q hq => by cases hq) ⟨rfl, fun j hj => ?_⟩ (fun i hi => ⟨(hsp i hi).1, hi⟩) hng
      · refine hc.mono fun en w' ⟨g', v', h2, h3, h4, h5, h6⟩ => ⟨by rw [h2, h5.int_inv], ?_⟩
        exact h6.grown fun _ h => h
      · rcases j with _ | _ | j
        · exact hagg g u
        · exact hagg g v
        · exact absurd hj (by simp)
    · have hb' : b' ≠ b := fun e => by subst e; rw [hcom o] at hv; cases hv
      have h2 := hm.com b' o v hv
      have h3 : b' < w.heap.size := by
        rcases Nat.lt_or_ge b' w.heap.size with h | h
        · exact h
        · simp [World.cell?, Array.getElem?_eq_none h] at h2
      simp only [World.cell?] at h2 ⊢
      rw [sw_other enc k hb' h3]; exact h2
    · obtain ⟨c', t', fz', h2, h3⟩ := hm.rows b' r hr
      by_cases hb' : b' = b
      · subst hb'; exact ⟨_, _, _, sw_same enc k h2, by rw [putCells_size]; exact h3⟩
      · exact ⟨c', t', fz', by rw [sw_other enc k hb' (Array.getElem?_eq_some_iff.1 h2).1]; exact h2, h3⟩
  have eg : ∀ args w, (callFunc gf args).run P w = .ok (.enter gf args) w := by
    have he := (hg default default p).enters
    unfold entersB at he
    cases hfn : P.funcs[gf]? with
    | none => rw [hfn] at he; cases he
    | some fn =>
      rw [hfn] at he
      simp only [Bool.and_eq_true, bne_iff_ne, ne_eq] at he
      obtain ⟨he1, he2⟩ := he
      have hb : fn.body.isNone = false := by cases hbb : fn.body <;> simp_all
      have hnm : (fn.name == "runtime.NumGoroutine") = false := by simpa using he2
      intro args w
      simp only [callFunc, Sem.run_bind, run_program, hfn, hnm, hb, Bool.false_eq_true, if_false, Result.andThen_ok, Sem.run_pure]
  rw [eargs]
  refine (AnyQ.slices_SortFunc L k aE zE enc hk h1 cf hO gf #[] b 0 cap l.toArray w eg hcmp hH hlt (by simpa using hsz)).mono ?_
  rintro en w' ⟨rfl, d', n, os, hp, hs, rfl⟩
  refine .inl ⟨g, _, .tuple [], [(rid, some (.arr k (d'.toList.map av)))], rfl, ⟨rfl, d'.toList, ?_, ?_, rfl⟩, Gh.le_refl g, fun _ _ => rfl, .tuple _ _ rfl (fun j hj => absurd hj (Nat.not_lt_zero _)), ?_⟩
  · have h2 := hp.2.2
    have h3 := hp.1
    have h5 : d'.size = l.length := by simpa using h3
    have h6 : d'.toList.Perm (List.take d'.size l) := by simpa [← h3] using h2
    rwa [h5, List.take_length] at h6
  · rw [List.pairwise_iff_getElem]
    intro i j hi hj hij
    have hi' : i < d'.size := by simpa using hi
    have hj' : j < d'.size := by simpa using hj
    have := hs i j (Nat.zero_le _) hij (by rw [← hp.1]; exact hj')
    rw [getElem!_pos d' i hi', getElem!_pos d' j hj'] at this
    simpa using this
  · have hds : d'.size = l.length := by simpa using hp.1
    refine hm.turn (o := .arr k (d'.toList.map av)) hmi hloc rfl rfl ⟨rfl, Nat.le_add_right _ _⟩ (sw_size enc k) (fun b' hb' hlt' => sw_other enc k hb' hlt') (fun r hr => ?_) ?_
    · obtain ⟨c', t', fz', h2, h3⟩ := hm.rows b r hr
      exact ⟨_, _, _, sw_same enc k h2, by rw [putCells_size]; exact h3⟩
    · have hget : ∀ i j, i < d'.size → j < k → (putCells id 0 (flatK enc k d') c).getD (i * k + j) undef = (enc d'[i]!).getD j undef := fun i j hi hj => by
        have hlt2 : i * k + j < d'.size * k := by
          have := Nat.mul_le_mul_right k (show i + 1 ≤ d'.size from hi); rw [Nat.add_mul, Nat.one_mul] at this; omega
        have hc2 : i * k + j < c.size := by rw [hds] at hlt2; omega
        have e1 : (i * k + j) / k = i := (blk_iff k i _ (by omega)).1 ⟨by omega, by omega⟩
        have e2 : (i * k + j) % k = j := by rw [Nat.mod_eq_sub_div_mul, e1]; omega
        have h6 : j < (enc d'[i]!).length := by rw [hk]; exact hj
        simp only [putCells, Array.getD_eq_getD_getElem?, Array.getElem?_mapIdx, Array.getElem?_eq_getElem hc2, Option.map_some, Option.getD_some, Nat.zero_le, true_and, Nat.zero_add, Nat.sub_zero, size_flatK, hlt2, if_true, id_eq]
        rw [get_flatK _ _ _ _ hlt2, e1, e2, getElem!_pos (enc d'[i]!) j h6, List.getD_eq_getElem?_getD, List.getElem?_eq_getElem h6, Option.getD_some]
      have hav : ∀ i, i < d'.size → (d'.toList.map av).getD i .undef = av d'[i]! := fun i hi => by
        rw [getElem!_pos d' i hi]
        simp [List.getD_eq_getElem?_getD, List.getElem?_map, hi]
      refine ⟨_, t, fz, sw_same enc k hh, ?_, ?_, ?_, ?_, ?_⟩
      · rw [putCells_size, List.length_map, Array.length_toList, hds]; exact hcs
      · rw [putCells_size]; exact hfz
      · intro i hi
        rw [hav i (by simpa using hi)]; exact hcl _
      · intro j hj
        have hj' : j < d'.size * k := by simpa using hj
        have hk0 : 0 < k := Nat.pos_of_ne_zero fun e => by subst e; simp at hj'
        have hi : j / k < d'.size := (Nat.div_lt_iff_lt_mul hk0).2 hj'
        have := hget (j / k) (j % k) hi (Nat.mod_lt _ hk0)
        rw [Nat.div_add_mod'] at this
        rw [this]
        have h6 : j % k < (enc d'[j / k]!).length := by rw [hk]; exact Nat.mod_lt _ hk0
        rw [List.getD_eq_getElem?_getD, List.getElem?_eq_getElem h6, Option.getD_some]
        exact h1 _ _ (List.getElem_mem h6)
      · intro i j hi hj
        have hi' : i < d'.size := by simpa using hi
        rw [hav i hi', hget i j hi' hj]
        exact (henc g _ j _ hj).2 rfl
end Go.Ab
