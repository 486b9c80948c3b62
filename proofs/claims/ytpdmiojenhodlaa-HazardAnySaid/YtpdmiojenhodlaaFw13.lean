/- What single operations do: slices written out, append, new maps; a row that is fixed for good. -/
import Derived.Test.YtpdmiojenhodlaaFw12
set_option linter.unusedVariables false
set_option linter.unusedSimpArgs false
namespace Go.Ab
section
variable {P : Program} {o : Oper} {ρ : Operand → AV} {sp : Oid → Prop}

theorem ops_parts {t : TypeId} {n : Nat} {ps : Array (Nat × Operand)} (ho : o.op = .buildSlice t n ps) {x : Operand} (hx : x ∈ ps.toList.map (·.2)) : x ∈ o.op.operands.toList := by
  rw [ho]; simpa [Op.operands] using hx

theorem eff_litList {t : TypeId} {n sz : Nat} {ps : Array (Nat × Operand)} {vs : List AV} (ho : o.op = .buildSlice t n ps) (h : litOK P (tyk P t) n (ps.toList.map fun q => (q.1, ρ q.2)) = some (sz, vs)) : EffOK P o ρ sp ⟨[], .list sz vs, []⟩ := by
  refine EffOK.of fun x g a w m hm _ hop _ => ?_
  obtain ⟨h1, h2, e, c, h3, h4, h5, h6⟩ := lit_spec h (g := g) (a := a) (w := w) (fun t ht => hop t (ops_parts ho ht))
  obtain ⟨hm', hle⟩ := hm.newFix c e h5
  refine ⟨g.fix w.heap.size c, .value (.slice (some ⟨w.heap.size, 0, none⟩) n n), _, w.alloc (.cells c e), by simp [execOp, ho, h3], .inl rfl, hle, fun _ _ => rfl, ?_, hm'⟩
  subst h1
  refine .list sz vs _ _ _ (fun i j => c.getD (i * sz + j) undef) (Nat.le_refl _) h2 (fun i j hi hj => ?_) (fun i j hi hj => (h6 i j hi hj).mono hle)
  have : i * sz + j < c.size := by
    have := Nat.mul_le_mul_right sz (Nat.succ_le_of_lt hi)
    rw [Nat.succ_mul] at this; omega
  simp [Gh.fix, this]

theorem eff_litArr {t : TypeId} {n sz : Nat} {ps : Array (Nat × Operand)} {vs : List AV} {nid : Oid} (ho : o.op = .buildSlice t n ps) (hs : sp nid) (h : litOK P (tyk P t) n (ps.toList.map fun q => (q.1, ρ q.2)) = some (sz, vs)) :
    EffOK P o ρ sp ⟨[], .sl nid sz n, [(nid, some (.arr sz vs))]⟩ := by
  refine EffOK.of fun x g a w m hm _ hop hsp => ?_
  obtain ⟨h1, h2, e, c, h3, h4, h5, h6⟩ := lit_spec h (g := g) (a := a) (w := w) (fun t ht => hop t (ops_parts ho ht))
  obtain ⟨hl, hu⟩ := hsp nid hs
  subst h1
  have hnew := hm.new (o := .arr sz vs) (ob := .cells c e) hl hu ⟨c, e, (0, 0), heap_new w _, by omega, fun j _ h => by omega, h2, fun j hj => by
    have hj' : j < c.size := by omega
    have := h5 j hj'
    simpa [hj'] using this, fun i j hi hj => (h6 i j hi hj).mono (Gh.le_bind hl)⟩
  have hrow : (g.bind nid w.heap.size).row w.heap.size = none := hm.row_new (Nat.le_refl _)
  refine ⟨(g.bind nid w.heap.size).measure w.heap.size (vs.length * sz), .value (.slice (some ⟨w.heap.size, 0, none⟩) vs.length vs.length), _, w.alloc (.cells c e), by simp [execOp, ho, h3], .inl rfl,
    Gh.le_trans (Gh.le_bind hl) (Gh.le_measure (.inl hrow)), fun j hj => ?_, .sl _ _ _ _ _ (by simp [Gh.bind, Gh.measure]) (Nat.le_refl _) (by simp [Gh.measure]), hnew.measure ⟨c, e, (0, 0), heap_new w _, h4⟩ (.inl hrow)⟩
  simp only [Gh.bind, Gh.measure]; rw [if_neg (fun e => hj (by rw [e]; exact hs))]

/-! ### append -/
def srcA (m : Mem) (sz : Nat) : AV → Option (List (Oid × AObj) × List AV)
  | .nilSl => some ([], [])
  | .list sz' ys => if sz' = sz then some ([], ys) else none
  | .sl id sz' n => match m id with
    | some (.arr s ys) => if sz' = sz ∧ s = sz ∧ n ≤ ys.length then some ([(id, .arr s ys)], ys.take n) else none
    | _ => none
  | .str s => if sz = 1 then some ([], s.map fun b => .int .u8 b.toNat) else none
  | _ => none

theorem srcA_need {m : Mem} {sz : Nat} {x : AV} {nd : List (Oid × AObj)} {ys : List AV} (h : srcA m sz x = some (nd, ys)) : ∀ q, q ∈ nd → m q.1 = some q.2 := by
  unfold srcA at h
  split at h
  · simp only [Option.some.injEq, Prod.mk.injEq] at h; obtain ⟨rfl, rfl⟩ := h; intro q hq; cases hq
  · split at h
    · simp only [Option.some.injEq, Prod.mk.injEq] at h; obtain ⟨rfl, rfl⟩ := h; intro q hq; cases hq
    · cases h
  · split at h
    · rename_i hm
      split at h
      · simp only [Option.some.injEq, Prod.mk.injEq] at h; obtain ⟨rfl, rfl⟩ := h
        intro q hq; simp only [List.mem_singleton] at hq; subst hq; exact hm
      · cases h
    · cases h
  · split at h
    · simp only [Option.some.injEq, Prod.mk.injEq] at h; obtain ⟨rfl, rfl⟩ := h; intro q hq; cases hq
    · cases h
  · cases h

theorem srcA_spec {x : Ctx} {g : Gh} {m m0 : Mem} {w : World} (hm : MemRel x g m w) {sz : Nat} {v : AV} {u : Value} (hv : VR g v u) {nd : List (Oid × AObj)} {ys : List AV} (h : srcA m0 sz v = some (nd, ys)) (hn : ∀ q, q ∈ nd → m q.1 = some q.2) :
    (∀ i, i < ys.length → (ys.getD i .undef).cells.length = sz) ∧ ∃ news : Array Value, news.size = ys.length * sz ∧ (∀ j (hj : j < news.size), news[j].oneCell' = true) ∧
      (∀ i j, i < ys.length → j < sz → VR g ((ys.getD i .undef).cells.getD j .undef) (news.getD (i * sz + j) undef)) ∧
      (∀ k, (Builtin.lenOf u).run P { w with drawn := k } = .ok ys.length { w with drawn := k }) ∧ ∀ k, (Builtin.firstCells sz ys.length u).run P { w with drawn := k } = .ok news { w with drawn := k } := by
  have fromCells : ∀ (b off : Nat) (n : Nat) (f : Nat → Value), (∀ j, j < n → w.cell? ⟨b, off + j, none⟩ = some (f j)) → ∀ k, (loadCells ⟨b, off, none⟩ n).run P { w with drawn := k } = .ok ((List.range n).map f).toArray { w with drawn := k } := by
    intro b off n f hf k
    exact run_loadCells (P := P) { w with drawn := k } ⟨b, off, none⟩ n f (fun j hj => by rw [addr_add]; exact hf j hj)
  unfold srcA at h
  split at h
  · simp only [Option.some.injEq, Prod.mk.injEq] at h; obtain ⟨rfl, rfl⟩ := h
    rw [hv.nilSl_inv]
    exact ⟨fun i hi => absurd hi (Nat.not_lt_zero _), #[], by simp, fun j hj => absurd hj (Nat.not_lt_zero _), fun i j hi => absurd hi (Nat.not_lt_zero _), fun k => by simp [Builtin.lenOf], fun k => by simp [Builtin.firstCells]⟩
  · rename_i sz' ys'
    split at h
    · rename_i e; subst e
      simp only [Option.some.injEq, Prod.mk.injEq] at h; obtain ⟨rfl, rfl⟩ := h
      rcases hv.list_inv with ⟨rfl, hu | ⟨a0, cap, hu⟩⟩ | ⟨b, off, cap, cs, hu, hcap, hl, h1, h2⟩
      rotate_left
      · rw [hu]
        exact ⟨fun i hi => absurd hi (Nat.not_lt_zero _), #[], by simp, fun j hj => absurd hj (Nat.not_lt_zero _), fun i j hi => absurd hi (Nat.not_lt_zero _), fun k => by simp [Builtin.lenOf], fun k => by
          simp only [Builtin.firstCells]
          simpa using run_loadCells (P := P) { w with drawn := k } a0 0 (fun _ => undef) (fun j hj => absurd hj (Nat.not_lt_zero _))⟩
      rotate_left
      · rw [hu]
        exact ⟨fun i hi => absurd hi (Nat.not_lt_zero _), #[], by simp, fun j hj => absurd hj (Nat.not_lt_zero _), fun i j hi => absurd hi (Nat.not_lt_zero _), fun k => by simp [Builtin.lenOf], fun k => by simp [Builtin.firstCells]⟩
      rw [hu]
      have hpos : ∀ j, j < ys'.length * sz' → 0 < sz' := fun j hj => by
        rcases Nat.eq_zero_or_pos sz' with h | h
        · rw [h] at hj; simp at hj
        · exact h
      have hcell : ∀ j, j < ys'.length * sz' → g.com b (off + j) = some (cs (j / sz') (j % sz')) := fun j hj => by
        have hp := hpos j hj
        have := h1 (j / sz') (j % sz') (by rw [Nat.div_lt_iff_lt_mul hp]; exact hj) (Nat.mod_lt _ hp)
        rwa [Nat.add_assoc, Nat.div_add_mod' j sz'] at this
      refine ⟨hl, ((List.range (ys'.length * sz')).map fun j => cs (j / sz') (j % sz')).toArray, by simp, fun j hj => ?_, fun i j hi hj => ?_, fun k => by simp [Builtin.lenOf], fun k => ?_⟩
      · have hj' : j < ys'.length * sz' := by simpa using hj
        simpa using hm.one _ _ _ (hcell j hj')
      · have hlt : i * sz' + j < ys'.length * sz' := by
          have := Nat.mul_le_mul_right sz' (Nat.succ_le_of_lt hi)
          rw [Nat.succ_mul] at this; omega
        have e1 : (i * sz' + j) / sz' = i := by rw [Nat.mul_comm, Nat.mul_add_div (by omega), Nat.div_eq_of_lt hj, Nat.add_zero]
        have e2 : (i * sz' + j) % sz' = j := by rw [Nat.mul_comm, Nat.mul_add_mod, Nat.mod_eq_of_lt hj]
        have := h2 i j hi hj
        simpa [hlt, e1, e2] using this
      · simp only [Builtin.firstCells]
        exact fromCells b off _ _ (fun j hj => hm.com _ _ _ (hcell j hj)) k
    · cases h
  · rename_i id sz' n
    split at h
    · rename_i s ys' hmid
      split at h
      · rename_i hc
        obtain ⟨rfl, rfl, hle⟩ := hc
        simp only [Option.some.injEq, Prod.mk.injEq] at h; obtain ⟨rfl, rfl⟩ := h
        rcases hv.sl_inv' with ⟨rfl, hu, _⟩ | ⟨b, cap, hu, hb, hcap, _⟩
        · rw [hu]
          exact ⟨fun i hi => absurd hi (by simp), #[], by simp, fun j hj => absurd hj (Nat.not_lt_zero _), fun i j hi => absurd hi (by simp), fun k => by simp [Builtin.lenOf], fun k => by simp [Builtin.firstCells]⟩
        obtain ⟨b', g1, g2, g3, g4⟩ := hm.objL (hn (id, .arr s ys') (by simp)) hb
        rw [hb] at g1; simp only [Option.some.injEq] at g1; subst g1
        obtain ⟨c, t, fz, c1, c2, c3, c4, c6, c5⟩ := g4
        rw [hu]
        have hlen : (ys'.take n).length = n := by simp; omega
        have hmul : n * s ≤ ys'.length * s := Nat.mul_le_mul_right s hle
        rw [hlen]
        refine ⟨fun i hi => by rw [getD_take _ _ _ _ hi]; exact c4 i (by omega), ((List.range (n * s)).map fun j => c.getD j undef).toArray, by simp, fun j hj => ?_, fun i j hi hj => ?_, fun k => by simp [Builtin.lenOf], fun k => ?_⟩
        · have hj' : j < n * s := by simpa using hj
          simpa using c6 j (by omega)
        · have hlt : i * s + j < n * s := by
            have := Nat.mul_le_mul_right s (Nat.succ_le_of_lt hi)
            rw [Nat.succ_mul] at this; omega
          rw [getD_take _ _ _ _ hi]
          have := c5 i j (by omega) hj
          simpa [hlt] using this
        · simp only [Builtin.firstCells]
          refine fromCells b 0 _ _ (fun j hj => ?_) k
          have hlt : j < c.size := by omega
          simp [World.cell?, c1, hlt]
      · cases h
    · cases h
  · rename_i s
    split at h
    · rename_i e; subst e
      simp only [Option.some.injEq, Prod.mk.injEq] at h; obtain ⟨rfl, rfl⟩ := h
      obtain ⟨b, hu, hb⟩ := hv.str_inv
      rw [hu]; subst hb
      have hsz : b.size = b.data.toList.length := by simp
      refine ⟨fun i hi => ?_, b.data.map fun x => .int .u8 x.toNat, by simp, fun j hj => by simp [Value.oneCell'], fun i j hi hj => ?_, fun k => by simp [Builtin.lenOf], fun k => ?_⟩
      · simp only [List.length_map] at hi
        simp only [List.getD_eq_getElem?_getD, List.getElem?_map, List.getElem?_eq_getElem hi, Option.map_some, Option.getD_some]; rfl
      · simp only [List.length_map] at hi
        have hj0 : j = 0 := by omega
        subst hj0
        have hi' : i < b.data.size := by simpa using hi
        simp only [List.getD_eq_getElem?_getD, List.getElem?_map, List.getElem?_eq_getElem hi, Option.map_some, Option.getD_some, Nat.mul_one, Nat.add_zero, Array.getD_eq_getD_getElem?, Array.getElem?_map, Array.getElem?_eq_getElem hi', Array.getElem_toList]
        exact .int _ _
      · simp only [Builtin.firstCells, List.length_map, Sem.run_pure]
        rw [← hsz]
        have : b.extract 0 b.size = b := by
          apply ByteArray.ext; rw [ByteArray.data_extract]; simp
        rw [this]
    · cases h
  · cases h
end
end Go.Ab
