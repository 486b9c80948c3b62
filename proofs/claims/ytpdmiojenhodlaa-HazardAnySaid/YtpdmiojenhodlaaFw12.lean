/- What single operations do: structs and slices built of their parts; append; new maps. -/
import Derived.Test.YtpdmiojenhodlaaFw11
set_option linter.unusedVariables false
set_option linter.unusedSimpArgs false
namespace Go.Ab
section
variable {P : Program} {o : Oper} {ρ : Operand → AV} {sp : Oid → Prop}

/-! ### filling a row -/
theorem foldl_set (vs : List Value) : ∀ (off k : Nat) (c : Array Value), off + k + vs.length ≤ c.size →
    ((vs.zipIdx k).foldl (fun cs q => cs.setIfInBounds (off + q.2) q.1) c).size = c.size ∧
    ∀ j, ((vs.zipIdx k).foldl (fun cs q => cs.setIfInBounds (off + q.2) q.1) c).getD j undef = if off + k ≤ j ∧ j < off + k + vs.length then vs.getD (j - (off + k)) undef else c.getD j undef := by
  induction vs with
  | nil => intro off k c _; exact ⟨rfl, fun j => by rw [if_neg (by simp only [List.length_nil]; omega)]; rfl⟩
  | cons v vs ih =>
    intro off k c h
    simp only [List.length_cons] at h
    simp only [List.zipIdx_cons, List.foldl_cons]
    obtain ⟨h1, h2⟩ := ih off (k + 1) (c.setIfInBounds (off + k) v) (by simp; omega)
    refine ⟨by rw [h1]; simp, fun j => ?_⟩
    rw [h2]
    simp only [List.length_cons]
    by_cases e : j = off + k
    · subst e
      rw [if_neg (by omega), if_pos (by omega)]
      simp [show off + k < c.size from by omega]
    · by_cases hin : off + (k + 1) ≤ j ∧ j < off + (k + 1) + vs.length
      · rw [if_pos hin, if_pos (by omega)]
        have : j - (off + k) = (j - (off + (k + 1))) + 1 := by omega
        rw [this]; simp [List.getD_eq_getElem?_getD]
      · rw [if_neg hin, if_neg (by omega)]
        simp [Array.getElem?_setIfInBounds_ne (Ne.symm e)]

/-- One part set in. -/
theorem foldl_part {u : Value} {off : Nat} {c : Array Value} (h : off + u.cells.size ≤ c.size) :
    (u.cells.zipIdx.foldl (fun cs (q : Value × Nat) => cs.setIfInBounds (off + q.2) q.1) c).size = c.size ∧
    ∀ j, (u.cells.zipIdx.foldl (fun cs (q : Value × Nat) => cs.setIfInBounds (off + q.2) q.1) c).getD j undef = if off ≤ j ∧ j < off + u.cells.size then u.cells.getD (j - off) undef else c.getD j undef := by
  have := foldl_set u.cells.toList off 0 c (by simpa using h)
  rw [← Array.foldl_toList, Array.toList_zipIdx]
  simpa using this

def fillA (pl : Nat → Option (Nat × Nat)) : List AV → List (Nat × AV) → Option (List AV)
  | cells, [] => some cells
  | cells, (k, v) :: r => match pl k with
    | some (off, n) => if v.known = true ∧ v.cells.length = n ∧ off + n ≤ cells.length then fillA pl (spl cells off v.cells) r else none
    | none => none

theorem fill_spec {g : Gh} {pl : Nat → Option (Nat × Nat)} : ∀ {ps : List (Nat × AV)} {qs : List (Nat × Value)} {cells out : List AV} {c : Array Value}, fillA pl cells ps = some out → ps.length = qs.length →
    (∀ j (h : j < ps.length) (h' : j < qs.length), ps[j].1 = qs[j].1 ∧ VR g ps[j].2 qs[j].2) → c.size = cells.length → (∀ j, j < cells.length → VR g (cells.getD j .undef) (c.getD j undef)) →
    ∃ c', Instr.fill pl c qs = some c' ∧ c'.size = out.length ∧ ∀ j, j < out.length → VR g (out.getD j .undef) (c'.getD j undef)
  | [], [], cells, out, c, h, _, _, hs, hv => by
    simp only [fillA, Option.some.injEq] at h; subst h
    exact ⟨c, rfl, hs, hv⟩
  | [], _ :: _, _, _, _, _, hl, _, _, _ => by simp at hl
  | _ :: _, [], _, _, _, _, hl, _, _, _ => by simp at hl
  | (k, v) :: ps, (k', u) :: qs, cells, out, c, h, hl, hp, hs, hv => by
    obtain ⟨e, hvu⟩ := hp 0 (by simp) (by simp)
    simp only [List.getElem_cons_zero] at e hvu
    subst e
    simp only [fillA] at h
    split at h
    · rename_i off n hpl
      split at h
      · rename_i hc
        obtain ⟨hk, hn, hle⟩ := hc
        obtain ⟨u1, u2⟩ := hvu.cells hk
        have hsz : ¬ (u.cells.size ≠ n || off + u.cells.size > c.size) = true := by simp; omega
        obtain ⟨f1, f2⟩ := foldl_part (u := u) (off := off) (c := c) (by omega)
        have := fill_spec (qs := qs) (c := u.cells.zipIdx.foldl (fun cs (q : Value × Nat) => cs.setIfInBounds (off + q.2) q.1) c) h (by simpa using hl)
          (fun j h1 h2 => by have := hp (j + 1) (by simp; omega) (by simp; omega); simpa using this) (by rw [f1, spl_length (by omega)]; exact hs)
          (fun j hj => by
            rw [spl_length (by omega)] at hj
            rw [spl_getD (by omega), f2]
            by_cases hin : off ≤ j ∧ j < off + v.cells.length
            · rw [if_pos hin, if_pos (by omega)]; exact u2 _ (by omega)
            · rw [if_neg hin, if_neg (by omega)]; exact hv j hj)
        obtain ⟨c', h1, h2, h3⟩ := this
        refine ⟨c', ?_, h2, h3⟩
        simp only [Instr.fill, hpl]
        rw [if_neg hsz]
        exact h1
      · cases h
    · cases h

/-! ### build -/
def buildA (P : Program) (t : TypeId) (ps : List (Nat × AV)) : Option AV :=
  match tyk P t, zer P t with
  | some (.struct l), some z => (fillA (fun k => (l[k]?).map fun q => (q.1, q.2.2)) z ps).map .agg
  | some (.arr _ _ _ sz), some z => (fillA (fun k => some (k * sz, sz)) z ps).map .agg
  | _, _ => none
theorem parts_vr {g : Gh} {a : Act} {ps : Array (Nat × Operand)} (h : ∀ t, t ∈ ps.toList.map (·.2) → VR g (ρ t) (a.eval t)) :
    (ps.toList.map fun q => (q.1, ρ q.2)).length = (ps.map fun q => (q.1, a.eval q.2)).toList.length ∧
    ∀ j (h1 : j < (ps.toList.map fun q => (q.1, ρ q.2)).length) (h2 : j < (ps.map fun q => (q.1, a.eval q.2)).toList.length),
      (ps.toList.map fun q => (q.1, ρ q.2))[j].1 = ((ps.map fun q => (q.1, a.eval q.2)).toList[j]).1 ∧ VR g (ps.toList.map fun q => (q.1, ρ q.2))[j].2 ((ps.map fun q => (q.1, a.eval q.2)).toList[j]).2 := by
  refine ⟨by simp, fun j h1 h2 => ?_⟩
  simp only [List.length_map, Array.length_toList] at h1
  refine ⟨by simp, ?_⟩
  have := h (ps[j]).2 (List.mem_map.2 ⟨ps[j], by simp, rfl⟩)
  simpa using this

theorem eff_build {t : TypeId} {ps : Array (Nat × Operand)} {v : AV} (ho : o.op = .build t ps) (h : buildA P t (ps.toList.map fun q => (q.1, ρ q.2)) = some v) : EffOK P o ρ sp ⟨[], v, []⟩ := by
  refine EffOK.plain fun g a w hop => ?_
  have hop' : ∀ t, t ∈ ps.toList.map (·.2) → VR g (ρ t) (a.eval t) := fun t ht => hop t (by rw [ho]; simpa [Op.operands] using ht)
  obtain ⟨pl, pv⟩ := parts_vr hop'
  unfold buildA at h
  split at h
  · rename_i l z e1 e2
    obtain ⟨d, hd, fs, rfl, hm⟩ := tyk_spec e1
    simp only [Option.map_eq_some_iff] at h
    obtain ⟨out, hf, rfl⟩ := h
    unfold zer at e2
    simp only [Option.map_eq_some_iff, Option.bind_eq_some_iff] at e2
    obtain ⟨zv, ⟨i, hi, hz⟩, rfl⟩ := e2
    -- the places
    have hpl : ∃ places, fs.toList.mapM (fun f => (P.info? f.type).map fun i => (f.offset, i.size)) = some places ∧ ∀ k : Nat, places[k]? = (l[k]?).map fun (q : Nat × Bool × Nat) => (q.1, q.2.2) := by
      have key : ∀ (fs : List Field) (l : List (Nat × Bool × Nat)), fs.mapM (fun (f : Field) => (shp P f.type).map fun q => (f.offset, q.1, q.2)) = some l →
          ∃ places, fs.mapM (fun (f : Field) => (P.info? f.type).map fun i => (f.offset, i.size)) = some places ∧ ∀ k : Nat, places[k]? = (l[k]?).map fun q => (q.1, q.2.2) := by
        intro fs
        induction fs with
        | nil => intro l hl; simp at hl; subst hl; exact ⟨[], by simp, fun k => by simp⟩
        | cons f fs ih =>
          intro l hl
          simp only [List.mapM_cons, Option.bind_eq_bind, Option.bind_eq_some_iff, Option.map_eq_some_iff, Option.pure_def, Option.some.injEq] at hl
          obtain ⟨q, ⟨q', hq', rfl⟩, rest, hrest, rfl⟩ := hl
          obtain ⟨places, p1, p2⟩ := ih rest hrest
          obtain ⟨d, i, hd, hi, _, hsz⟩ := shp_spec (b := q'.1) (n := q'.2) hq'
          refine ⟨(f.offset, q'.2) :: places, by simp [List.mapM_cons, hi, hsz, p1], fun k => ?_⟩
          cases k with
          | zero => rfl
          | succ k => simpa using p2 k
      exact key fs.toList l hm
    obtain ⟨places, p1, p2⟩ := hpl
    have hpf : (fun (k : Nat) => (l[k]?).map fun (q : Nat × Bool × Nat) => (q.1, q.2.2)) = fun k => places[k]? := funext fun k => (p2 k).symm
    rw [hpf] at hf
    obtain ⟨c', f1, f2, f3⟩ := fill_spec (g := g) (c := zv.cells) hf pl pv (constA_cells zv).symm (fun j hj => constA_cell g zv j hj)
    refine ⟨.agg c', ?_, .agg _ _ f2 f3⟩
    have hb : P.built t (ps.map fun q => (q.1, a.eval q.2)).toList = some c' := by
      simp only [Program.built, hi, hd, hz, p1]
      simpa using f1
    simp [execOp, ho, run_build w t _ c' hb]
  · rename_i n el ag sz z e1 e2
    obtain ⟨d, hd, rfl, hs⟩ := tyk_spec e1
    simp only [Option.map_eq_some_iff] at h
    obtain ⟨out, hf, rfl⟩ := h
    unfold zer at e2
    simp only [Option.map_eq_some_iff, Option.bind_eq_some_iff] at e2
    obtain ⟨zv, ⟨i, hi, hz⟩, rfl⟩ := e2
    obtain ⟨_, ie, _, hie, _, hsz⟩ := shp_spec hs
    obtain ⟨c', f1, f2, f3⟩ := fill_spec (g := g) (c := zv.cells) hf pl pv (constA_cells zv).symm (fun j hj => constA_cell g zv j hj)
    refine ⟨.agg c', ?_, .agg _ _ f2 f3⟩
    have hb : P.built t (ps.map fun q => (q.1, a.eval q.2)).toList = some c' := by
      simp only [Program.built, hi, hd, hz, hie, hsz]
      exact f1
    simp [execOp, ho, run_build w t _ c' hb]
  · cases h

/-! ### buildSlice: all places written out, in their order -/
def inOrder : Nat → List (Nat × AV) → Bool
  | _, [] => true
  | n, q :: r => q.1 == n && inOrder (n + 1) r
def litOK (P : Program) (k : Option TyK) (n : Nat) (ps : List (Nat × AV)) : Option (Nat × List AV) :=
  match k with
  | some (.slice el _ sz _) => if (zer P el).isSome = true ∧ ps.length = n ∧ inOrder 0 ps = true ∧ n * sz ≤ 16777216 ∧ 0 < sz ∧ (ps.all fun q => q.2.cells.all AV.one && q.2.cells.length == sz) = true then some (sz, ps.map (·.2)) else none
  | _ => none

theorem row_fill {sz : Nat} : ∀ (ps : List (Nat × Value)) (k : Nat) (c : Array Value), (∀ j (h : j < ps.length), ps[j].1 = k + j ∧ ps[j].2.cells.size = sz) → (k + ps.length) * sz ≤ c.size →
    ∃ c', Instr.fill (fun i => some (i * sz, sz)) c ps = some c' ∧ c'.size = c.size ∧ (∀ i j, i < ps.length → j < sz → c'.getD ((k + i) * sz + j) undef = ((ps.getD i (0, undef)).2.cells.getD j undef)) ∧ ∀ j, j < k * sz → c'.getD j undef = c.getD j undef
  | [], k, c, _, _ => ⟨c, rfl, rfl, fun i j h => by simp at h, fun _ _ => rfl⟩
  | (k', u) :: ps, k, c, hp, hc => by
    obtain ⟨e, hu⟩ := hp 0 (by simp)
    simp only [List.getElem_cons_zero, Nat.add_zero] at e hu
    subst e
    simp only [List.length_cons] at hc
    have hc' : k' * sz + sz + ps.length * sz ≤ c.size := by
      have : (k' + (ps.length + 1)) * sz = k' * sz + sz + ps.length * sz := by rw [Nat.add_mul, Nat.add_mul]; omega
      omega
    obtain ⟨f1, f2⟩ := foldl_part (u := u) (off := k' * sz) (c := c) (by omega)
    obtain ⟨c', h1, h2, h3, h4⟩ := row_fill ps (k' + 1) (u.cells.zipIdx.foldl (fun cs (q : Value × Nat) => cs.setIfInBounds (k' * sz + q.2) q.1) c) (fun j h => by
      have := hp (j + 1) (by simp; omega)
      simp only [List.getElem_cons_succ] at this
      exact ⟨by omega, this.2⟩) (by rw [f1, Nat.add_mul, Nat.add_mul]; omega)
    have hsz : ¬ (u.cells.size ≠ sz || k' * sz + u.cells.size > c.size) = true := by simp; omega
    refine ⟨c', by simp only [Instr.fill]; rw [if_neg hsz]; exact h1, by rw [h2, f1], fun i j hi hj => ?_, fun j hj => ?_⟩
    · cases i with
      | zero =>
        rw [Nat.add_zero, h4 _ (by rw [Nat.add_mul]; omega), f2, if_pos (by omega)]
        simp
      | succ i =>
        have := h3 i j (by simpa using hi) hj
        rw [show k' + 1 + i = k' + (i + 1) from by omega] at this
        rw [this]; simp [List.getD_eq_getElem?_getD]
    · rw [h4 j (by rw [Nat.add_mul]; omega), f2, if_neg (by omega)]

theorem lit_spec {t : TypeId} {n sz : Nat} {ps : Array (Nat × Operand)} {vs : List AV} (h : litOK P (tyk P t) n (ps.toList.map fun q => (q.1, ρ q.2)) = some (sz, vs)) {g : Gh} {a : Act} {w : World} (hop : ∀ t, t ∈ ps.toList.map (·.2) → VR g (ρ t) (a.eval t)) :
    vs.length = n ∧ (∀ i, i < n → (vs.getD i .undef).cells.length = sz) ∧ ∃ (e : TypeId) (c : Array Value), (Instr.buildSlice t n (ps.map fun q => (q.1, a.eval q.2))).run P w = .ok (.slice (some ⟨w.heap.size, 0, none⟩) n n) (w.alloc (.cells c e)) ∧ c.size = n * sz ∧
      (∀ j (hj : j < c.size), c[j].oneCell' = true) ∧ ∀ i j, i < n → j < sz → VR g ((vs.getD i .undef).cells.getD j .undef) (c.getD (i * sz + j) undef) := by
  unfold litOK at h
  split at h
  · rename_i el ag sz' by' e1
    obtain ⟨d, hd, rfl, hs, _⟩ := tyk_spec e1
    split at h
    · rename_i hc
      obtain ⟨hzer, hl, hord, hmax, hpos, hall⟩ := hc
      simp only [Option.some.injEq, Prod.mk.injEq] at h
      obtain ⟨rfl, rfl⟩ := h
      simp only [List.length_map, Array.length_toList] at hl
      have hall' : ∀ j, j < n → ((ρ (ps.getD j (0, .const .nilFunc)).2).cells.all AV.one = true) ∧ (ρ (ps.getD j (0, .const .nilFunc)).2).cells.length = sz' := by
        intro j hj
        have hj' : j < ps.size := by omega
        have := List.all_eq_true.1 hall (ps[j].1, ρ ps[j].2) (List.mem_map.2 ⟨ps[j], by simp, rfl⟩)
        simpa [hj'] using this
      have hord' : ∀ j, j < n → (ps.getD j (0, .const .nilFunc)).1 = j := by
        have key : ∀ (l : List (Nat × AV)) (k : Nat), inOrder k l = true → ∀ j (h : j < l.length), l[j].1 = k + j := by
          intro l
          induction l with
          | nil => intro k _ j h; simp at h
          | cons q l ih =>
            intro k hk j h
            simp only [inOrder, Bool.and_eq_true, beq_iff_eq] at hk
            cases j with
            | zero => simpa using hk.1
            | succ j => have := ih (k + 1) hk.2 j (by simpa using h); simp only [List.getElem_cons_succ]; omega
        intro j hj
        have := key _ 0 hord j (by simpa using (by omega : j < ps.size))
        have hj' : j < ps.size := by omega
        simpa [hj'] using this
      have hvr : ∀ j, j < n → VR g (ρ (ps.getD j (0, .const .nilFunc)).2) (a.eval (ps.getD j (0, .const .nilFunc)).2) := by
        intro j hj
        have hj' : j < ps.size := by omega
        exact hop _ (List.mem_map.2 ⟨ps.getD j (0, .const .nilFunc), by simp [hj'], rfl⟩)
      have hgetv : ∀ i, i < n → ((ps.toList.map fun q => (q.1, ρ q.2)).map (·.2)).getD i .undef = ρ (ps.getD i (0, .const .nilFunc)).2 := by
        intro i hi
        have hi' : i < ps.size := by omega
        simp [List.getD_eq_getElem?_getD, hi']
      refine ⟨by simpa using hl, fun i hi => by rw [hgetv i hi]; exact (hall' i hi).2, el, ?_⟩
      obtain ⟨_, inf, hdu, hinf, _, hsz⟩ := shp_spec hs
      -- the zero row
      have hlt : ¬ n * sz' > 2 ^ 24 := by simpa using hmax
      have hgetq : ∀ i, i < n → (ps.map fun q => (q.1, a.eval q.2)).toList.getD i (0, undef) = (i, a.eval (ps.getD i (0, .const .nilFunc)).2) := by
        intro i hi
        have hi' : i < ps.size := by omega
        have := hord' i hi
        simp only [hi', Array.getD_eq_getD_getElem?, Array.getElem?_eq_getElem, Option.getD_some] at this ⊢
        simp [List.getD_eq_getElem?_getD, hi', this]
      have hfill : ∀ c0 : Array Value, c0.size = n * sz' → ∃ c', Instr.fill (fun i => some (i * sz', sz')) c0 (ps.map fun q => (q.1, a.eval q.2)).toList = some c' ∧ c'.size = n * sz' ∧ ∀ i j, i < n → j < sz' → c'.getD (i * sz' + j) undef = (a.eval (ps.getD i (0, .const .nilFunc)).2).cells.getD j undef := by
        intro c0 hc0
        have := row_fill (sz := sz') (ps.map fun q => (q.1, a.eval q.2)).toList 0 c0 (fun j hj => by
          have hj' : j < n := by simpa [hl] using hj
          have h1 := hgetq j hj'
          rw [List.getD_eq_getElem?_getD, List.getElem?_eq_getElem hj, Option.getD_some] at h1
          rw [h1]
          refine ⟨by simp, ?_⟩
          have := ((hvr j hj').cells (AV.one_known (hall' j hj').1)).1
          rw [(hall' j hj').2] at this; exact this) (by simp [hl, hc0])
        obtain ⟨c', h1, h2, h3, _⟩ := this
        refine ⟨c', h1, by rw [h2, hc0], fun i j hi hj => ?_⟩
        have := h3 i j (by simpa [hl] using hi) hj
        rw [Nat.zero_add, hgetq i hi] at this
        exact this
      -- the run, at whatever zero
      have hrun : ∃ c, (Instr.buildSlice t n (ps.map fun q => (q.1, a.eval q.2))).run P w = .ok (.slice (some ⟨w.heap.size, 0, none⟩) n n) (w.alloc (.cells c el)) ∧ c.size = n * sz' ∧ ∀ i j, i < n → j < sz' → c.getD (i * sz' + j) undef = (a.eval (ps.getD i (0, .const .nilFunc)).2).cells.getD j undef := by
        by_cases h0 : n * sz' = 0
        · obtain ⟨c', h1, h2, h3⟩ := hfill #[] (by simp [h0])
          refine ⟨c', ?_, h2, h3⟩
          have hn0 : n = 0 := by
            rcases Nat.mul_eq_zero.1 h0 with h | h
            · exact h
            · omega
          subst hn0
          simp only [Nat.zero_mul] at hlt
          simp [Instr.buildSlice, run_underlying' hd, run_sizeOf hs, newRow]
          have hps : ps = #[] := by simpa using hl
          subst hps
          simp only [Instr.fill, List.map_toArray, List.map_nil, Option.some.injEq] at h1 ⊢
          simp [Instr.fill, ← h1, show Array.range 0 = #[] from rfl]
        · cases hz : inf.zero with
          | none => simp [zer, hinf, hz] at hzer
          | some zv =>
            obtain ⟨c', h1, h2, h3⟩ := hfill ((Array.range (n * sz')).map (zv.cells[· % zv.cells.size]!)) (by simp)
            refine ⟨c', ?_, h2, h3⟩
            simp only [Instr.buildSlice, Sem.run_bind, run_underlying' hd, Result.andThen_ok, run_sizeOf hs, hlt, if_false, h0, zeroValue, typeInfo, run_program, hinf, Sem.run_pure, hz, h1, newRow, run_newObj, World.alloc_eq]
      obtain ⟨c, hc1, hc2, hc3⟩ := hrun
      refine ⟨c, hc1, hc2, fun j hj => ?_, fun i j hi hj => ?_⟩
      · have hq : j / sz' < n := by rw [Nat.div_lt_iff_lt_mul hpos]; omega
        have hr : j % sz' < sz' := Nat.mod_lt _ hpos
        have := hc3 (j / sz') (j % sz') hq hr
        rw [Nat.div_add_mod' j sz'] at this
        have hone := (hvr _ hq).ones (hall' _ hq).1
        have hsz2 := ((hvr _ hq).cells (AV.one_known (hall' _ hq).1)).1
        rw [(hall' _ hq).2] at hsz2
        generalize (a.eval (ps.getD (j / sz') (0, .const .nilFunc)).2).cells = A at *
        have hlt2 : j % sz' < A.size := by omega
        simp only [Array.getD_eq_getD_getElem?, Array.getElem?_eq_getElem hj, Array.getElem?_eq_getElem hlt2, Option.getD_some] at this
        rw [this]
        exact hone _ (by simp)
      · rw [hgetv i hi, hc3 i j hi hj]
        exact ((hvr i hi).cells (AV.one_known (hall' i hi).1)).2 j (by rw [(hall' i hi).2]; exact hj)
    · cases h
  · cases h
end
end Go.Ab
