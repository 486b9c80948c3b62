/- What single operations do, one by one: values, addresses, loads, stores, new variables. -/
import Derived.Test.YtpdmiojenhodlaaFw6
set_option linter.unusedVariables false
set_option linter.unusedSimpArgs false
namespace Go.Ab

/-- What running an operation comes to. -/
inductive OpR where
  | eff (e : Eff)
  | call (f : FuncId) (args : List AV)
  | no

def pureR (v : AV) : OpR := .eff ⟨[], v, []⟩

section
variable {P : Program} {o : Oper} {ρ : Operand → AV} {sp : Oid → Prop}

theorem heap_new (w : World) (o : Obj) : (w.alloc o).heap[w.heap.size]? = some o := by simp only [World.alloc, Array.getElem?_push, if_true]
theorem addr_add (b k j : Nat) : Addr.add ⟨b, k, none⟩ j = ⟨b, k + j, none⟩ := by
  unfold Addr.add; split
  · rename_i h; subst h; rfl
  · rfl

/-! ### move, assign, pick -/
theorem eff_move {y : Operand} (ho : o.op = .move y ∨ o.op = .assign y) : EffOK P o ρ sp ⟨[], ρ y, []⟩ := by
  refine EffOK.plain fun g a w h => ⟨a.eval y, ?_, h y ?_⟩
  · rcases ho with ho | ho <;> simp [execOp, ho]
  · rcases ho with ho | ho <;> simp [Op.operands, ho]

theorem eff_pick {c y z : Operand} {b : Bool} (ho : o.op = .pick c y z) (hc : ρ c = .bool b) : EffOK P o ρ sp ⟨[], if b then ρ y else ρ z, []⟩ := by
  refine EffOK.plain fun g a w h => ⟨if b then a.eval y else a.eval z, ?_, ?_⟩
  · have := (hc ▸ h c (by simp [Op.operands, ho])).bool_inv
    simp [execOp, ho, this, asBool]
  · cases b
    · exact h z (by simp [Op.operands, ho])
    · exact h y (by simp [Op.operands, ho])

/-! ### the cells behind an address -/
def cellsAt (m : Mem) : AV → Option (List (Oid × AObj) × List AV)
  | .ptr id off => match m id with
    | some (.cells vs) => some ([(id, .cells vs)], vs.drop off)
    | _ => none
  | .aptr id sz i off => match m id with
    | some (.arr sz' xs) => if sz' = sz ∧ i < xs.length then some ([(id, .arr sz' xs)], (xs.getD i .undef).cells.drop off) else none
    | _ => none
  | .eptr v => some ([], v.cells)
  | _ => none

theorem getD_drop (l : List AV) (k j : Nat) (d : AV) : (l.drop k).getD j d = l.getD (k + j) d := by simp [List.getD_eq_getElem?_getD, List.getElem?_drop]
theorem getD_take (l : List AV) (n j : Nat) (d : AV) (h : j < n) : (l.take n).getD j d = l.getD j d := by simp [List.getD_eq_getElem?_getD, List.getElem?_take, h]

theorem cellsAt_spec {x : Ctx} {g : Gh} {m m0 : Mem} {w : World} (hm : MemRel x g m w) {v : AV} {u : Value} (hv : VR g v u) {nd : List (Oid × AObj)} {l : List AV} (h : cellsAt m0 v = some (nd, l))
    (hn : ∀ q, q ∈ nd → m q.1 = some q.2) : ∃ b k, u = .pointer (some ⟨b, k, none⟩) ∧ ∃ f : Nat → Value, ∀ j, j < l.length → w.cell? ⟨b, k + j, none⟩ = some (f j) ∧ VR g (l.getD j .undef) (f j) := by
  cases v <;> simp only [cellsAt] at h <;> try (cases h; done)
  case ptr id off =>
    obtain ⟨b, rfl, hb⟩ := hv.ptr_inv
    split at h
    · rename_i vs hvs
      simp only [Option.some.injEq, Prod.mk.injEq] at h
      obtain ⟨rfl, rfl⟩ := h
      obtain ⟨b', h1, h2, h3, h4⟩ := hm.obj id _ (hn (id, .cells vs) (by simp))
      rw [hb] at h1; simp only [Option.some.injEq] at h1; subst h1
      obtain ⟨c, t, fz, c1, c2, c3, c4⟩ := h4
      refine ⟨b, off, rfl, fun j => c.getD (off + j) undef, fun j hj => ?_⟩
      simp only [List.length_drop] at hj
      refine ⟨?_, ?_⟩
      · have : off + j < c.size := by omega
        simp [World.cell?, c1, this]
      · rw [getD_drop]; exact c4 _ (by omega)
    · cases h
  case aptr id sz i off =>
    obtain ⟨b, rfl, hb⟩ := hv.aptr_inv
    split at h
    · rename_i sz' xs hvs
      split at h
      · rename_i hc
        obtain ⟨rfl, hi⟩ := hc
        simp only [Option.some.injEq, Prod.mk.injEq] at h
        obtain ⟨rfl, rfl⟩ := h
        obtain ⟨b', h1, h2, h3, h4⟩ := hm.objL (hn (id, .arr sz' xs) (by simp)) hb
        rw [hb] at h1; simp only [Option.some.injEq] at h1; subst h1
        obtain ⟨c, t, fz, c1, c2, c3, c4, c6, c5⟩ := h4
        refine ⟨b, i * sz' + off, rfl, fun j => c.getD (i * sz' + off + j) undef, fun j hj => ?_⟩
        simp only [List.length_drop, c4 i hi] at hj
        have hle : i * sz' + sz' ≤ xs.length * sz' := by
          have := Nat.mul_le_mul_right sz' (Nat.succ_le_of_lt hi)
          rwa [Nat.succ_mul] at this
        refine ⟨?_, ?_⟩
        · have : i * sz' + off + j < c.size := by omega
          simp [World.cell?, c1, this]
        · rw [getD_drop]
          have := c5 i (off + j) hi (by omega)
          rwa [← Nat.add_assoc] at this
      · cases h
    · cases h
  case eptr v =>
    simp only [Option.some.injEq, Prod.mk.injEq] at h
    obtain ⟨rfl, rfl⟩ := h
    obtain ⟨b, k, cs, rfl, h1, h2⟩ := hv.eptr_inv
    exact ⟨b, k, rfl, cs, fun j hj => ⟨hm.com _ _ _ (h1 j hj), h2 j hj⟩⟩

theorem cellsAt_need {m : Mem} {v : AV} {nd : List (Oid × AObj)} {l : List AV} (h : cellsAt m v = some (nd, l)) : ∀ q, q ∈ nd → m q.1 = some q.2 := by
  cases v <;> simp only [cellsAt] at h <;> try (cases h; done)
  case ptr id off =>
    split at h
    · rename_i vs hvs
      simp only [Option.some.injEq, Prod.mk.injEq] at h
      obtain ⟨rfl, rfl⟩ := h
      intro q hq; simp only [List.mem_singleton] at hq; subst hq; exact hvs
    · cases h
  case aptr id sz i off =>
    split at h
    · rename_i sz' xs hvs
      split at h
      · simp only [Option.some.injEq, Prod.mk.injEq] at h
        obtain ⟨rfl, rfl⟩ := h
        intro q hq; simp only [List.mem_singleton] at hq; subst hq; exact hvs
      · cases h
    · cases h
  case eptr v =>
    simp only [Option.some.injEq, Prod.mk.injEq] at h
    obtain ⟨rfl, rfl⟩ := h
    intro q hq; cases hq

/-! ### load -/
def loadA (s : Option (Bool × Nat)) (m : Mem) (v : AV) : OpR :=
  match s, cellsAt m v with
  | some (true, n), some (nd, l) => if n ≤ l.length then .eff ⟨nd, .agg (l.take n), []⟩ else .no
  | some (false, _), some (nd, l) => if 0 < l.length then .eff ⟨nd, l.getD 0 .undef, []⟩ else .no
  | _, _ => .no

theorem eff_load {t : TypeId} {y : Operand} {m0 : Mem} {e : Eff} (ho : o.op = .load t y) (h : loadA (shp P t) m0 (ρ y) = .eff e) : EffOK P o ρ sp e ∧ ∀ q, q ∈ e.need → m0 q.1 = some q.2 := by
  unfold loadA at h
  split at h
  · rename_i s v n nd l hs hc
    split at h
    · rename_i hn
      simp only [OpR.eff.injEq] at h; subst h
      refine ⟨EffOK.of fun x g a w m hm hnd hop _ => ?_, cellsAt_need hc⟩
      obtain ⟨b, k, hu, f, hf⟩ := cellsAt_spec hm (hop y (by simp [Op.operands, ho])) hc hnd
      refine ⟨g, .value (.agg ((List.range n).map f).toArray), _, w, ?_, .inl rfl, Gh.le_refl g, fun _ _ => rfl, ?_, hm⟩
      · have hl := run_loadCells (P := P) w ⟨b, k, none⟩ n f (fun j hj => by rw [addr_add]; exact (hf j (by omega)).1)
        simp [execOp, ho, Instr.loadAt, hu, Instr.sureAddr, loadVar, run_isAgg hs, run_sizeOf hs, hl]
      · refine .agg _ _ (by simp; omega) fun j hj => ?_
        have hj' : j < n := by simp at hj; omega
        rw [getD_take _ _ _ _ hj']
        have := (hf j (by omega)).2
        simpa [hj'] using this
    · cases h
  · rename_i s v n nd l hs hc
    split at h
    · rename_i hn
      simp only [OpR.eff.injEq] at h; subst h
      refine ⟨EffOK.of fun x g a w m hm hnd hop _ => ?_, cellsAt_need hc⟩
      obtain ⟨b, k, hu, f, hf⟩ := cellsAt_spec hm (hop y (by simp [Op.operands, ho])) hc hnd
      refine ⟨g, .value (f 0), _, w, ?_, .inl rfl, Gh.le_refl g, fun _ _ => rfl, (hf 0 hn).2, hm⟩
      have := (hf 0 hn).1
      simp only [Nat.add_zero] at this
      simp [execOp, ho, Instr.loadAt, hu, Instr.sureAddr, loadVar, run_isAgg hs, this]
    · cases h
  · cases h

/-! ### alloc, box -/
theorem eff_alloc {t : TypeId} {z : List AV} {nid : Oid} (ho : o.op = .alloc t) (hz : zer P t = some z) (hs : sp nid) : EffOK P o ρ sp ⟨[], .ptr nid 0, [(nid, some (.cells z))]⟩ := by
  unfold zer at hz
  simp only [Option.map_eq_some_iff, Option.bind_eq_some_iff] at hz
  obtain ⟨v, ⟨i, hi, hv⟩, rfl⟩ := hz
  refine EffOK.of fun x g a w m hm _ _ hsp => ?_
  obtain ⟨hl, hu⟩ := hsp nid hs
  refine ⟨g.bind nid w.heap.size, .value (.pointer (some ⟨w.heap.size, 0, none⟩)), _, w.alloc (.cells v.cells t), ?_, .inl rfl, Gh.le_bind hl, fun j hj => ?_, .ptr _ _ _ (by simp [Gh.bind]), hm.new hl hu ?_⟩
  · simp [execOp, ho, Instr.alloc, zeroValue, typeInfo, hi, hv, newVar, newRow]
  · simp only [Gh.bind]; rw [if_neg (fun e => hj (by rw [e]; exact hs))]
  · refine ⟨v.cells, t, (0, 0), heap_new w _, (constA_cells v).symm, fun j _ h => by omega, fun j hj => constA_cell _ v j hj⟩

theorem eff_box {t : TypeId} {y : Operand} {nid : Oid} (ho : o.op = .box t y) (hk : (ρ y).known = true) (hs : sp nid) : EffOK P o ρ sp ⟨[], .ptr nid 0, [(nid, some (.cells (ρ y).cells))]⟩ := by
  refine EffOK.of fun x g a w m hm _ hop hsp => ?_
  obtain ⟨hl, hu⟩ := hsp nid hs
  obtain ⟨h1, h2⟩ := (hop y (by simp [Op.operands, ho])).cells hk
  refine ⟨g.bind nid w.heap.size, .value (.pointer (some ⟨w.heap.size, 0, none⟩)), _, w.alloc (.cells (a.eval y).cells t), ?_, .inl rfl, Gh.le_bind hl, fun j hj => ?_, .ptr _ _ _ (by simp [Gh.bind]), hm.new hl hu ?_⟩
  · simp [execOp, ho, Instr.box, newVar, newRow]
  · simp only [Gh.bind]; rw [if_neg (fun e => hj (by rw [e]; exact hs))]
  · exact ⟨(a.eval y).cells, t, (0, 0), heap_new w _, h1, fun j _ h => by omega, fun j hj => (h2 j hj).mono (Gh.le_bind hl)⟩

/-! ### store -/
def spl (vs : List AV) (k : Nat) (cs : List AV) : List AV := vs.take k ++ cs ++ vs.drop (k + cs.length)
theorem spl_length {vs : List AV} {k : Nat} {cs : List AV} (h : k + cs.length ≤ vs.length) : (spl vs k cs).length = vs.length := by simp [spl]; omega
theorem spl_getD {vs : List AV} {k : Nat} {cs : List AV} (h : k + cs.length ≤ vs.length) (j : Nat) (d : AV) : (spl vs k cs).getD j d = if k ≤ j ∧ j < k + cs.length then cs.getD (j - k) d else vs.getD j d := by
  simp only [spl, List.getD_eq_getElem?_getD]
  by_cases h1 : j < k
  · rw [if_neg (by omega), List.append_assoc, List.getElem?_append_left (by simp; omega), List.getElem?_take_of_lt h1]
  · by_cases h2 : j < k + cs.length
    · rw [if_pos ⟨by omega, h2⟩, List.append_assoc, List.getElem?_append_right (by simp; omega), List.getElem?_append_left (by simp; omega)]
      congr 2; simp; omega
    · rw [if_neg (by omega), List.getElem?_append_right (by simp; omega), List.getElem?_drop]
      congr 2; simp; omega

/-- A value that a cell may hold. -/
def AV.one : AV → Bool
  | .undef | .agg _ | .tuple _ => false
  | _ => true
theorem VR.one {g : Gh} {v : AV} {u : Value} (h : VR g v u) (ho : v.one = true) : u.oneCell' = true := by
  cases h <;> first | rfl | (cases ho; done)

def storeA (s : Option (Bool × Nat)) (m : Mem) (ad v : AV) : OpR :=
  match s, ad with
  | some (_, n), .ptr id off => match m id with
    | some (.cells vs) => if v.cells.all AV.one = true ∧ v.cells.length = n ∧ off + n ≤ vs.length then .eff ⟨[(id, .cells vs)], .tuple [], [(id, some (.cells (spl vs off v.cells)))]⟩ else .no
    | _ => .no
  | some (_, n), .aptr id sz i off => match m id with
    | some (.arr sz' xs) =>
      if v.cells.all AV.one = true ∧ v.cells.length = n ∧ sz' = sz ∧ i < xs.length ∧ off + n ≤ sz then
        .eff ⟨[(id, .arr sz' xs)], .tuple [], [(id, some (.arr sz' (xs.set i (if off = 0 ∧ n = sz then v else .agg (spl (xs.getD i .undef).cells off v.cells)))))]⟩
      else .no
    | _ => .no
  | _, _ => .no

/-- Cells written one behind the other into a block. -/
theorem run_storeCells {P : Program} (b : Nat) (c : Array Value) (t : TypeId) (fz : Nat × Nat) : ∀ (vs : List Value) (k i : Nat) (w : World) (c : Array Value), w.heap[b]? = some (.cells c t fz) → (∀ j, j < c.size → ¬ (fz.1 ≤ j ∧ j < fz.2)) →
    k + i + vs.length ≤ c.size → (∀ v, v ∈ vs → v.oneCell' = true) →
    ∃ w' c', (storeCells ⟨b, k, none⟩ vs i).run P w = .ok () w' ∧ w'.heap[b]? = some (.cells c' t fz) ∧ c'.size = c.size ∧ (∀ j, c'.getD j undef = if k + i ≤ j ∧ j < k + i + vs.length then vs.getD (j - (k + i)) undef else c.getD j undef) ∧
      w'.os = w.os ∧ w'.tape = w.tape ∧ (w'.output = w.output ∧ w.drawn ≤ w'.drawn) ∧ w'.heap.size = w.heap.size ∧ ∀ b', b' ≠ b → w'.heap[b']? = w.heap[b']?
  | [], k, i, w, c, hb, _, _, _ => ⟨w, c, by simp [storeCells], hb, rfl, fun j => by rw [if_neg (by simp only [List.length_nil]; omega)], rfl, rfl, ⟨rfl, Nat.le_refl _⟩, rfl, fun _ _ => rfl⟩
  | v :: vs, k, i, w, c, hb, hfz, hl, h1 => by
    simp only [List.length_cons] at hl
    have hk : k + i < c.size := by omega
    have hcell : w.cell? ⟨b, k + i, none⟩ = some c[k + i] := by simp [World.cell?, hb, hk]
    have hfr : w.frozen? ⟨b, k + i, none⟩ = false := by
      have := hfz (k + i) hk
      simp only [World.frozen?, hb]
      by_cases h : fz.1 ≤ k + i
      · simp [h]; omega
      · simp [h]
    have hset : (w.setCell ⟨b, k + i, none⟩ v).heap[b]? = some (.cells (c.setIfInBounds (k + i) v) t fz) := by simp [World.setCell, Array.getElem?_modify, hb]
    obtain ⟨w', c', r1, r2, r3, r4, r5, r6, r7, r8, r9⟩ := run_storeCells b c t fz vs k (i + 1) (w.setCell ⟨b, k + i, none⟩ v) (c.setIfInBounds (k + i) v) hset (fun j hj => hfz j (by simpa using hj)) (by simp; omega) (fun u hu => h1 u (List.mem_cons_of_mem _ hu))
    refine ⟨w', c', ?_, r2, by simpa using r3, fun j => ?_, r5, r6, r7, by simpa using r8, fun b' hb' => ?_⟩
    · simp only [storeCells, Sem.run_bind, addr_add]
      rw [run_store P w _ v .plain (h1 v List.mem_cons_self), hcell]
      simp only [hfr, Bool.false_eq_true, if_false, Result.andThen_ok]
      exact r1
    · rw [r4]
      simp only [List.length_cons]
      by_cases e : j = k + i
      · subst e
        rw [if_neg (by omega), if_pos (by omega)]
        simp [hk]
      · by_cases h2 : k + (i + 1) ≤ j ∧ j < k + (i + 1) + vs.length
        · rw [if_pos h2, if_pos (by omega)]
          have : j - (k + i) = (j - (k + (i + 1))) + 1 := by omega
          rw [this]; simp [List.getD_eq_getElem?_getD]
        · rw [if_neg h2, if_neg (by omega)]
          simp [Array.getElem?_setIfInBounds_ne (Ne.symm e)]
    · rw [r9 b' hb']
      simp only [World.setCell, Array.getElem?_modify]
      rw [if_neg (fun e => hb' e.symm)]

theorem AV.one_known {v : AV} (h : v.cells.all AV.one = true) : v.known = true := by
  cases v <;> first | rfl | (simp [AV.cells, AV.one] at h)
theorem VR.ones {g : Gh} {v : AV} {u : Value} (h : VR g v u) (ho : v.cells.all AV.one = true) : ∀ c, c ∈ u.cells.toList → c.oneCell' = true := by
  intro c hc
  obtain ⟨h1, h2⟩ := h.cells (AV.one_known ho)
  obtain ⟨j, hj, rfl⟩ := List.mem_iff_getElem.1 hc
  simp only [Array.length_toList] at hj
  have hj' : j < v.cells.length := by omega
  have h3 := h2 j hj'
  have h4 : (v.cells.getD j .undef).one = true := by
    simp only [List.getD_eq_getElem?_getD, List.getElem?_eq_getElem hj', Option.getD_some]
    exact List.all_eq_true.1 ho _ (List.getElem_mem hj')
  have := h3.one h4
  simpa [hj] using this

theorem eff_store {t : TypeId} {y z : Operand} {m0 : Mem} {e : Eff} (ho : o.op = .store t y z) (h : storeA (shp P t) m0 (ρ y) (ρ z) = .eff e) : EffOK P o ρ sp e ∧ ∀ q, q ∈ e.need → m0 q.1 = some q.2 := by
  unfold storeA at h
  split at h
  · rename_i s ad ag n id off hs had
    split at h
    · rename_i vs hvs
      split at h
      · rename_i hc
        obtain ⟨hone, hlen, hle⟩ := hc
        simp only [OpR.eff.injEq] at h; subst h
        refine ⟨EffOK.of fun x g a w m hm hnd hop _ => ?_, fun q hq => by simp only [List.mem_singleton] at hq; subst hq; exact hvs⟩
        have hv := hop z (by simp [Op.operands, ho])
        have had' := hop y (by simp [Op.operands, ho])
        rw [had] at had'
        obtain ⟨b, hu, hb⟩ := had'.ptr_inv
        have hmi := hnd (id, .cells vs) (by simp)
        obtain ⟨b', h1, h2, h3, h4⟩ := hm.obj id _ hmi
        rw [hb] at h1; simp only [Option.some.injEq] at h1; subst h1
        obtain ⟨c, ty, fz, c1, c2, c3, c4⟩ := h4
        obtain ⟨k1, k2⟩ := hv.cells (AV.one_known hone)
        obtain ⟨w', c', r1, r2, r3, r4, r5, r6, r7, r8, r9⟩ := run_storeCells (P := P) b c ty fz (a.eval z).cells.toList off 0 w c c1 c3 (by simp; omega) (hv.ones hone)
        have hsz : (a.eval z).cells.size = n := by omega
        refine ⟨g, .skip, undef, w', ?_, .inr ⟨rfl, rfl⟩, Gh.le_refl g, fun _ _ => rfl, .tuple _ _ rfl (fun j hj => absurd hj (Nat.not_lt_zero _)), hm.turn hmi hb r5 r6 r7 (by omega) (fun b' hb' _ => r9 b' hb') (fun r hr => ?_) ?_⟩
        · simp [execOp, ho, Instr.storeAt, hu, Instr.sureAddr, storeVar, run_sizeOf hs, hsz, r1]
        · obtain ⟨c0, t0, fz0, k1, k2⟩ := hm.rows b r hr
          rw [c1] at k1; simp only [Option.some.injEq, Obj.cells.injEq] at k1
          exact ⟨c', ty, fz, r2, by rw [r3, ← k2, k1.1]⟩
        · refine ⟨c', ty, fz, r2, by rw [r3, spl_length (by omega)]; exact c2, fun j hj => c3 j (by omega), fun j hj => ?_⟩
          rw [spl_length (by omega)] at hj
          rw [spl_getD (by omega), r4]
          simp only [Array.length_toList, Nat.add_zero]
          by_cases hin : off ≤ j ∧ j < off + (ρ z).cells.length
          · rw [if_pos hin, if_pos (by omega)]
            have := k2 (j - off) (by omega)
            simpa using this
          · rw [if_neg hin, if_neg (by omega)]; exact c4 j (by omega)
      · cases h
    · cases h
  · rename_i s ad ag n id sz i off hs had
    split at h
    · rename_i sz' xs hvs
      split at h
      · rename_i hc
        obtain ⟨hone, hlen, rfl, hi, hle⟩ := hc
        simp only [OpR.eff.injEq] at h; subst h
        refine ⟨EffOK.of fun x g a w m hm hnd hop _ => ?_, fun q hq => by simp only [List.mem_singleton] at hq; subst hq; exact hvs⟩
        have hv := hop z (by simp [Op.operands, ho])
        have had' := hop y (by simp [Op.operands, ho])
        rw [had] at had'
        obtain ⟨b, hu, hb⟩ := had'.aptr_inv
        have hmi := hnd (id, .arr sz' xs) (by simp)
        obtain ⟨b', h1, h2, h3, h4⟩ := hm.objL hmi hb
        rw [hb] at h1; simp only [Option.some.injEq] at h1; subst h1
        obtain ⟨c, ty, fz, c1, c2, c3, c4, c6, c5⟩ := h4
        obtain ⟨k1, k2⟩ := hv.cells (AV.one_known hone)
        have hlei : i * sz' + sz' ≤ xs.length * sz' := by
          have := Nat.mul_le_mul_right sz' (Nat.succ_le_of_lt hi)
          rwa [Nat.succ_mul] at this
        obtain ⟨w', c', r1, r2, r3, r4, r5, r6, r7, r8, r9⟩ := run_storeCells (P := P) b c ty fz (a.eval z).cells.toList (i * sz' + off) 0 w c c1 c3 (by simp; omega) (hv.ones hone)
        have hsz : (a.eval z).cells.size = n := by omega
        refine ⟨g, .skip, undef, w', ?_, .inr ⟨rfl, rfl⟩, Gh.le_refl g, fun _ _ => rfl, .tuple _ _ rfl (fun j hj => absurd hj (Nat.not_lt_zero _)), hm.turn hmi hb r5 r6 r7 (by omega) (fun b' hb' _ => r9 b' hb') (fun r hr => ?_) ?_⟩
        · simp [execOp, ho, Instr.storeAt, hu, Instr.sureAddr, storeVar, run_sizeOf hs, hsz, r1]
        · obtain ⟨c0, t0, fz0, k1, k2⟩ := hm.rows b r hr
          rw [c1] at k1; simp only [Option.some.injEq, Obj.cells.injEq] at k1
          exact ⟨c', ty, fz, r2, by rw [r3, ← k2, k1.1]⟩
        · -- the element's new cells
          have hnew : ∀ v' : AV, v' = (if off = 0 ∧ n = sz' then ρ z else .agg (spl (xs.getD i .undef).cells off (ρ z).cells)) → v'.cells.length = sz' ∧ ∀ j, j < sz' → v'.cells.getD j .undef = if off ≤ j ∧ j < off + n then (ρ z).cells.getD (j - off) .undef else (xs.getD i .undef).cells.getD j .undef := by
            intro v' hv'
            split at hv'
            · rename_i hh; obtain ⟨rfl, rfl⟩ := hh; subst hv'
              exact ⟨hlen, fun j hj => by rw [if_pos (by omega)]; rfl⟩
            · subst hv'
              show (spl (xs.getD i .undef).cells off (ρ z).cells).length = sz' ∧ ∀ j, j < sz' → (spl (xs.getD i .undef).cells off (ρ z).cells).getD j .undef = _
              rw [spl_length (by rw [c4 i hi]; omega)]
              exact ⟨c4 i hi, fun j hj => by rw [spl_getD (by rw [c4 i hi]; omega), hlen]⟩
          generalize hv' : (if off = 0 ∧ n = sz' then ρ z else AV.agg (spl (xs.getD i .undef).cells off (ρ z).cells)) = v'
          obtain ⟨n1, n2⟩ := hnew v' hv'.symm
          refine ⟨c', ty, fz, r2, by simpa [r3] using c2, fun j hj => c3 j (by omega), fun j hj => ?_, fun j hj => ?_, fun j k hj hk => ?_⟩
          · simp only [List.length_set] at hj
            by_cases e : i = j
            · subst e; simpa [List.getD_eq_getElem?_getD, hi] using n1
            · have := c4 j hj; simpa [List.getD_eq_getElem?_getD, List.getElem?_set_ne e] using this
          · simp only [List.length_set] at hj
            rw [r4]
            split
            · rename_i hin
              simp only [Array.length_toList, Nat.add_zero] at hin ⊢
              have hlt : j - (i * sz' + off) < (a.eval z).cells.toList.length := by simp only [Array.length_toList]; omega
              rw [List.getD_eq_getElem?_getD, List.getElem?_eq_getElem hlt]
              exact hv.ones hone _ (List.getElem_mem hlt)
            · exact c6 j hj
          · simp only [List.length_set] at hj
            rw [r4]
            simp only [Array.length_toList, Nat.add_zero]
            by_cases e : i = j
            · subst e
              have hx : (xs.set i v').getD i .undef = v' := by simp [List.getD_eq_getElem?_getD, hi]
              rw [hx, n2 k hk]
              by_cases hin : off ≤ k ∧ k < off + n
              · rw [if_pos hin, if_pos (by omega)]
                have := k2 (k - off) (by omega)
                have e1 : i * sz' + k - (i * sz' + off) = k - off := by omega
                rw [e1]; simpa using this
              · rw [if_neg hin, if_neg (by omega)]; exact c5 i k hi hk
            · have hx : (xs.set i v').getD j .undef = xs.getD j .undef := by simp [List.getD_eq_getElem?_getD, List.getElem?_set_ne e]
              rw [hx, if_neg ?_]
              · exact c5 j k hj hk
              · rcases Nat.lt_or_ge j i with hlt | hge
                · have := Nat.mul_le_mul_right sz' (Nat.succ_le_of_lt hlt)
                  rw [Nat.succ_mul] at this; omega
                · have hlt : i < j := by omega
                  have := Nat.mul_le_mul_right sz' (Nat.succ_le_of_lt hlt)
                  rw [Nat.succ_mul] at this; omega
      · cases h
    · cases h
  · cases h
end
end Go.Ab
