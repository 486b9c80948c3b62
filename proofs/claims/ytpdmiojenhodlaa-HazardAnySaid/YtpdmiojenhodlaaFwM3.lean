/- The map operations' effects: what the walk computes. -/
import Derived.Test.YtpdmiojenhodlaaFwM2
set_option linter.unusedVariables false
set_option linter.unusedSimpArgs false
namespace Go.Ab

/-- A map type: the shape of its keys; the value of an entry that is not there. -/
def mapD (P : Program) (t : TypeId) : Option (List TyS × Bool × AV) :=
  match tyk P t with
  | some (.map k e) => match flatT P 10 k, shp P k, (P.info? e).bind (·.zero) with
    | some ks, some (ag, _), some z => some (ks, ag, constA z)
    | _, _, _ => none
  | _ => none
def valE (k z : AV) (es : List ME) : AV := match lookE k es with
  | some e => e.val
  | none => z
def bornOf (k : AV) (clock : Nat) (es : List ME) : Nat := match lookE k es with
  | some e => e.born
  | none => clock
def hasE (k : AV) (es : List ME) : Bool := (lookE k es).isSome
def resOk (ok : Bool) (v : AV) (b : Bool) : AV := if ok then .tuple [v, .bool b] else v
def lookupA (P : Program) (m : Mem) (t : TypeId) (x k : AV) (ok : Bool) : OpR :=
  match mapD P t with
  | some (ks, ag, z) => match x with
    | .nilMap => if keyFits ks ag k = true then pureR (resOk ok z false) else .no
    | .map id => match m id with
      | some (.map ks' ag' es clock) => if ks' = ks ∧ ag' = ag ∧ keyFits ks ag k = true then .eff ⟨[(id, .map ks' ag' es clock)], resOk ok (valE k z es) (hasE k es), []⟩ else .no
      | _ => .no
    | _ => .no
  | none => .no
def mapUpdateA (P : Program) (m : Mem) (t : TypeId) (x k v : AV) : OpR :=
  match mapD P t with
  | some (ks, ag, _) => match x with
    | .map id => match m id with
      | some (.map ks' ag' es clock) => if ks' = ks ∧ ag' = ag ∧ keyFits ks ag k = true then
          .eff ⟨[(id, .map ks' ag' es clock)], .tuple [], [(id, some (.map ks' ag' (setE k v clock es) (if hasE k es then clock else clock + 1)))]⟩ else .no
      | _ => .no
    | _ => .no
  | none => .no
def mapEntryA (P : Program) (m : Mem) (t : TypeId) (x k : AV) : OpR :=
  match mapD P t with
  | some (ks, ag, z) => match x with
    | .map id => match m id with
      | some (.map ks' ag' es clock) => if ks' = ks ∧ ag' = ag ∧ keyFits ks ag k = true then
          .eff ⟨[(id, .map ks' ag' es clock)], .tuple [valE k z es, .int .i64 (bornOf k clock es)], [(id, some (.map ks' ag' (setE k (valE k z es) clock es) (if hasE k es then clock else clock + 1)))]⟩ else .no
      | _ => .no
    | _ => .no
  | none => .no
def entryStoreA (m : Mem) (x st v : AV) : OpR :=
  match x, st with
  | .map id, .int .i64 (.ofNat n) => match m id with
    | some (.map ks ag es clock) => if es.any (fun e => e.born == n) = true then .eff ⟨[(id, .map ks ag es clock)], .tuple [], [(id, some (.map ks ag (bornE n v es) clock))]⟩ else .no
    | _ => .no
  | _, _ => .no
def deleteA (P : Program) (m : Mem) (t : TypeId) (x k : AV) : OpR :=
  match mapD P t with
  | some (ks, ag, _) => match x with
    | .nilMap => if keyFits ks ag k = true then pureR (.tuple []) else .no
    | .map id => match m id with
      | some (.map ks' ag' es clock) => if ks' = ks ∧ ag' = ag ∧ keyFits ks ag k = true then
          .eff ⟨[(id, .map ks' ag' es clock)], .tuple [], [(id, some (.map ks' ag' (delE k es) clock))]⟩ else .no
      | _ => .no
    | _ => .no
  | none => .no

section
variable {P : Program} {o : Oper} {ρ : Operand → AV} {sp : Oid → Prop}
theorem mapD_spec {t : TypeId} {ks : List TyS} {ag : Bool} {z : AV} (h : mapD P t = some (ks, ag, z)) : ∃ k e i zv, P.underlying t = some (.map k e) ∧ flatT P 10 k = some ks ∧ shp P k = some (ag, ks.length) ∧ P.info? e = some i ∧ i.zero = some zv ∧ z = constA zv := by
  unfold mapD at h
  split at h
  · rename_i k e hk
    obtain ⟨d, hd, rfl⟩ := tyk_spec hk
    split at h
    · rename_i ks' ag' n zv h1 h2 h3
      simp only [Option.some.injEq, Prod.mk.injEq] at h
      obtain ⟨rfl, rfl, rfl⟩ := h
      obtain ⟨agg, h4, _⟩ := flat_shp h1
      rw [h4] at h2; simp only [Option.some.injEq, Prod.mk.injEq] at h2; obtain ⟨rfl, rfl⟩ := h2
      simp only [Option.bind_eq_some_iff] at h3
      obtain ⟨i, hi, hz⟩ := h3
      exact ⟨k, e, i, zv, hd, h1, h4, hi, hz, rfl⟩
    · cases h
  · cases h

theorem MemRel.turnMap {x : Ctx} {g : Gh} {m : Mem} {w : World} (hm : MemRel x g m w) {id : Oid} {b : Nat} {o0 o : AObj} {ents ents' : Array MapEntry} {c c' : Nat} (hi : m id = some o0) (hb : g.loc id = some (some b))
    (h0 : w.heap[b]? = some (.map ents c)) (ho : ∀ w' : World, w'.heap[b]? = some (.map ents' c') → ObjAt g w' b o) :
    MemRel x g (m.set id (some o)) { w with heap := w.heap.setIfInBounds b (.map ents' c') } := by
  have hlt := (Array.getElem?_eq_some_iff.1 h0).1
  have hb' : (w.heap.setIfInBounds b (.map ents' c'))[b]? = some (.map ents' c') := by simp [hlt]
  refine hm.turn hi hb rfl rfl ⟨rfl, Nat.le_refl _⟩ (by simp) (fun k hk _ => by simp [Array.getElem?_setIfInBounds, Ne.symm hk]) (fun r hr => ?_) (ho _ hb')
  obtain ⟨cc, t, fz, h1, _⟩ := hm.rows b r hr
  rw [h0] at h1; cases h1

theorem eff_lookup {t : TypeId} {y z : Operand} {ok : Bool} {m0 : Mem} {e : Eff} (ho : o.op = .lookup t y z ok) (h : lookupA P m0 t (ρ y) (ρ z) ok = .eff e) : EffOK P o ρ sp e ∧ ∀ q, q ∈ e.need → m0 q.1 = some q.2 := by
  unfold lookupA at h
  split at h
  · rename_i ks ag zz hD
    obtain ⟨kt, et, i, zv, hund, hks, hsh, hi, hz, rfl⟩ := mapD_spec hD
    have res : ∀ {g : Gh} {v : AV} {u : Value} (b : Bool), VR g v u → VR g (resOk ok v b) (if ok then .tuple #[u, .bool b] else u) := by
      intro g v u b hv
      cases ok with
      | false => exact hv
      | true => exact .tuple _ _ rfl (fun j hj => by
          match j, hj with
          | 0, _ => exact hv
          | 1, _ => exact .bool b)
    split at h
    · rename_i hx
      split at h
      · rename_i hf
        simp only [pureR, OpR.eff.injEq] at h; subst h
        refine ⟨EffOK.plain fun g a w hop => ?_, fun q hq => by cases hq⟩
        have hv := hop y (by simp [Op.operands, ho]); have hk := hop z (by simp [Op.operands, ho])
        rw [hx] at hv
        have hck := run_checkKey_flat (P := P) (g := g) (em := true) 10 kt ks hks 10000 (by omega) ag hsh _ _ (by simp only [keyFits, Bool.and_eq_true] at hf; exact hf.2) (hk.madeK hf) w
        have hfk := run_findKey_flat (P := P) hks hsh hf hk w MERs.nil (by simp)
        refine ⟨_, ?_, res false (constA_vr g zv)⟩
        simp [execOp, ho, Instr.lookup, run_underlying' hund, hv.nilMap_inv, hck, hfk, findR, zeroValue, typeInfo, hi, hz]
      · cases h
    · rename_i id hx
      split at h
      · rename_i ks' ag' es clock hmi
        split at h
        · rename_i hc
          obtain ⟨rfl, rfl, hf⟩ := hc
          simp only [OpR.eff.injEq] at h; subst h
          refine ⟨EffOK.of fun x g a w m hm hnd hop _ => ?_, fun q hq => by simp only [List.mem_singleton] at hq; subst hq; exact hmi⟩
          have hv := hop y (by simp [Op.operands, ho]); have hk := hop z (by simp [Op.operands, ho])
          rw [hx] at hv
          obtain ⟨b, hu, hb⟩ := hv.map_inv
          obtain ⟨b', h1, h2, h3, h4⟩ := hm.obj id _ (hnd (id, .map ks' ag' es clock) (by simp))
          rw [hb] at h1; simp only [Option.some.injEq] at h1; subst h1
          obtain ⟨⟨ents, c1, c2⟩, c3, c4⟩ := h4
          have hck := run_checkKey_flat (P := P) (g := g) (em := ents.isEmpty) 10 kt ks' hks 10000 (by omega) ag' hsh _ _ (by simp only [keyFits, Bool.and_eq_true] at hf; exact hf.2) (hk.madeK hf) w
          have hfk := run_findKey_flat (P := P) hks hsh hf hk w c2 (fun e he => (c3 e he).1)
          have hl := findR_look (k := ρ z) 0 c2
          have hrun : ∃ u, (execOp a.eval o).run P w = .ok (.value (if ok then .tuple #[u, .bool (hasE (ρ z) es)] else u)) w ∧ VR g (valE (ρ z) (constA zv) es) u := by
            simp only [valE, hasE]
            cases hle : lookE (ρ z) es with
            | none =>
              rw [hle] at hl
              refine ⟨zv, ?_, constA_vr g zv⟩
              simp only at hl
              simp [execOp, ho, Instr.lookup, run_underlying' hund, hu, MapKept.run_getObj_map c1, hck, hfk, hl, zeroValue, typeInfo, hi, hz]
            | some e =>
              rw [hle] at hl
              obtain ⟨j, v, h5, h6, h7, _⟩ := hl
              refine ⟨v, ?_, h7⟩
              simp [execOp, ho, Instr.lookup, run_underlying' hund, hu, MapKept.run_getObj_map c1, hck, hfk, h5]
          obtain ⟨u, hr1, hr2⟩ := hrun
          exact ⟨g, .value _, _, w, hr1, .inl rfl, Gh.le_refl g, fun _ _ => rfl, res _ hr2, hm⟩
        · cases h
      · cases h
    · cases h
  · cases h

theorem setE_inv {ks : List TyS} {ag : Bool} {es : List ME} {clock : Nat} {k v : AV} (c3 : ∀ e ∈ es, keyFits ks ag e.key = true ∧ e.born < clock)
    (c4 : es.Pairwise fun e e' => e.born < e'.born) (hf : keyFits ks ag k = true) :
    (∀ e ∈ setE k v clock es, keyFits ks ag e.key = true ∧ e.born < (if hasE k es then clock else clock + 1)) ∧ (setE k v clock es).Pairwise (fun e e' => e.born < e'.born) := by
  refine ⟨?_, ?_⟩
  · intro e he
    cases hle : lookE k es with
    | none =>
      simp only [hasE, hle, Option.isSome_none, Bool.false_eq_true, if_false]
      rw [lookE_none_set hle] at he
      rcases List.mem_append.1 he with h | h
      · exact ⟨(c3 e h).1, Nat.lt_succ_of_lt (c3 e h).2⟩
      · simp only [List.mem_singleton] at h; subst h; exact ⟨hf, Nat.lt_succ_self _⟩
    | some e0 =>
      simp only [hasE, hle, Option.isSome_some, if_true]
      have hb : e.born ∈ (setE k v clock es).map ME.born := List.mem_map_of_mem he
      rw [setE_borns, hle] at hb
      simp only [Option.isSome_some, if_true] at hb
      obtain ⟨e1, h1, h2⟩ := List.mem_map.1 hb
      refine ⟨?_, by rw [← h2]; exact (c3 e1 h1).2⟩
      exact setE_born (fun k _ => keyFits ks ag k = true) (fun e he => (c3 e he).1) hf e he
  · rw [born_pw, setE_borns]
    split
    · exact born_pw.1 c4
    · refine List.pairwise_append.2 ⟨born_pw.1 c4, by simp, fun x hx y hy => ?_⟩
      obtain ⟨e1, h1, rfl⟩ := List.mem_map.1 hx
      simp only [List.mem_singleton] at hy; subst hy
      exact (c3 e1 h1).2

/-- What the store of a key comes to in the model. -/
theorem map_set {g : Gh} {ks : List TyS} {ag : Bool} {es : List ME} {clock : Nat} {ents : Array MapEntry} {k : AV} {u : Value} (c2 : MERs g es ents.toList) (c3 : ∀ e ∈ es, keyFits ks ag e.key = true ∧ e.born < clock)
    (c4 : es.Pairwise fun e e' => e.born < e'.born) (hf : keyFits ks ag k = true) (hk : VR g k u) :
    (findR k es ents.toList 0 = none ∧ lookE k es = none ∧ ∀ (v : AV) (u' : Value), VR g v u' → ∀ (w : World) (b : Nat), w.heap[b]? = some (.map (ents.push { key := u, val := u', born := clock }) (clock + 1)) → ObjAt g w b (.map ks ag (setE k v clock es) (clock + 1))) ∨
    (∃ i v0 c e, findR k es ents.toList 0 = some (i, v0) ∧ lookE k es = some e ∧ ents[i]? = some c ∧ c.key = u ∧ c.val = v0 ∧ c.born = e.born ∧ VR g e.val v0 ∧
      ∀ (v : AV) (u' : Value), VR g v u' → ∀ (w : World) (b : Nat) (f : MapEntry → MapEntry), f c = { key := u, val := u', born := c.born } → w.heap[b]? = some (.map (ents.modify i f) clock) → ObjAt g w b (.map ks ag (setE k v clock es) clock)) := by
  have hl := findR_look (k := k) 0 c2
  cases hle : lookE k es with
  | none =>
    rw [hle] at hl
    refine .inl ⟨hl, rfl, fun v u' hv w b hw => ?_⟩
    have inv := setE_inv (v := v) c3 c4 hf
    simp only [hasE, hle, Option.isSome_none, Bool.false_eq_true, if_false] at inv
    refine ⟨⟨_, hw, ?_⟩, inv⟩
    rw [lookE_none_set hle, Array.toList_push]
    exact c2.append (.cons hk hv rfl .nil)
  | some e =>
    rw [hle] at hl
    obtain ⟨j, v1, h1, h2, h3, c, h4, h5, h6, h7⟩ := hl
    have hsame := lookE_same hle
    have hke : k = e.key := sameK_eq hf (c3 e hsame.2).1 hsame.1
    have hcu : c.key = u := VR.plainK hf (by rw [hke]; exact h5) hk
    have h4' : ents[j]? = some c := by simpa using h4
    rw [Nat.zero_add] at h1
    refine .inr ⟨j, v1, c, e, h1, rfl, h4', hcu, h7, h6, h3, fun v u' hv w b f hfc hw => ?_⟩
    have inv := setE_inv (v := v) c3 c4 hf
    simp only [hasE, hle, Option.isSome_some, if_true] at inv
    refine ⟨⟨_, hw, ?_⟩, inv⟩
    rw [Array.toList_modify]
    exact MERs.set (i := 0) (u := v1) f c2 (by rw [h1]; simp) (fun c' hc' => by
      rw [h4] at hc'; simp only [Option.some.injEq] at hc'; subst hc'
      rw [hfc]; exact ⟨hcu.symm, rfl, rfl⟩) hv

theorem run_keyThatStays_same {ks : List TyS} {ag : Bool} {k : AV} {u : Value} {g : Gh} (hf : keyFits ks ag k = true) (hk : VR g k u) (w : World) : (Instr.keyThatStays u u).run P w = .ok u w := by
  simp [Instr.keyThatStays, sameBits_plainK hf hk]

theorem eff_mapUpdate {t : TypeId} {y z v : Operand} {m0 : Mem} {e : Eff} (ho : o.op = .mapUpdate t y z v) (h : mapUpdateA P m0 t (ρ y) (ρ z) (ρ v) = .eff e) : EffOK P o ρ sp e ∧ ∀ q, q ∈ e.need → m0 q.1 = some q.2 := by
  unfold mapUpdateA at h
  split at h
  · rename_i ks ag zz hD
    obtain ⟨kt, et, i, zv, hund, hks, hsh, hi, hz, rfl⟩ := mapD_spec hD
    split at h
    · rename_i id hx
      split at h
      · rename_i ks' ag' es clock hmi
        split at h
        · rename_i hc
          obtain ⟨rfl, rfl, hf⟩ := hc
          simp only [OpR.eff.injEq] at h; subst h
          refine ⟨EffOK.of fun x g a w m hm hnd hop _ => ?_, fun q hq => by simp only [List.mem_singleton] at hq; subst hq; exact hmi⟩
          have hy := hop y (by simp [Op.operands, ho]); have hk := hop z (by simp [Op.operands, ho]); have hv := hop v (by simp [Op.operands, ho])
          rw [hx] at hy
          obtain ⟨b, hu, hb⟩ := hy.map_inv
          have hmid := hnd (id, .map ks' ag' es clock) (by simp)
          obtain ⟨b', h1, h2, h3, h4⟩ := hm.obj id _ hmid
          rw [hb] at h1; simp only [Option.some.injEq] at h1; subst h1
          obtain ⟨⟨ents, c1, c2⟩, c3, c4⟩ := h4
          have hck := run_checkKey_flat (P := P) (g := g) (em := false) 10 kt ks' hks 10000 (by omega) ag' hsh _ _ (by simp only [keyFits, Bool.and_eq_true] at hf; exact hf.2) (hk.madeK hf) w
          have hfk := run_findKey_flat (P := P) hks hsh hf hk w c2 (fun e he => (c3 e he).1)
          rcases map_set c2 c3 c4 hf hk with ⟨f1, f2, f3⟩ | ⟨i, v0, c, e, f1, f2, f3, f4, f5, f6, f7, f8⟩
          · have hno : hasE (ρ z) es = false := by simp [hasE, f2]
            simp only [hno, Bool.false_eq_true, if_false]
            refine ⟨g, .skip, undef, _, ?_, .inr ⟨rfl, rfl⟩, Gh.le_refl g, fun _ _ => rfl, .tuple _ _ rfl (fun j hj => absurd hj (Nat.not_lt_zero _)), hm.turnMap hmid hb c1 (fun w' hw' => f3 _ _ hv w' b hw')⟩
            simp [execOp, ho, Instr.mapUpdate, run_underlying' hund, hu, MapKept.run_getObj_map c1, hck, hfk, f1, MapKept.run_setObj_map _ c1]
          · have hyes : hasE (ρ z) es = true := by simp [hasE, f2]
            simp only [hyes, if_true]
            refine ⟨g, .skip, undef, _, ?_, .inr ⟨rfl, rfl⟩, Gh.le_refl g, fun _ _ => rfl, .tuple _ _ rfl (fun j hj => absurd hj (Nat.not_lt_zero _)), hm.turnMap (ents' := ents.modify i fun e => { e with key := a.eval z, val := a.eval v }) (c' := clock) hmid hb c1 (fun w' hw' => f8 _ _ hv w' b _ rfl hw')⟩
            have hks' := run_keyThatStays_same (P := P) hf hk w
            simp [execOp, ho, Instr.mapUpdate, run_underlying' hund, hu, MapKept.run_getObj_map c1, hck, hfk, f1, f3, f4, hks', MapKept.run_setObj_map _ c1]
        · cases h
      · cases h
    · cases h
  · cases h

theorem eff_mapEntry {t : TypeId} {y z : Operand} {m0 : Mem} {e : Eff} (ho : o.op = .mapEntry t y z) (h : mapEntryA P m0 t (ρ y) (ρ z) = .eff e) : EffOK P o ρ sp e ∧ ∀ q, q ∈ e.need → m0 q.1 = some q.2 := by
  unfold mapEntryA at h
  split at h
  · rename_i ks ag zz hD
    obtain ⟨kt, et, i, zv, hund, hks, hsh, hi, hz, rfl⟩ := mapD_spec hD
    split at h
    · rename_i id hx
      split at h
      · rename_i ks' ag' es clock hmi
        split at h
        · rename_i hc
          obtain ⟨rfl, rfl, hf⟩ := hc
          simp only [OpR.eff.injEq] at h; subst h
          refine ⟨EffOK.of fun x g a w m hm hnd hop _ => ?_, fun q hq => by simp only [List.mem_singleton] at hq; subst hq; exact hmi⟩
          have hy := hop y (by simp [Op.operands, ho]); have hk := hop z (by simp [Op.operands, ho])
          rw [hx] at hy
          obtain ⟨b, hu, hb⟩ := hy.map_inv
          have hmid := hnd (id, .map ks' ag' es clock) (by simp)
          obtain ⟨b', h1, h2, h3, h4⟩ := hm.obj id _ hmid
          rw [hb] at h1; simp only [Option.some.injEq] at h1; subst h1
          obtain ⟨⟨ents, c1, c2⟩, c3, c4⟩ := h4
          have hck := run_checkKey_flat (P := P) (g := g) (em := false) 10 kt ks' hks 10000 (by omega) ag' hsh _ _ (by simp only [keyFits, Bool.and_eq_true] at hf; exact hf.2) (hk.madeK hf) w
          have hfk := run_findKey_flat (P := P) hks hsh hf hk w c2 (fun e he => (c3 e he).1)
          rcases map_set c2 c3 c4 hf hk with ⟨f1, f2, f3⟩ | ⟨i, v0, c, e, f1, f2, f3, f4, f5, f6, f7, f8⟩
          · have hno : hasE (ρ z) es = false := by simp [hasE, f2]
            have hva : valE (ρ z) (constA zv) es = constA zv := by simp [valE, f2]
            have hbo : bornOf (ρ z) clock es = clock := by simp [bornOf, f2]
            simp only [hno, hva, hbo, Bool.false_eq_true, if_false]
            refine ⟨g, .value (.tuple #[zv, goInt clock]), _, _, ?_, .inl rfl, Gh.le_refl g, fun _ _ => rfl, .tuple _ _ rfl (fun j hj => ?_), hm.turnMap hmid hb c1 (fun w' hw' => f3 _ _ (constA_vr g zv) w' b hw')⟩
            · simp [execOp, ho, Instr.mapEntry, run_underlying' hund, hu, MapKept.run_getObj_map c1, hck, hfk, f1, MapKept.run_setObj_map _ c1, zeroValue, typeInfo, hi, hz]
            · match j, hj with
              | 0, _ => exact constA_vr g zv
              | 1, _ => exact .int _ _
          · have hyes : hasE (ρ z) es = true := by simp [hasE, f2]
            have hva : valE (ρ z) (constA zv) es = e.val := by simp [valE, f2]
            have hbo : bornOf (ρ z) clock es = e.born := by simp [bornOf, f2]
            simp only [hyes, hva, hbo, if_true]
            refine ⟨g, .value (.tuple #[v0, goInt e.born]), _, _, ?_, .inl rfl, Gh.le_refl g, fun _ _ => rfl, .tuple _ _ rfl (fun j hj => ?_), hm.turnMap (ents' := ents.modify i fun e => { e with key := a.eval z }) (c' := clock) hmid hb c1 (fun w' hw' => f8 _ _ f7 w' b _ (by rw [← f5]) hw')⟩
            · have hks' := run_keyThatStays_same (P := P) hf hk w
              simp [execOp, ho, Instr.mapEntry, run_underlying' hund, hu, MapKept.run_getObj_map c1, hck, hfk, f1, f3, f4, f6, hks', MapKept.run_setObj_map _ c1]
            · match j, hj with
              | 0, _ => exact f7
              | 1, _ => exact .int _ _
        · cases h
      · cases h
    · cases h
  · cases h

theorem MERs.born {g : Gh} {n : Nat} {v : AV} {u : Value} (hv : VR g v u) : ∀ {es : List ME} {cs : List MapEntry}, MERs g es cs → es.any (fun e => e.born == n) = true →
    ∃ i, cs.findIdx? (fun e => (e.born : Int) == (n : Int)) = some i ∧ MERs g (bornE n v es) (cs.modify i fun e => { e with val := u })
  | [], _, h, ha => by simp at ha
  | e :: es, _, h, ha => by
    cases h with
    | cons hk hv' hb t =>
      rename_i c cs
      by_cases he : e.born = n
      · refine ⟨0, by rw [List.findIdx?_cons, hb, he]; simp, ?_⟩
        simp only [bornE, he, if_true, List.modify_zero_cons]
        exact .cons hk hv (by simpa [he] using hb) t
      · simp only [List.any_cons, Bool.or_eq_true, beq_iff_eq, he, false_or] at ha
        obtain ⟨i, h1, h2⟩ := MERs.born hv t ha
        have hne : ((c.born : Int) == (n : Int)) = false := by rw [hb]; simp; omega
        refine ⟨i + 1, by simp [List.findIdx?_cons, hne, h1], ?_⟩
        simp only [bornE, he, if_false, List.modify_succ_cons]
        exact .cons hk hv' hb h2
theorem bornE_all {n : Nat} {v : AV} (p : AV → Nat → Prop) : ∀ {es : List ME}, (∀ e ∈ es, p e.key e.born) → ∀ e ∈ bornE n v es, p e.key e.born
  | [], _, e, he => by simp [bornE] at he
  | e' :: es, h, e, he => by
    simp only [bornE] at he
    split at he
    · rcases List.mem_cons.1 he with rfl | he
      · exact h e' (by simp)
      · exact h e (by simp [he])
    · rcases List.mem_cons.1 he with rfl | he
      · exact h _ (by simp)
      · exact bornE_all p (fun x hx => h x (by simp [hx])) e he
theorem bornE_borns {n : Nat} {v : AV} : ∀ {es : List ME}, (bornE n v es).map ME.born = es.map ME.born
  | [] => rfl
  | e :: es => by
    simp only [bornE]
    split
    · simp
    · simp [bornE_borns]

theorem eff_entryStore {t : TypeId} {y z v : Operand} {m0 : Mem} {e : Eff} (ho : o.op = .entryStore t y z v) (h : entryStoreA m0 (ρ y) (ρ z) (ρ v) = .eff e) : EffOK P o ρ sp e ∧ ∀ q, q ∈ e.need → m0 q.1 = some q.2 := by
  unfold entryStoreA at h
  split at h
  · rename_i id n hx hn
    split at h
    · rename_i ks ag es clock hmi
      split at h
      · rename_i hany
        simp only [OpR.eff.injEq] at h; subst h
        refine ⟨EffOK.of fun x g a w m hm hnd hop _ => ?_, fun q hq => by simp only [List.mem_singleton] at hq; subst hq; exact hmi⟩
        have hy := hop y (by simp [Op.operands, ho]); have hz := hop z (by simp [Op.operands, ho]); have hv := hop v (by simp [Op.operands, ho])
        rw [hx] at hy; rw [hn] at hz
        obtain ⟨b, hu, hb⟩ := hy.map_inv
        have hmid := hnd (id, .map ks ag es clock) (by simp)
        obtain ⟨b', h1, h2, h3, h4⟩ := hm.obj id _ hmid
        rw [hb] at h1; simp only [Option.some.injEq] at h1; subst h1
        obtain ⟨⟨ents, c1, c2⟩, c3, c4⟩ := h4
        obtain ⟨i, f1, f2⟩ := MERs.born hv c2 hany
        refine ⟨g, .skip, undef, _, ?_, .inr ⟨rfl, rfl⟩, Gh.le_refl g, fun _ _ => rfl, .tuple _ _ rfl (fun j hj => absurd hj (Nat.not_lt_zero _)), hm.turnMap (ents' := ents.modify i fun e => { e with val := a.eval v }) (c' := clock) hmid hb c1 (fun w' hw' => ⟨⟨_, hw', by rw [Array.toList_modify]; exact f2⟩, ?_, ?_⟩)⟩
        · have f1' : Array.findIdx? (fun e => (e.born : Int) == (n : Int)) ents = some i := by rw [← List.findIdx?_toArray] at f1; simpa using f1
          simp [execOp, ho, Instr.entryStore, hu, MapKept.run_getObj_map c1, hz.int_inv, asInt, asIntOf, f1', MapKept.run_setObj_map _ c1]
        · exact bornE_all (fun k b => keyFits ks ag k = true ∧ b < clock) c3
        · rw [born_pw, bornE_borns]; exact born_pw.1 c4
      · cases h
    · cases h
  · cases h
end
end Go.Ab
