/- Ranges over maps and strings: where they begin; the entry at hand. -/
import Derived.Test.YtpdmiojenhodlaaFwM3
import Derived.Laws.IdiomRangeMap
import Derived.RangeFuncLeaves
import Derived.RangeFuncFrom
set_option linter.unusedVariables false
set_option linter.unusedSimpArgs false
namespace Go.Ab
def rangeA (k : Option TyK) (m : Mem) (nid : Oid) (x : AV) : OpR :=
  match k, x with
  | some .str, .str s => .eff ⟨[], .iter nid, [(nid, some (.siter s 0))]⟩
  | some (.map ..), .nilMap => .eff ⟨[], .iter nid, [(nid, some (.iter none 0 [] 0))]⟩
  | some (.map ..), .map id => match m id with
    | some (.map ks ag es clock) => .eff ⟨[(id, .map ks ag es clock)], .iter nid, [(nid, some (.iter (some id) clock [] clock))]⟩
    | _ => .no
  | _, _ => .no
def entryA (m : Mem) (x : AV) : OpR :=
  match x with
  | .iter it => match m it with
    | some (.iter (some id) since seen last) => match m id, seen.getLast? with
      | some (.map ks ag es clock), some b => if clock = last then match es.find? (fun e => e.born == b) with
        | some e => .eff ⟨[(it, .iter (some id) since seen last), (id, .map ks ag es clock)], .tuple [e.key, e.val], []⟩
        | none => .no
        else .no
      | _, _ => .no
    | _ => .no
  | _ => .no
section
variable {P : Program} {o : Oper} {ρ : Operand → AV} {sp : Oid → Prop}
theorem eff_range {t : TypeId} {y : Operand} {nid : Oid} {m0 : Mem} {e : Eff} (ho : o.op = .range t y) (hs : sp nid) (h : rangeA (tyk P t) m0 nid (ρ y) = .eff e) : EffOK P o ρ sp e ∧ ∀ q, q ∈ e.need → m0 q.1 = some q.2 := by
  unfold rangeA at h
  split at h
  · rename_i s h1 h2
    obtain ⟨d, hd, rfl⟩ := tyk_spec h1
    simp only [OpR.eff.injEq] at h; subst h
    refine ⟨EffOK.of fun x g a w m hm _ hop hsp => ?_, fun q hq => by cases hq⟩
    have hy := hop y (by simp [Op.operands, ho])
    rw [h2] at hy
    obtain ⟨ba, hu, hb⟩ := hy.str_inv
    obtain ⟨hl, hup⟩ := hsp nid hs
    refine ⟨g.bind nid w.heap.size, .value (.pointer (some ⟨w.heap.size, 0, none⟩)), _, w.alloc (.stringIter ba 0), by simp [execOp, ho, Instr.range, run_underlying' hd, hu], .inl rfl, Gh.le_bind hl, fun j hj => ?_, .iter _ _ (by simp [Gh.bind]), hm.new hl hup ⟨ba, heap_new _ _, hb⟩⟩
    simp only [Gh.bind]; rw [if_neg (fun e => hj (by rw [e]; exact hs))]
  · rename_i k el h1 h2
    obtain ⟨d, hd, rfl⟩ := tyk_spec h1
    simp only [OpR.eff.injEq] at h; subst h
    refine ⟨EffOK.of fun x g a w m hm _ hop hsp => ?_, fun q hq => by cases hq⟩
    have hy := hop y (by simp [Op.operands, ho])
    rw [h2] at hy
    obtain ⟨hl, hup⟩ := hsp nid hs
    refine ⟨g.bind nid w.heap.size, .value (.pointer (some ⟨w.heap.size, 0, none⟩)), _, w.alloc (.mapIter none 0 #[] 0), by simp [execOp, ho, Instr.range, run_underlying' hd, hy.nilMap_inv], .inl rfl, Gh.le_bind hl, fun j hj => ?_, .iter _ _ (by simp [Gh.bind]), hm.new hl hup ⟨none, #[], heap_new _ _, rfl, rfl⟩⟩
    simp only [Gh.bind]; rw [if_neg (fun e => hj (by rw [e]; exact hs))]
  · rename_i k el id h1 h2
    obtain ⟨d, hd, rfl⟩ := tyk_spec h1
    split at h
    · rename_i ks ag es clock hmi
      simp only [OpR.eff.injEq] at h; subst h
      refine ⟨EffOK.of fun x g a w m hm hnd hop hsp => ?_, fun q hq => by simp only [List.mem_singleton] at hq; subst hq; exact hmi⟩
      have hy := hop y (by simp [Op.operands, ho])
      rw [h2] at hy
      obtain ⟨b, hu, hb⟩ := hy.map_inv
      obtain ⟨b', k1, k2, k3, k4⟩ := hm.obj id _ (hnd (id, .map ks ag es clock) (by simp))
      rw [hb] at k1; simp only [Option.some.injEq] at k1; subst k1
      obtain ⟨⟨ents, c1, c2⟩, c3, c4⟩ := k4
      obtain ⟨hl, hup⟩ := hsp nid hs
      refine ⟨g.bind nid w.heap.size, .value (.pointer (some ⟨w.heap.size, 0, none⟩)), _, w.alloc (.mapIter (some b) clock #[] clock), by simp [execOp, ho, Instr.range, run_underlying' hd, hu, MapKept.run_getObj_map c1], .inl rfl, Gh.le_bind hl, fun j hj => ?_, .iter _ _ (by simp [Gh.bind]),
        hm.new hl hup ⟨some b, #[], heap_new _ _, rfl, b, (Gh.le_bind hl).1 _ _ hb, rfl⟩⟩
      simp only [Gh.bind]; rw [if_neg (fun e => hj (by rw [e]; exact hs))]
    · cases h
  · cases h

theorem MERs.find {g : Gh} {b : Nat} : ∀ {es : List ME} {cs : List MapEntry}, MERs g es cs → ∀ e, es.find? (fun e => e.born == b) = some e → ∃ c, cs.find? (fun c => c.born == b) = some c ∧ VR g e.key c.key ∧ VR g e.val c.val
  | [], _, _, e, h => by simp at h
  | e0 :: es, _, h, e, hf => by
    cases h with
    | cons hk hv hb t =>
      rename_i c cs
      rw [List.find?_cons] at hf ⊢
      rw [hb]
      split at hf
      · simp only [Option.some.injEq] at hf; subst hf; exact ⟨c, rfl, hk, hv⟩
      · exact MERs.find t e hf
theorem run_getObj' {w : World} {b : Nat} {ob : Obj} (h : w.heap[b]? = some ob) (hc : ob.isCells = false) : (getObj b).run P w = .ok ob w := by
  cases ob <;> first | (cases hc; done) | simp [getObj, Sem.run, h]
theorem eff_entry {y : Operand} {m0 : Mem} {e : Eff} (ho : o.op = .entry y) (h : entryA m0 (ρ y) = .eff e) : EffOK P o ρ sp e ∧ ∀ q, q ∈ e.need → m0 q.1 = some q.2 := by
  unfold entryA at h
  split at h
  · rename_i it hx
    split at h
    · rename_i id since seen last hit
      split at h
      · rename_i ks ag es clock bb hmi hlast
        split at h
        · rename_i hcl
          subst hcl
          split at h
          · rename_i en hfind
            simp only [OpR.eff.injEq] at h; subst h
            refine ⟨EffOK.of fun x g a w m hm hnd hop hsp => ?_, fun q hq => by
              rcases List.mem_cons.1 hq with rfl | hq
              · exact hit
              · simp only [List.mem_singleton] at hq; subst hq; exact hmi⟩
            have hy := hop y (by simp [Op.operands, ho])
            rw [hx] at hy
            obtain ⟨b, hu, hb⟩ := hy.iter_inv
            obtain ⟨b', k1, k2, k3, k4⟩ := hm.obj it _ (hnd (it, .iter (some id) since seen clock) (by simp))
            rw [hb] at k1; simp only [Option.some.injEq] at k1; subst k1
            obtain ⟨r, sa, c1, c2, kk, c3, rfl⟩ := k4
            obtain ⟨b', q1, q2, q3, q4⟩ := hm.obj id _ (hnd (id, .map ks ag es clock) (by simp))
            rw [c3] at q1; simp only [Option.some.injEq] at q1; subst q1
            obtain ⟨⟨ents, d1, d2⟩, d3, d4⟩ := q4
            obtain ⟨c, f1, f2, f3⟩ := d2.find en hfind
            have hback : sa.back? = some bb := by rw [← hlast, ← c2]; simp
            have hfind' : ents.find? (fun c => c.born == bb) = some c := by rw [← f1]; simp
            refine ⟨g, .value (.tuple #[c.key, c.val]), _, w, ?_, .inl rfl, Gh.le_refl g, fun _ _ => rfl, .tuple _ _ rfl (fun j hj => ?_), hm⟩
            · simp [execOp, ho, Instr.entry, hu, run_getObj' c1 rfl, hback, MapKept.run_getObj_map d1, hfind']
            · match j, hj with
              | 0, _ => exact f2
              | 1, _ => exact f3
          · cases h
        · cases h
      · cases h
    · cases h
  · cases h

theorem find_born {es : List ME} (hp : es.Pairwise fun e e' => e.born < e'.born) {e : ME} (he : e ∈ es) : es.find? (fun x => x.born == e.born) = some e := by
  induction es with
  | nil => cases he
  | cons e0 es ih =>
    obtain ⟨h1, h2⟩ := List.pairwise_cons.1 hp
    rw [List.find?_cons]
    rcases List.mem_cons.1 he with rfl | he
    · simp
    · have := h1 e he
      have hne : (e0.born == e.born) = false := by simp; omega
      rw [hne]; exact ih h2 he
end
end Go.Ab
