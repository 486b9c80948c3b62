/- append; new maps; a row that is fixed for good. -/
import Derived.Test.YtpdmiojenhodlaaFw13
set_option linter.unusedVariables false
set_option linter.unusedSimpArgs false
namespace Go.Ab
section
variable {x : Ctx} {g : Gh} {m : Mem} {w : World}

/-- An object under a new name. -/
theorem MemRel.rename (h : MemRel x g m w) {i j : Oid} {o : AObj} {b : Nat} (hi : m i = some o) (hb : g.loc i = some (some b)) (hj : g.loc j = none) (hu : Oid.under x.p j) :
    MemRel x (g.bind j b) ((m.set i none).set j (some o)) w := by
  have hle : g.le (g.bind j b) := Gh.le_bind hj
  have hij : i ≠ j := fun e => by rw [e, hj] at hb; cases hb
  obtain ⟨b0, g1, g2, g3, g4⟩ := h.objL hi hb
  rw [hb] at g1; simp only [Option.some.injEq] at g1; subst g1
  have key : ∀ k o', ((m.set i none).set j (some o)) k = some o' → k ≠ j → m k = some o' ∧ k ≠ i := fun k o' hk e => by
    simp only [Mem.set, e, if_false] at hk
    split at hk
    · cases hk
    · exact ⟨hk, ‹_›⟩
  refine ⟨Gh.le_trans h.le hle, fun k hk => ?_, fun k hk => hle.1 _ _ (h.glob k hk), h.coms, fun k o' hk => ?_, fun k k' o1 o2 c h1 h2 h3 h4 => ?_, h.com, h.one, h.rows, h.os, h.tape, h.output, h.size, h.kept⟩
  · simp only [Gh.bind]; rw [if_neg (fun e => hk (by rw [e]; exact hu))]; exact h.locs k hk
  · by_cases e : k = j
    · subst e
      simp only [Mem.set, if_true, Option.some.injEq] at hk
      subst hk
      exact .inr ⟨b, by simp [Gh.bind], g2, g3, g4.mono hle⟩
    · obtain ⟨k1, k2⟩ := key k o' hk e
      rcases h.obj0 k o' k1 with ⟨v1, v2⟩ | ⟨c, c1, c2, c3, c4⟩
      · exact .inl ⟨v1, hle.1 _ _ v2⟩
      · exact .inr ⟨c, hle.1 _ _ c1, c2, c3, c4.mono hle⟩
  · simp only [Gh.bind] at h3 h4
    by_cases e1 : k = j <;> by_cases e2 : k' = j
    · rw [e1, e2]
    · obtain ⟨m2, n2⟩ := key k' o2 h2 e2
      rw [if_pos e1] at h3; rw [if_neg e2] at h4
      simp only [Option.some.injEq] at h3; subst h3
      exact absurd (h.inj k' i o2 o b m2 hi h4 hb) n2
    · obtain ⟨m1, n1⟩ := key k o1 h1 e1
      rw [if_neg e1] at h3; rw [if_pos e2] at h4
      simp only [Option.some.injEq] at h4; subst h4
      exact absurd (h.inj k i o1 o b m1 hi h3 hb) n1
    · rw [if_neg e1] at h3; rw [if_neg e2] at h4
      exact h.inj k k' o1 o2 c (key k o1 h1 e1).1 (key k' o2 h2 e2).1 h3 h4

/-- A row without elements that lies nowhere, under a new name. -/
def Gh.nowhere (g : Gh) (i : Oid) : Gh := { g with loc := fun j => if j = i then some none else g.loc j }
theorem Gh.le_nowhere {g : Gh} {i : Oid} (h : g.loc i = none) : g.le (g.nowhere i) :=
  ⟨fun j b hj => by simp only [Gh.nowhere]; rw [if_neg (fun e => by rw [e, h] at hj; cases hj)]; exact hj, fun _ _ _ h => h, fun _ _ h => h⟩
theorem MemRel.newVoid (h : MemRel x g m w) {j : Oid} (sz : Nat) (hj : g.loc j = none) (hu : Oid.under x.p j) : MemRel x (g.nowhere j) (m.set j (some (.arr sz []))) w := by
  have hle : g.le (g.nowhere j) := Gh.le_nowhere hj
  refine ⟨Gh.le_trans h.le hle, fun k hk => ?_, fun k hk => hle.1 _ _ (h.glob k hk), h.coms, fun k o' hk => ?_, fun k k' o1 o2 c h1 h2 h3 h4 => ?_, h.com, h.one, h.rows, h.os, h.tape, h.output, h.size, h.kept⟩
  · simp only [Gh.nowhere]; rw [if_neg (fun e => hk (by rw [e]; exact hu))]; exact h.locs k hk
  · by_cases e : k = j
    · subst e
      simp only [Mem.set, if_true, Option.some.injEq] at hk
      subst hk
      exact .inl ⟨rfl, by simp [Gh.nowhere]⟩
    · simp only [Mem.set, e, if_false] at hk
      rcases h.obj0 k o' hk with ⟨v1, v2⟩ | ⟨c, c1, c2, c3, c4⟩
      · exact .inl ⟨v1, hle.1 _ _ v2⟩
      · exact .inr ⟨c, hle.1 _ _ c1, c2, c3, c4.mono hle⟩
  · simp only [Gh.nowhere] at h3 h4
    by_cases e1 : k = j
    · rw [if_pos e1] at h3; cases h3
    · by_cases e2 : k' = j
      · rw [if_pos e2] at h4; cases h4
      · rw [if_neg e1] at h3; rw [if_neg e2] at h4
        simp only [Mem.set, e1, if_false] at h1
        simp only [Mem.set, e2, if_false] at h2
        exact h.inj k k' o1 o2 c h1 h2 h3 h4

/-- A row is fixed for good: it is no object any more. -/
theorem MemRel.freeze (h : MemRel x g m w) {i : Oid} {sz : Nat} {xs : List AV} (hi : m i = some (.arr sz xs)) : ∃ g', g.le g' ∧ (∀ k, g'.loc k = g.loc k) ∧ MemRel x g' (m.set i none) w ∧
    ∀ n u, VR g (.sl i sz n) u → n ≤ xs.length → VR g' (.list sz (xs.take n)) u := by
  rcases h.obj0 i _ hi with ⟨v1, v2⟩ | ⟨b, g1, g2, g3, g4⟩
  · refine ⟨g, Gh.le_refl g, fun _ => rfl, h.drop (fun k o hk => by simp only [Mem.set] at hk; split at hk; cases hk; exact hk), fun n u hu hn => ?_⟩
    have hx : xs = [] := by cases xs with
      | nil => rfl
      | cons _ _ => cases v1
    subst hx
    rcases hu.sl_inv' with ⟨rfl, hu', _⟩ | ⟨b, cap, _, hb, _⟩
    · rw [hu']; exact .listNil sz
    · rw [v2] at hb; cases hb
  obtain ⟨c, t, fz, c1, c2, c3, c4, c6, c5⟩ := g4
  have hle : g.le (g.fix b (c.extract 0 (xs.length * sz))) := Gh.le_fix g2
  have hget : ∀ k v, (c.extract 0 (xs.length * sz))[k]? = some v → c[k]? = some v ∧ k < xs.length * sz := fun k v hk => by
    rw [Array.getElem?_extract] at hk
    split at hk
    · rename_i hlt
      have : k < xs.length * sz := by omega
      exact ⟨by simpa using hk, this⟩
    · cases hk
  have hgot : ∀ k, k < xs.length * sz → (c.extract 0 (xs.length * sz))[k]? = some (c.getD k undef) := fun k hk => by
    have hkc : k < c.size := by omega
    rw [Array.getElem?_extract]
    rw [if_pos (by omega)]
    simp [hkc]
  refine ⟨g.fix b (c.extract 0 (xs.length * sz)), hle, fun _ => rfl, ⟨Gh.le_trans h.le hle, h.locs, h.glob, fun b' k v hv => ?_, fun j o' hj => ?_, fun j j' o1 o2 b' h1 h2 h3 h4 => ?_, fun b' k v hv => ?_, fun b' k v hv => ?_, h.rows, h.os, h.tape, h.output, h.size, h.kept⟩, fun n u hu hn => ?_⟩
  · simp only [Gh.fix] at hv
    split at hv
    · rename_i e; subst e; exact .inr g3
    · exact h.coms b' k v hv
  · simp only [Mem.set] at hj
    split at hj
    · cases hj
    · rename_i hne
      rcases h.obj0 j o' hj with hv | ⟨b', k1, k2, k3, k4⟩
      · exact .inl hv
      refine .inr ⟨b', k1, fun k => ?_, k3, k4.mono hle⟩
      simp only [Gh.fix]
      rw [if_neg (fun e => hne (by subst e; exact h.inj j i o' _ b' hj hi k1 g1))]
      exact k2 k
  · simp only [Mem.set] at h1 h2
    split at h1
    · cases h1
    · split at h2
      · cases h2
      · exact h.inj j j' o1 o2 b' h1 h2 h3 h4
  · simp only [Gh.fix] at hv
    split at hv
    · rename_i e; subst e
      obtain ⟨k1, k2⟩ := hget k v hv
      simp [World.cell?, c1, k1]
    · exact h.com b' k v hv
  · simp only [Gh.fix] at hv
    split at hv
    · obtain ⟨k1, k2⟩ := hget k v hv
      have := c6 k k2
      rw [Array.getD_eq_getD_getElem?, k1] at this
      exact this
    · exact h.one b' k v hv
  · obtain ⟨b', cap, rfl, e1, e2, e3⟩ := hu.sl_inv'.resolve_left (fun hv => by rw [g1] at hv; cases hv.2.2)
    rw [g1] at e1; simp only [Option.some.injEq] at e1; subst e1
    have hlen : (xs.take n).length = n := by simp; omega
    have := VR.list (g := g.fix b (c.extract 0 (xs.length * sz))) sz (xs.take n) b 0 cap (fun i j => c.getD (i * sz + j) undef) (by omega)
      (fun i hi => by rw [hlen] at hi; rw [getD_take _ _ _ _ hi]; exact c4 i (by omega))
      (fun i j hi hj => by
        rw [hlen] at hi
        have hlt : 0 + i * sz + j < xs.length * sz := by
          have h1 := Nat.mul_le_mul_right sz (Nat.succ_le_of_lt hi)
          have h2 := Nat.mul_le_mul_right sz hn
          rw [Nat.succ_mul] at h1; omega
        simp only [Gh.fix, if_true]
        rw [hgot _ hlt, Nat.zero_add])
      (fun i j hi hj => by rw [hlen] at hi; rw [getD_take _ _ _ _ hi]; exact (c5 i j (by omega) hj).mono hle)
    rwa [hlen] at this
end

section
variable {P : Program} {o : Oper} {ρ : Operand → AV} {sp : Oid → Prop}

/-! ### append -/
def zerOK (P : Program) (el : TypeId) (sz : Nat) : Bool := match zer P el with
  | some z => z.length == sz
  | none => false
def appA (P : Program) (m : Mem) (nid : Oid) (t : TypeId) (s x : AV) : OpR :=
  match tyk P t with
  | some (.slice el _ sz by') => match s, srcA m sz x with
    | .nilSl, some (nd, ys) =>
      if zerOK P el sz = true ∧ 0 < by' ∧ ys.length * by' ≤ 140737488355328 then .eff ⟨nd, .sl nid sz ys.length, [(nid, some (.arr sz ys))]⟩ else .no
    | .sl id sz' len, some (nd, ys) => match m id with
      | some (.arr s' xs) =>
        if zerOK P el sz = true ∧ sz' = sz ∧ s' = sz ∧ xs.length = len ∧ 0 < by' ∧ (len + ys.length) * by' ≤ 140737488355328 then
          .eff ⟨(id, .arr s' xs) :: nd, .sl nid sz (len + ys.length), [(id, none), (nid, some (.arr sz (xs ++ ys)))]⟩
        else .no
      | _ => .no
    | _, _ => .no
  | _ => .no

theorem getD_append_left {a b : Array Value} {j : Nat} (h : j < a.size) : (a ++ b).getD j undef = a.getD j undef := by simp [Array.getElem?_append, h]
theorem getD_append_right {a b : Array Value} {j : Nat} (h : a.size ≤ j) : (a ++ b).getD j undef = b.getD (j - a.size) undef := by simp [Array.getElem?_append, Nat.not_lt.2 h]
theorem cut_appendCap {need old : Nat} {el : TypeId} {t : Nat} (h : need < 2 ^ 63) : need ≤ (Question.appendCap need old el).cut t := by simp only [Question.cut]; omega
theorem i64max : IntKind.i64.max = 9223372036854775807 := by decide

section
variable {t u ty el : TypeId} {du : TypeDesc} {inf : TypeInfo} {ag : Bool} {sz : Nat} {zv : Value} {v : Value} {news old : Array Value} {n sLen sCap : Nat} {base : Option Addr} {w : World}
theorem run_append_grows (hd : P.underlying t = some (.slice el)) (hdu : P.underlying u = some du) (hdi : ∀ k, du ≠ .int k) (hsh : shp P el = some (ag, sz)) (hinf : P.info? el = some inf) (hzv : inf.zero = some zv)
    (hlen : (Builtin.lenOf v).run P w = .ok n w) (hnews : (Builtin.firstCells sz n v).run P w.drew = .ok news w.drew) (hold : (Builtin.firstCells sz sLen (.slice base sLen sCap)).run P w.drew = .ok old w.drew)
    (hgt : sCap < sLen + n) (hbp : 0 < inf.bytes) (hbd : (sLen + n) * inf.bytes ≤ 140737488355328) :
    (Builtin.append_ #[t, u] ty #[.slice base sLen sCap, v]).run P w = .ok (.slice (some ⟨w.heap.size, 0, none⟩) (sLen + n) ((Question.appendCap (sLen + n) sCap el).cut (w.tape w.drawn (.appendCap (sLen + n) sCap el))))
      (w.drew.alloc (.cells (old ++ news ++ Builtin.zeroCells zv.cells ((Question.appendCap (sLen + n) sCap el).cut (w.tape w.drawn (.appendCap (sLen + n) sCap el)) - (sLen + n))) el)) := by
  have h1 : ¬ (sLen + n ≤ sCap) := by omega
  have h2 : ¬ inf.bytes = 0 := by omega
  have h3 : ¬ (Builtin.nextslicecap (sLen + n) sCap * inf.bytes > 2 ^ 48) := by
    have := growslice_fits hgt hbd; omega
  have hmatch : (match du with | .int _ => true | _ => false) = false := by cases du <;> first | rfl | exact absurd rfl (hdi _)
  have h3' : ¬ (281474976710656 < Builtin.nextslicecap (sLen + n) sCap * inf.bytes) := by omega
  have hf : (Question.appendCap (sLen + n) sCap el).forced = false := rfl
  simp [Builtin.append_, run_underlying' hd, run_sizeOf hsh, run_underlying' hdu, hmatch, hlen, h1, typeInfo, hinf, h2, h3', hf, hold, hnews, zeroValue, hzv, newRow]
theorem run_append_room' (hd : P.underlying t = some (.slice el)) (hdu : P.underlying u = some du) (hdi : ∀ k, du ≠ .int k) (hsh : shp P el = some (ag, sz))
    (hlen : (Builtin.lenOf v).run P w = .ok n w) (hnews : (Builtin.firstCells sz n v).run P w = .ok news w) (hle : sLen + n ≤ sCap) {a : Addr} {w' : World} (hst : (storeCells (a.add (sLen * sz)) news.toList).run P w = .ok () w') :
    (Builtin.append_ #[t, u] ty #[.slice (some a) sLen sCap, v]).run P w = .ok (.slice (some a) (sLen + n) sCap) w' := by
  have hmatch : (match du with | .int _ => true | _ => false) = false := by cases du <;> first | rfl | exact absurd rfl (hdi _)
  simp [Builtin.append_, run_underlying' hd, run_sizeOf hsh, run_underlying' hdu, hmatch, hlen, hle, hnews, hst]
end

def srcOK : Option TyK → Bool
  | some (.slice ..) => true
  | some .str => true
  | _ => false
theorem append_to_nil {x : Ctx} {g : Gh} {m : Mem} {w : World} (hm : MemRel x g m w) {a : Act} {t u el : TypeId} {y z : Operand} {nid : Oid} {du : TypeDesc} {inf : TypeInfo} {ag : Bool} {sz : Nat} {zv : Value} {ys : List AV} {news : Array Value}
    (ho : o.op = .call ⟨.builtin .append, #[y, z], #[t, u]⟩) (hs : sp nid) (hd : P.underlying t = some (.slice el)) (hdu : P.underlying u = some du) (hdi : ∀ k, du ≠ .int k) (hsh : shp P el = some (ag, sz)) (hinf : P.info? el = some inf) (hzv : inf.zero = some zv) (hzc : zv.cells.size = sz)
    (hbp : 0 < inf.bytes) (hbd : ys.length * inf.bytes ≤ 140737488355328) (hyu : a.eval y = .slice none 0 0)
    (n0 : ∀ i, i < ys.length → (ys.getD i .undef).cells.length = sz) (n1 : news.size = ys.length * sz) (n2 : ∀ j (hj : j < news.size), news[j].oneCell' = true)
    (n3 : ∀ i j, i < ys.length → j < sz → VR g ((ys.getD i .undef).cells.getD j .undef) (news.getD (i * sz + j) undef))
    (n4 : ∀ k, (Builtin.lenOf (a.eval z)).run P { w with drawn := k } = .ok ys.length { w with drawn := k }) (n5 : ∀ k, (Builtin.firstCells sz ys.length (a.eval z)).run P { w with drawn := k } = .ok news { w with drawn := k })
    (hl : g.loc nid = none) (hup : Oid.under x.p nid) :
    ∃ g' nx v w', (execOp a.eval o).run P w = .ok nx w' ∧ (nx = .value v ∨ nx = .skip ∧ v = undef) ∧ g.le g' ∧ (∀ i, ¬ sp i → g'.loc i = g.loc i) ∧ VR g' (.sl nid sz ys.length) v ∧ MemRel x g' (m.set nid (some (.arr sz ys))) w' := by
  have hmatch : (match du with | .int _ => true | _ => false) = false := by cases du <;> first | rfl | exact absurd rfl (hdi _)
  cases ys with
  | nil =>
    refine ⟨g.nowhere nid, .value (.slice none 0 0), _, w, run_builtin ho ?_, .inl rfl, Gh.le_nowhere hl, fun j hj => ?_, .slNil _ _ (by simp [Gh.nowhere]), hm.newVoid sz hl hup⟩
    · have k4 := n4 w.drawn; have k5 := n5 w.drawn
      simp only [List.length_nil] at k4 k5
      simp [builtin, Builtin.append_, run_underlying' hd, hyu, run_sizeOf hsh, run_underlying' hdu, hmatch, k4, k5]
    · simp only [Gh.nowhere]; rw [if_neg (fun e => hj (by rw [e]; exact hs))]
  | cons v vs =>
    simp only [List.length_cons] at n0 n1 n3 n4 n5 hbd ⊢
    generalize hn : vs.length + 1 = n at *
    have hn0 : n ≠ 0 := by omega
    have hnb : n ≤ 140737488355328 := Nat.le_trans (Nat.le_mul_of_pos_right n hbp) hbd
    have hrun := run_append_grows (P := P) (ty := o.type) (sLen := 0) (sCap := 0) (base := none) (old := #[]) hd hdu hdi hsh hinf hzv (n4 w.drawn) (n5 (w.drawn + 1)) (by simp [Builtin.firstCells]) (by omega) hbp (by simpa using hbd)
    have hcap := cut_appendCap (need := 0 + n) (old := 0) (el := el) (t := w.tape w.drawn (.appendCap (0 + n) 0 el)) (by omega)
    generalize (Question.appendCap (0 + n) 0 el).cut (w.tape w.drawn (.appendCap (0 + n) 0 el)) = C at hcap hrun
    rw [Nat.zero_add] at hcap hrun
    generalize hR : (#[] ++ news ++ Builtin.zeroCells zv.cells (C - n)) = row at hrun
    have hrow : row.size = C * sz := by
      rw [← hR]
      simp only [Array.size_append, n1, Builtin.zeroCells, Array.size_map, Array.size_range, hzc]
      rw [show (#[] : Array Value).size = 0 from rfl, Nat.zero_add, ← Nat.add_mul]; congr 1; omega
    have hrg : ∀ j, j < news.size → row.getD j undef = news.getD j undef := fun j hj => by
      rw [← hR, getD_append_left (by simpa using hj)]; simp
    have hmd : MemRel x g m w.drew := hm.drew _ (Nat.le_succ _)
    have hnew := hmd.new (o := .arr sz (v :: vs)) (ob := .cells row el) hl hup ⟨row, el, (0, 0), heap_new _ _, by
        rw [hrow, List.length_cons, hn]; exact Nat.mul_le_mul_right sz (by omega), fun j _ h => by omega, by simpa [hn] using n0, fun j hj => by
        rw [List.length_cons, hn] at hj
        have hj' : j < news.size := by omega
        rw [hrg j hj']
        have := n2 j hj'
        simpa [hj'] using this, fun i j hi hj => by
        rw [List.length_cons, hn] at hi
        have hj' : i * sz + j < news.size := by
          have := Nat.mul_le_mul_right sz (Nat.succ_le_of_lt hi)
          rw [Nat.succ_mul] at this; omega
        rw [hrg _ hj']
        exact (n3 i j hi hj).mono (Gh.le_bind hl)⟩
    have hrn : (g.bind nid w.drew.heap.size).row w.drew.heap.size = none := hmd.row_new (Nat.le_refl _)
    refine ⟨(g.bind nid w.drew.heap.size).measure w.drew.heap.size (C * sz), .value (.slice (some ⟨w.heap.size, 0, none⟩) n C), _, w.drew.alloc (.cells row el), run_builtin ho ?_, .inl rfl, Gh.le_trans (Gh.le_bind hl) (Gh.le_measure (.inl hrn)), fun j hj => ?_, ?_, hnew.measure ⟨row, el, (0, 0), heap_new _ _, hrow⟩ (.inl hrn)⟩
    · simp [builtin, hyu, hrun]
    · simp only [Gh.bind, Gh.measure]; rw [if_neg (fun e => hj (by rw [e]; exact hs))]
    · exact .sl _ _ _ _ _ (by simp [Gh.bind, Gh.measure]) hcap (by simp [Gh.measure])
theorem eff_append {t u : TypeId} {y z : Operand} {nid : Oid} {m0 : Mem} {e : Eff} (ho : o.op = .call ⟨.builtin .append, #[y, z], #[t, u]⟩) (hs : sp nid) (hu : srcOK (tyk P u) = true)
    (h : appA P m0 nid t (ρ y) (ρ z) = .eff e) : EffOK P o ρ sp e ∧ ∀ q, q ∈ e.need → m0 q.1 = some q.2 := by
  have hund : ∃ d, P.underlying u = some d ∧ (∀ k, d ≠ .int k) := by
    unfold srcOK at hu
    split at hu
    · rename_i h1; obtain ⟨d, hd, h2⟩ := tyk_spec h1; exact ⟨d, hd, fun k e => by rw [h2.1] at e; cases e⟩
    · rename_i h1; obtain ⟨d, hd, h2⟩ := tyk_spec h1; exact ⟨d, hd, fun k e => by rw [h2] at e; cases e⟩
    · cases hu
  obtain ⟨du, hdu, hdi⟩ := hund
  have hmatch : (match du with | .int _ => true | _ => false) = false := by cases du <;> first | rfl | exact absurd rfl (hdi _)
  unfold appA at h
  split at h
  · rename_i el ag sz by' e1
    obtain ⟨d, hd, rfl, hsh, inf, hinf, hby⟩ := tyk_spec e1
    subst hby
    have zero_of : zerOK P el sz = true → ∃ zv, inf.zero = some zv ∧ zv.cells.size = sz := by
      intro hz
      unfold zerOK zer at hz
      rw [hinf] at hz
      cases hzz : inf.zero with
      | none => simp [hzz] at hz
      | some zv => simp [hzz, constA_cells] at hz; exact ⟨zv, rfl, hz⟩
    split at h
    · -- to nil
      rename_i nd ys e2 e3
      split at h
      · rename_i hc
        obtain ⟨hzer, hbp, hbd⟩ := hc
        simp only [OpR.eff.injEq] at h; subst h
        obtain ⟨zv, hzv, hzc⟩ := zero_of hzer
        refine ⟨EffOK.of fun x g a w m hm hnd hop hsp => ?_, srcA_need e3⟩
        have hy := hop y (by simp [Op.operands, Call.operands, ho])
        have hz := hop z (by simp [Op.operands, Call.operands, ho])
        rw [e2] at hy
        obtain ⟨n0, news, n1, n2, n3, n4, n5⟩ := srcA_spec (P := P) hm hz e3 hnd
        obtain ⟨hl, hup⟩ := hsp nid hs
        exact append_to_nil hm ho hs hd hdu hdi hsh hinf hzv hzc hbp hbd hy.nilSl_inv n0 n1 n2 n3 n4 n5 hl hup
      · cases h
    · -- to a row
      rename_i id sz' len nd ys e2 e3
      split at h
      · rename_i s' xs hmid
        split at h
        · rename_i hc
          obtain ⟨hzer, rfl, rfl, rfl, hbp, hbd⟩ := hc
          simp only [OpR.eff.injEq] at h; subst h
          obtain ⟨zv, hzv, hzc⟩ := zero_of hzer
          refine ⟨EffOK.of fun x g a w m hm hnd hop hsp => ?_, fun q hq => ?_⟩
          · have hy := hop y (by simp [Op.operands, Call.operands, ho])
            have hz := hop z (by simp [Op.operands, Call.operands, ho])
            rw [e2] at hy
            obtain ⟨n0, news, n1, n2, n3, n4, n5⟩ := srcA_spec (P := P) hm hz e3 (fun q hq => hnd q (List.mem_cons_of_mem _ hq))
            obtain ⟨hl, hup⟩ := hsp nid hs
            have hmi : m id = some (.arr s' xs) := hnd (id, .arr s' xs) List.mem_cons_self
            rcases hy.sl_inv' with ⟨hz0, hyu, hb0⟩ | ⟨b, cap, hyu, hb, hcap, hrb⟩
            · have hx : xs = [] := List.eq_nil_of_length_eq_zero hz0
              subst hx
              have hbd' : ys.length * inf.bytes ≤ 140737488355328 := by simpa using hbd
              obtain ⟨g', nx, v, w', q1, q2, q3, q4, q5, q6⟩ := append_to_nil (m := m.set id none) (hm.drop (fun k o hk => by simp only [Mem.set] at hk; split at hk; cases hk; exact hk)) ho hs hd hdu hdi hsh hinf hzv hzc hbp hbd' hyu n0 n1 n2 n3 n4 n5 hl hup
              exact ⟨g', nx, v, w', q1, q2, q3, q4, by simpa using q5, by simpa [Mem.upds] using q6⟩
            obtain ⟨b', g1, g2, g3, g4⟩ := hm.objL hmi hb
            rw [hb] at g1; simp only [Option.some.injEq] at g1; subst g1
            obtain ⟨c, ct, fz, c1, c2, c3, c4, c6, c5⟩ := g4
            have hcs : c.size = cap * s' := by
              obtain ⟨c', t', fz', k1, k2⟩ := hm.rows b _ hrb
              rw [c1] at k1; simp only [Option.some.injEq, Obj.cells.injEq] at k1
              rw [k1.1]; exact k2
            have hidn : id ≠ nid := fun e => by rw [e, hl] at hb; cases hb
            -- what the joined row holds
            have joinLen : (xs ++ ys).length = xs.length + ys.length := List.length_append
            have joinGet : ∀ i, (xs ++ ys).getD i .undef = if i < xs.length then xs.getD i .undef else ys.getD (i - xs.length) .undef := fun i => by
              simp only [List.getD_eq_getElem?_getD]
              by_cases hi : i < xs.length
              · rw [if_pos hi, List.getElem?_append_left hi]
              · rw [if_neg hi, List.getElem?_append_right (by omega)]
            have joined : ∀ (row : Array Value), (∀ j, j < xs.length * s' → row.getD j undef = c.getD j undef) → (∀ j, j < ys.length * s' → row.getD (xs.length * s' + j) undef = news.getD j undef) →
                (∀ i, i < (xs ++ ys).length → ((xs ++ ys).getD i .undef).cells.length = s') ∧ (∀ j, j < (xs ++ ys).length * s' → (row.getD j undef).oneCell' = true) ∧
                ∀ i j, i < (xs ++ ys).length → j < s' → VR g (((xs ++ ys).getD i .undef).cells.getD j .undef) (row.getD (i * s' + j) undef) := by
              intro row r1 r2
              refine ⟨fun i hi => ?_, fun j hj => ?_, fun i j hi hj => ?_⟩
              · rw [joinGet]; rw [joinLen] at hi
                split
                · exact c4 i ‹_›
                · exact n0 _ (by omega)
              · rw [joinLen, Nat.add_mul] at hj
                rcases Nat.lt_or_ge j (xs.length * s') with h1 | h1
                · rw [r1 j h1]; exact c6 j h1
                · have := r2 (j - xs.length * s') (by omega)
                  rw [Nat.add_sub_cancel' h1] at this
                  rw [this]
                  have hj' : j - xs.length * s' < news.size := by omega
                  have := n2 _ hj'
                  simpa [hj'] using this
              · rw [joinLen] at hi
                rw [joinGet]
                split
                · rename_i h1
                  have hlt : i * s' + j < xs.length * s' := by
                    have := Nat.mul_le_mul_right s' (Nat.succ_le_of_lt h1)
                    rw [Nat.succ_mul] at this; omega
                  rw [r1 _ hlt]; exact c5 i j h1 hj
                · rename_i h1
                  have hi2 : i - xs.length < ys.length := by omega
                  have hlt : (i - xs.length) * s' + j < ys.length * s' := by
                    have := Nat.mul_le_mul_right s' (Nat.succ_le_of_lt hi2)
                    rw [Nat.succ_mul] at this; omega
                  have := r2 _ hlt
                  rw [← Nat.add_assoc, ← Nat.add_mul, Nat.add_sub_cancel' (by omega)] at this
                  rw [this]; exact n3 _ j hi2 hj
            by_cases hfit : xs.length + ys.length ≤ cap
            · -- there is room
              have hmul : (xs.length + ys.length) * s' ≤ cap * s' := Nat.mul_le_mul_right s' hfit
              rw [Nat.add_mul] at hmul
              obtain ⟨w', c', r1, r2, r3, r4, r5, r6, r7, r8, r9⟩ := run_storeCells (P := P) b c ct fz news.toList (xs.length * s') 0 w c c1 c3 (by simp only [Array.length_toList, n1]; omega) (fun v hv => by
                obtain ⟨j, hj, rfl⟩ := List.mem_iff_getElem.1 hv
                simpa using n2 j (by simpa using hj))
              have hrun := run_append_room' (P := P) (ty := o.type) (sLen := xs.length) (sCap := cap) (a := ⟨b, 0, none⟩) hd hdu hdi hsh (n4 w.drawn) (n5 w.drawn) hfit (w' := w') (by rw [addr_add]; simpa using r1)
              obtain ⟨j1, j2, j3⟩ := joined c' (fun j hj => by rw [r4, if_neg (by omega)]) (fun j hj => by
                rw [r4]
                simp only [Array.length_toList, n1, Nat.add_zero]
                rw [if_pos (by omega)]
                have hj' : j < news.size := by omega
                simp [List.getD_eq_getElem?_getD, hj'])
              have hturn := hm.turn (o := .arr s' (xs ++ ys)) hmi hb r5 r6 r7 (by omega) (fun b' hb' _ => r9 b' hb') (fun r hr => by
                rw [hrb] at hr; simp only [Option.some.injEq] at hr
                exact ⟨c', ct, fz, r2, by rw [r3, hcs, hr]⟩) ⟨c', ct, fz, r2, by rw [r3, hcs, joinLen, Nat.add_mul]; exact hmul, fun j hj => c3 j (by omega), j1, j2, j3⟩
              have hren := hturn.rename (i := id) (j := nid) (o := .arr s' (xs ++ ys)) (by simp [Mem.set]) hb hl hup
              have hmem : (((m.set id (some (.arr s' (xs ++ ys)))).set id none).set nid (some (.arr s' (xs ++ ys)))) = m.upds [(id, none), (nid, some (.arr s' (xs ++ ys)))] := by
                funext k
                simp only [Mem.upds, Mem.set]
                by_cases e1 : k = nid
                · simp [e1]
                · by_cases e2 : k = id <;> simp [e1, e2]
              rw [hmem] at hren
              refine ⟨g.bind nid b, .value (.slice (some ⟨b, 0, none⟩) (xs.length + ys.length) cap), _, w', run_builtin ho ?_, .inl rfl, Gh.le_bind hl, fun j hj => ?_, ?_, hren⟩
              · simp [builtin, hyu, hrun]
              · simp only [Gh.bind]; rw [if_neg (fun e => hj (by rw [e]; exact hs))]
              · exact .sl _ _ _ _ _ (by simp [Gh.bind]) hfit hrb
            · -- a new row
              have hnb : xs.length + ys.length ≤ 140737488355328 := Nat.le_trans (Nat.le_mul_of_pos_right _ hbp) hbd
              have holdrun : (Builtin.firstCells s' xs.length (.slice (some ⟨b, 0, none⟩) xs.length cap)).run P w.drew = .ok ((List.range (xs.length * s')).map fun j => c.getD j undef).toArray w.drew := by
                simp only [Builtin.firstCells]
                refine run_loadCells (P := P) w.drew ⟨b, 0, none⟩ _ _ (fun j hj => ?_)
                rw [addr_add]
                have hlt : j < c.size := by omega
                rw [World.cell?_drew]; simp [World.cell?, c1, hlt]
              have hrun := run_append_grows (P := P) (ty := o.type) (sLen := xs.length) (sCap := cap) (base := some ⟨b, 0, none⟩) hd hdu hdi hsh hinf hzv (n4 w.drawn) (n5 (w.drawn + 1)) holdrun (by omega) hbp hbd
              have hcap' := cut_appendCap (need := xs.length + ys.length) (old := cap) (el := el) (t := w.tape w.drawn (.appendCap (xs.length + ys.length) cap el)) (by omega)
              generalize (Question.appendCap (xs.length + ys.length) cap el).cut (w.tape w.drawn (.appendCap (xs.length + ys.length) cap el)) = C at hcap' hrun
              generalize hO : ((List.range (xs.length * s')).map fun j => c.getD j undef).toArray = old at hrun
              have hos : old.size = xs.length * s' := by rw [← hO]; simp
              have hog : ∀ j, j < xs.length * s' → old.getD j undef = c.getD j undef := fun j hj => by rw [← hO]; simp [hj]
              generalize hR : (old ++ news ++ Builtin.zeroCells zv.cells (C - (xs.length + ys.length))) = row at hrun
              have hrow : row.size = C * s' := by
                rw [← hR]
                simp only [Array.size_append, n1, hos, Builtin.zeroCells, Array.size_map, Array.size_range, hzc]
                rw [← Nat.add_mul, ← Nat.add_mul]; congr 1; omega
              obtain ⟨j1, j2, j3⟩ := joined row (fun j hj => by
                  rw [← hR, getD_append_left (by rw [Array.size_append]; omega), getD_append_left (by omega)]; exact hog j hj) (fun j hj => by
                  rw [← hR, getD_append_left (by rw [Array.size_append]; omega), getD_append_right (by omega), hos, Nat.add_sub_cancel_left])
              have hmd : MemRel x g (m.set id none) w.drew := (hm.drew _ (Nat.le_succ _)).drop (fun k o' hk => by simp only [Mem.set] at hk; split at hk; cases hk; exact hk)
              have hnew := hmd.new (o := .arr s' (xs ++ ys)) (ob := .cells row el) hl hup ⟨row, el, (0, 0), heap_new _ _, by rw [hrow, joinLen]; exact Nat.mul_le_mul_right s' hcap', fun j _ h => by omega, j1, j2, fun i j hi hj => (j3 i j hi hj).mono (Gh.le_bind hl)⟩
              have hrn : (g.bind nid w.drew.heap.size).row w.drew.heap.size = none := hmd.row_new (Nat.le_refl _)
              refine ⟨(g.bind nid w.drew.heap.size).measure w.drew.heap.size (C * s'), .value (.slice (some ⟨w.heap.size, 0, none⟩) (xs.length + ys.length) C), _, w.drew.alloc (.cells row el), run_builtin ho ?_, .inl rfl, Gh.le_trans (Gh.le_bind hl) (Gh.le_measure (.inl hrn)), fun j hj => ?_, ?_, hnew.measure ⟨row, el, (0, 0), heap_new _ _, hrow⟩ (.inl hrn)⟩
              · simp [builtin, hyu, hrun]
              · simp only [Gh.bind, Gh.measure]; rw [if_neg (fun e => hj (by rw [e]; exact hs))]
              · exact .sl _ _ _ _ _ (by simp [Gh.bind, Gh.measure]) hcap' (by simp [Gh.measure])
          · rcases List.mem_cons.1 hq with rfl | hq
            · exact hmid
            · exact srcA_need e3 q hq
        · cases h
      · cases h
    · cases h
  · cases h

/-! ### new maps -/
/-- The shape of a map type's keys. -/
def keyShape (P : Program) (t : TypeId) : Option (List TyS × Bool) := match tyk P t with
  | some (.map k _) => match flatT P 10 k, shp P k with
    | some ks, some (ag, _) => some (ks, ag)
    | _, _ => none
  | _ => none
theorem eff_makeMap {t : TypeId} {nid : Oid} (ks : List TyS) (ag : Bool) (ho : o.op = .makeMap t none) (hs : sp nid) : EffOK P o ρ sp ⟨[], .map nid, [(nid, some (.map ks ag [] 0))]⟩ := by
  refine EffOK.of fun x g a w m hm _ _ hsp => ?_
  obtain ⟨hl, hu⟩ := hsp nid hs
  refine ⟨g.bind nid w.heap.size, .value (.map (some w.heap.size)), _, w.alloc (.map #[] 0), ?_, .inl rfl, Gh.le_bind hl, fun j hj => ?_, .map _ _ (by simp [Gh.bind]), hm.new hl hu ?_⟩
  · simp [execOp, ho, Instr.makeMap]
  · simp only [Gh.bind]; rw [if_neg (fun e => hj (by rw [e]; exact hs))]
  · exact ⟨⟨#[], heap_new w _, .nil⟩, (fun e he => absurd he (by simp)), List.Pairwise.nil⟩
end
end Go.Ab
