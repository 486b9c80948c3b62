/- What single operations do: equality of structs and with nil; not, minus; conversions of numbers; nil checks; addresses of fields and elements. -/
import Derived.Test.YtpdmiojenhodlaaFw8
set_option linter.unusedVariables false
set_option linter.unusedSimpArgs false
namespace Go.Ab

/-! ### equality of values made of numbers, bools, strings -/
def eqS : AV → AV → Bool
  | .bool a, .bool b => a == b
  | .int _ a, .int _ b => a == b
  | .str a, .str b => a == b
  | _, _ => false
def eqCells : List AV → List AV → Bool
  | [], [] => true
  | x :: xs, y :: ys => eqS x y && eqCells xs ys
  | _, _ => false
def flatFs (ft : TypeId → Option (List TyS)) : Nat → List Field → Option (List TyS)
  | _, [] => some []
  | off, f :: fs => if f.name ≠ "_" ∧ f.offset = off then match ft f.type with
      | some a => match flatFs ft (off + a.length) fs with
        | some b => some (a ++ b)
        | none => none
      | none => none
    else none
/-- The scalars that a value of the type is made of, cell by cell. -/
def flatT (P : Program) : Nat → TypeId → Option (List TyS)
  | 0, _ => none
  | d + 1, t => match P.underlying t with
    | some .bool => if shp P t = some (false, 1) then some [.sb] else none
    | some (.int k) => if shp P t = some (false, 1) then some [.si k] else none
    | some .string => if shp P t = some (false, 1) then some [.ss] else none
    | some (.struct fs) => if P.stoodInHeld t then none else match flatFs (flatT P d) 0 fs.toList with
      | some l => if shp P t = some (true, l.length) then some l else none
      | none => none
    | _ => none

theorem fits_length : ∀ {ks : List TyS} {xs : List AV}, fits ks xs = true → xs.length = ks.length
  | [], [], _ => rfl
  | _ :: ks, _ :: xs, h => by simp only [fits, Bool.and_eq_true] at h; simp [fits_length h.2]
  | [], _ :: _, h => by simp [fits] at h
  | _ :: _, [], h => by simp [fits] at h
theorem fits_append : ∀ {ks ls : List TyS} {xs : List AV}, fits (ks ++ ls) xs = true → fits ks (xs.take ks.length) = true ∧ fits ls (xs.drop ks.length) = true
  | [], ls, xs, h => by simpa [fits] using h
  | k :: ks, ls, [], h => by simp [fits] at h
  | k :: ks, ls, x :: xs, h => by
    simp only [List.cons_append, fits, Bool.and_eq_true] at h
    obtain ⟨h1, h2⟩ := fits_append h.2
    simp [fits, h.1, h1, h2]
theorem eqCells_append : ∀ {xs ys : List AV} (n : Nat), xs.length = ys.length → eqCells xs ys = (eqCells (xs.take n) (ys.take n) && eqCells (xs.drop n) (ys.drop n))
  | xs, ys, 0, _ => by simp [eqCells]
  | [], [], n + 1, _ => by simp [eqCells]
  | x :: xs, y :: ys, n + 1, h => by simp [eqCells, eqCells_append (xs := xs) (ys := ys) n (by simpa using h), Bool.and_assoc]
  | [], _ :: _, _ + 1, h => by simp at h
  | _ :: _, [], _ + 1, h => by simp at h

/-- u is made of the cells xs. -/
def Made (g : Gh) (agg : Bool) (xs : List AV) (u : Value) : Prop :=
  if agg then ∃ a : Array Value, u = .agg a ∧ a.size = xs.length ∧ ∀ j, j < xs.length → VR g (xs.getD j .undef) (a.getD j undef)
  else xs.length = 1 ∧ VR g (xs.getD 0 .undef) u

section
variable {P : Program}
theorem run_part {t : TypeId} {agg : Bool} {n : Nat} (hs : shp P t = some (agg, n)) (hn : agg = false → n = 1) {g : Gh} {xs : List AV} {a : Array Value} (h1 : a.size = xs.length) (h2 : ∀ j, j < xs.length → VR g (xs.getD j .undef) (a.getD j undef))
    (off : Nat) (hoff : off + n ≤ xs.length) (w : World) : ∃ u, (part t a off).run P w = .ok u w ∧ Made g agg ((xs.drop off).take n) u := by
  cases agg with
  | true =>
    refine ⟨.agg (a.extract off (off + n)), by simp [part, run_isAgg hs, run_sizeOf hs], a.extract off (off + n), rfl, by simp; omega, fun j hj => ?_⟩
    simp only [List.length_take, List.length_drop] at hj
    rw [getD_take _ _ _ _ (by omega), getD_drop]
    have := h2 (off + j) (by omega)
    have e : (a.extract off (off + n)).getD j undef = a.getD (off + j) undef := by
      have : j < n := by omega
      simp [Array.getElem?_extract]
      rw [if_pos (by omega)]
    rw [e]; exact this
  | false =>
    have hn1 := hn rfl
    subst hn1
    have hlt : off < a.size := by omega
    refine ⟨a[off], by simp [part, run_isAgg hs, hlt], by simp; omega, ?_⟩
    rw [getD_take _ _ _ _ (by omega), getD_drop]
    have := h2 off (by omega)
    simpa [hlt] using this

theorem flat_shp {d : Nat} {t : TypeId} {ks : List TyS} (h : flatT P d t = some ks) : ∃ agg, shp P t = some (agg, ks.length) ∧ (agg = false → ks.length = 1) := by
  cases d with
  | zero => cases h
  | succ d =>
    unfold flatT at h
    split at h
    · split at h
      · rename_i hs; simp only [Option.some.injEq] at h; subst h; exact ⟨false, hs, fun _ => rfl⟩
      · cases h
    · split at h
      · rename_i hs; simp only [Option.some.injEq] at h; subst h; exact ⟨false, hs, fun _ => rfl⟩
      · cases h
    · split at h
      · rename_i hs; simp only [Option.some.injEq] at h; subst h; exact ⟨false, hs, fun _ => rfl⟩
      · cases h
    · split at h
      · cases h
      · split at h
        · split at h
          · rename_i hs; simp only [Option.some.injEq] at h; subst h; exact ⟨true, hs, fun h => by cases h⟩
          · cases h
        · cases h
    · cases h

theorem run_eqFields {g : Gh} {w : World} {e : Nat} {ft : TypeId → Option (List TyS)} (hft : ∀ t ks, ft t = some ks → ∃ agg, shp P t = some (agg, ks.length) ∧ (agg = false → ks.length = 1) ∧
      ∀ xs ys u v, fits ks xs = true → fits ks ys = true → Made g agg xs u → Made g agg ys v → (Op.equalIn e t u v).run P w = .ok (eqCells xs ys) w)
    {xs ys : List AV} {a b : Array Value} (ha1 : a.size = xs.length) (ha2 : ∀ j, j < xs.length → VR g (xs.getD j .undef) (a.getD j undef)) (hb1 : b.size = ys.length) (hb2 : ∀ j, j < ys.length → VR g (ys.getD j .undef) (b.getD j undef)) :
    ∀ (fs : List Field) (off : Nat) (l : List TyS), flatFs ft off fs = some l → fits l (xs.drop off) = true → fits l (ys.drop off) = true → xs.length = off + l.length → ys.length = off + l.length →
      (Op.eqFields e a b fs).run P w = .ok (eqCells (xs.drop off) (ys.drop off)) w
  | [], off, l, h, _, _, h3, h4 => by
    simp only [flatFs, Option.some.injEq] at h; subst h
    simp only [List.length_nil, Nat.add_zero] at h3 h4
    rw [List.drop_eq_nil_of_le (by omega), List.drop_eq_nil_of_le (by omega)]
    simp [Op.eqFields, eqCells]
  | f :: fs, off, l, h, h1, h2, h3, h4 => by
    simp only [flatFs] at h
    split at h
    · rename_i hc
      obtain ⟨hnm, hoff⟩ := hc
      split at h
      · rename_i ks hks
        split at h
        · rename_i rest hrest
          simp only [Option.some.injEq] at h; subst h
          obtain ⟨agg, hs, hn, heq⟩ := hft _ _ hks
          obtain ⟨p1, p2⟩ := fits_append h1
          obtain ⟨q1, q2⟩ := fits_append h2
          simp only [List.length_append] at h3 h4
          obtain ⟨u, hu, hmu⟩ := run_part hs hn ha1 ha2 off (by omega) w
          obtain ⟨v, hv, hmv⟩ := run_part hs hn hb1 hb2 off (by omega) w
          rw [List.drop_drop] at p2 q2
          have ih := run_eqFields hft ha1 ha2 hb1 hb2 fs (off + ks.length) rest hrest p2 q2 (by omega) (by omega)
          have hee := heq _ _ u v p1 q1 hmu hmv
          rw [eqCells_append (xs := xs.drop off) (ys := ys.drop off) ks.length (by simp; omega), List.drop_drop, List.drop_drop]
          simp only [Op.eqFields, hnm, ne_eq, not_false_eq_true, if_true, Sem.run_bind, hoff, hu, hv, Result.andThen_ok, hee, Sem.run_ite]
          cases hc : eqCells ((xs.drop off).take ks.length) ((ys.drop off).take ks.length) with
          | false => simp
          | true => simpa using ih
        · cases h
      · cases h
    · cases h

theorem run_equalIn_flat {g : Gh} {w : World} : ∀ (d : Nat) (t : TypeId) (ks : List TyS), flatT P d t = some ks → ∀ e, d ≤ e → ∃ agg, shp P t = some (agg, ks.length) ∧ (agg = false → ks.length = 1) ∧
    ∀ xs ys u v, fits ks xs = true → fits ks ys = true → Made g agg xs u → Made g agg ys v → (Op.equalIn e t u v).run P w = .ok (eqCells xs ys) w
  | 0, _, _, h, _, _ => by cases h
  | d + 1, t, ks, h, e, he => by
    obtain ⟨e, rfl⟩ : ∃ e', e = e' + 1 := ⟨e - 1, by omega⟩
    obtain ⟨agg, hs, hn⟩ := flat_shp h
    refine ⟨agg, hs, hn, fun xs ys u v fx fy hu hv => ?_⟩
    obtain ⟨dd, ii, hd, hi, hag, hsz⟩ := shp_spec hs
    unfold flatT at h
    split at h
    · rename_i hund
      split at h
      · rename_i hs'
        rw [hs] at hs'; simp only [Option.some.injEq, Prod.mk.injEq] at hs'; obtain ⟨rfl, _⟩ := hs'
        simp only [Option.some.injEq] at h; subst h
        obtain ⟨x, rfl⟩ : ∃ x, xs = [x] := List.length_eq_one_iff.1 (fits_length fx)
        obtain ⟨y, rfl⟩ : ∃ y, ys = [y] := List.length_eq_one_iff.1 (fits_length fy)
        simp only [Made, Bool.false_eq_true, if_false] at hu hv
        simp only [fits, Bool.and_true] at fx fy
        cases x <;> simp only [fitS] at fx <;> try (cases fx; done)
        cases y <;> simp only [fitS] at fy <;> try (cases fy; done)
        have e1 := hu.2.bool_inv; have e2 := hv.2.bool_inv
        subst e1; subst e2
        rw [run_equalIn_bool w e t _ _ hund]; simp [eqCells, eqS]
      · cases h
    · rename_i k hund
      split at h
      · rename_i hs'
        rw [hs] at hs'; simp only [Option.some.injEq, Prod.mk.injEq] at hs'; obtain ⟨rfl, _⟩ := hs'
        simp only [Option.some.injEq] at h; subst h
        obtain ⟨x, rfl⟩ : ∃ x, xs = [x] := List.length_eq_one_iff.1 (fits_length fx)
        obtain ⟨y, rfl⟩ : ∃ y, ys = [y] := List.length_eq_one_iff.1 (fits_length fy)
        simp only [Made, Bool.false_eq_true, if_false] at hu hv
        simp only [fits, Bool.and_true] at fx fy
        cases x <;> simp only [fitS] at fx <;> try (cases fx; done)
        cases y <;> simp only [fitS] at fy <;> try (cases fy; done)
        simp only [beq_iff_eq] at fx fy
        subst fx; subst fy
        have e1 := hu.2.int_inv; have e2 := hv.2.int_inv
        subst e1; subst e2
        rw [run_equalIn_int w e t _ _ _ _ hund]; simp [eqCells, eqS]
      · cases h
    · rename_i hund
      split at h
      · rename_i hs'
        rw [hs] at hs'; simp only [Option.some.injEq, Prod.mk.injEq] at hs'; obtain ⟨rfl, _⟩ := hs'
        simp only [Option.some.injEq] at h; subst h
        obtain ⟨x, rfl⟩ : ∃ x, xs = [x] := List.length_eq_one_iff.1 (fits_length fx)
        obtain ⟨y, rfl⟩ : ∃ y, ys = [y] := List.length_eq_one_iff.1 (fits_length fy)
        simp only [Made, Bool.false_eq_true, if_false] at hu hv
        simp only [fits, Bool.and_true] at fx fy
        cases x <;> simp only [fitS] at fx <;> try (cases fx; done)
        cases y <;> simp only [fitS] at fy <;> try (cases fy; done)
        obtain ⟨b1, e1, f1⟩ := hu.2.str_inv; obtain ⟨b2, e2, f2⟩ := hv.2.str_inv
        subst e1; subst e2; subst f1; subst f2
        rw [run_equalIn_string w e t _ _ hund]; simp [eqCells, eqS, ByteArray.toList_eq]
      · cases h
    · rename_i fs hund
      split at h
      · cases h
      · rename_i hst
        split at h
        · rename_i l hl
          split at h
          · rename_i hs'
            rw [hs] at hs'; simp only [Option.some.injEq, Prod.mk.injEq] at hs'; obtain ⟨rfl, _⟩ := hs'
            simp only [Option.some.injEq] at h; subst h
            simp only [Made, if_true] at hu hv
            obtain ⟨a, rfl, ha1, ha2⟩ := hu
            obtain ⟨b, rfl, hb1, hb2⟩ := hv
            have hf : P.fieldsOf t = fs := by simp [Program.fieldsOf, hund]
            rw [run_equalIn_struct w e t a b (by rw [hf]; exact hund) (by simpa using hst), hf]
            have := run_eqFields (w := w) (e := e) (fun t' ks' h' => run_equalIn_flat d t' ks' h' e (by omega)) ha1 ha2 hb1 hb2 fs.toList 0 l hl (by simpa using fx) (by simpa using fy) (by simpa using fits_length fx) (by simpa using fits_length fy)
            simpa using this
          · cases h
        · cases h
    · cases h

theorem tyk_spec {t : TypeId} {k : TyK} (h : tyk P t = some k) : ∃ d, P.underlying t = some d ∧ (match k with
    | .bool => d = .bool
    | .int k => d = .int k
    | .str => d = .string
    | .slice e ag sz by' => d = .slice e ∧ shp P e = some (ag, sz) ∧ ∃ i, P.info? e = some i ∧ i.bytes = by'
    | .arr n e ag sz => d = .array n e ∧ shp P e = some (ag, sz)
    | .struct l => ∃ fs, d = .struct fs ∧ fs.toList.mapM (fun f => (shp P f.type).map fun q => (f.offset, q.1, q.2)) = some l
    | .map k e => d = .map k e
    | .ptr e => d = .pointer e
    | .func => ∃ a b c, d = .func a b c
    | .iface n => ∃ ms, d = .interface ms ∧ ms.size = n
    | .other => True) := by
  unfold tyk at h
  split at h
  · rename_i hd; simp only [Option.some.injEq] at h; subst h; exact ⟨_, hd, rfl⟩
  · rename_i k hd; simp only [Option.some.injEq] at h; subst h; exact ⟨_, hd, rfl⟩
  · rename_i hd; simp only [Option.some.injEq] at h; subst h; exact ⟨_, hd, rfl⟩
  · rename_i e hd
    split at h
    · rename_i q i hq hi; simp only [Option.some.injEq] at h; subst h; exact ⟨_, hd, rfl, hq, i, hi, rfl⟩
    · cases h
  · rename_i n e hd
    simp only [Option.map_eq_some_iff] at h
    obtain ⟨q, hq, rfl⟩ := h
    exact ⟨_, hd, rfl, hq⟩
  · rename_i fs hd
    simp only [Option.map_eq_some_iff] at h
    obtain ⟨l, hl, rfl⟩ := h
    exact ⟨_, hd, fs, rfl, hl⟩
  · rename_i k e hd; simp only [Option.some.injEq] at h; subst h; exact ⟨_, hd, rfl⟩
  · rename_i e hd; simp only [Option.some.injEq] at h; subst h; exact ⟨_, hd, rfl⟩
  · rename_i a b c hd; simp only [Option.some.injEq] at h; subst h; exact ⟨_, hd, _, _, _, rfl⟩
  · rename_i ms hd; simp only [Option.some.injEq] at h; subst h; exact ⟨_, hd, ms, rfl, rfl⟩
  · rename_i d hd; simp only [Option.some.injEq] at h; subst h; exact ⟨_, hd, trivial⟩
  · cases h

theorem VR.made {g : Gh} {cs : List AV} {u : Value} (h : VR g (.agg cs) u) : Made g true cs u := by
  obtain ⟨a, h1, h2, h3⟩ := h.agg_inv
  simp only [Made, if_true]; exact ⟨a, h1, h2, h3⟩

/-! ### '==' and '!=' beyond numbers and strings -/
def eqRes (op : BinOp) (b : Bool) : Option AV :=
  match op with
  | .eql => some (.bool b)
  | .neq => some (.bool (!b))
  | _ => none
def aggA (P : Program) (op : BinOp) (t : TypeId) (x y : AV) : Option AV :=
  match x, y with
  | .agg xs, .agg ys => match flatT P 10 t, shp P t with
    | some ks, some (true, _) => if P.eqGuardType P.depth t = false ∧ fits ks xs = true ∧ fits ks ys = true then eqRes op (eqCells xs ys) else none
    | _, _ => none
  | _, _ => none

theorem run_eqRes {op : BinOp} {t : TypeId} {u v : Value} {w : World} {r : Bool} {val : AV} (h1 : binOp .eql t u v = (do pure (.bool (← Op.equal t u v)))) (h2 : binOp .neq t u v = (do pure (.bool (!(← Op.equal t u v)))))
    (he : (Op.equal t u v).run P w = .ok r w) (h : eqRes op r = some val) (g : Gh) : ∃ q, (binOp op t u v).run P w = .ok q w ∧ VR g val q := by
  cases op <;> simp only [eqRes] at h <;> first | (cases h; done) | skip
  · simp only [Option.some.injEq] at h; subst h
    refine ⟨.bool r, ?_, .bool _⟩
    rw [h1]; simp [he]
  · simp only [Option.some.injEq] at h; subst h
    refine ⟨.bool (!r), ?_, .bool _⟩
    rw [h2]; simp [he]

theorem eff_agg {o : Oper} {ρ : Operand → AV} {sp : Oid → Prop} {t t' : TypeId} {p q : Operand} {op : BinOp} {v : AV} (ho : o.op = .binOp op t p q t') (h : aggA P op t (ρ p) (ρ q) = some v) : EffOK P o ρ sp ⟨[], v, []⟩ := by
  refine EffOK.plain fun g a w hop => ?_
  have hp := hop p (by simp [Op.operands, ho])
  have hq := hop q (by simp [Op.operands, ho])
  unfold aggA at h
  split at h
  · rename_i xs ys e1 e2
    rw [e1] at hp; rw [e2] at hq
    obtain ⟨au, eu, _⟩ := hp.agg_inv
    obtain ⟨av, ev, _⟩ := hq.agg_inv
    split at h
    · rename_i ks n hf hs
      split at h
      · rename_i hc
        obtain ⟨hg, fx, fy⟩ := hc
        obtain ⟨agg, hs', hn, heq⟩ := run_equalIn_flat (P := P) (g := g) (w := w) 10 t ks hf 10000 (by omega)
        rw [hs] at hs'
        simp only [Option.some.injEq, Prod.mk.injEq] at hs'
        obtain ⟨rfl, _⟩ := hs'
        obtain ⟨r, h1, h2⟩ := run_eqRes (P := P) (op := op) (t := t) (u := a.eval p) (v := a.eval q) (w := w) (by rw [eu, ev]; rfl) (by rw [eu, ev]; rfl) (heq xs ys _ _ fx fy hp.made hq.made) h g
        refine ⟨r, run_bin ho ?_ h1, h2⟩
        rw [eu, ev]; unfold eqGuard; cases op <;> simp [hg]
      · cases h
    · cases h
  · cases h

/-- Against nil on the right. -/
def nilA (P : Program) (op : BinOp) (t : TypeId) (x y : AV) : Option AV :=
  match tyk P t, x, y with
  | some (.ptr _), .nilPtr, .nilPtr | some (.slice ..), .nilSl, .nilSl | some (.map ..), .nilMap, .nilMap | some .func, .nilFn, .nilFn => eqRes op true
  | some (.ptr _), .ptr .., .nilPtr | some (.ptr _), .aptr .., .nilPtr | some (.ptr _), .eptr .., .nilPtr | some (.slice ..), .list _ (_ :: _), .nilSl | some (.slice ..), .sl _ _ (_ + 1), .nilSl | some (.map ..), .map .., .nilMap | some .func, .fn .., .nilFn => eqRes op false
  | _, _, _ => none

theorem eff_nil {o : Oper} {ρ : Operand → AV} {sp : Oid → Prop} {t t' : TypeId} {p q : Operand} {op : BinOp} {v : AV} (ho : o.op = .binOp op t p q t') (h : nilA P op t (ρ p) (ρ q) = some v) : EffOK P o ρ sp ⟨[], v, []⟩ := by
  refine EffOK.plain fun g a w hop => ?_
  have hp := hop p (by simp [Op.operands, ho])
  have hq := hop q (by simp [Op.operands, ho])
  have fin : ∀ (u u' : Value) (b : Bool), a.eval p = u → a.eval q = u' → (eqGuard op t p q u u').run P w = .ok () w → binOp .eql t u u' = (do pure (.bool (← Op.equal t u u'))) → binOp .neq t u u' = (do pure (.bool (!(← Op.equal t u u')))) →
      (Op.equal t u u').run P w = .ok b w → eqRes op b = some v → ∃ r, (execOp a.eval o).run P w = .ok (.value r) w ∧ VR g v r := by
    intro u u' b e1 e2 hg h1 h2 he hr
    obtain ⟨r, k1, k2⟩ := run_eqRes h1 h2 he hr g
    exact ⟨r, run_bin ho (by rw [e1, e2]; exact hg) (by rw [e1, e2]; exact k1), k2⟩
  have eqi : ∀ {d : TypeDesc} {u u' : Value} {b : Bool}, P.underlying t = some d → (∀ n, (Op.equalIn (n + 1) t u u').run P w = .ok b w) → (Op.equal t u u').run P w = .ok b w := fun _ h => h 9999
  unfold nilA at h
  split at h
  · rename_i e0 e1 e2; rw [e1] at hp; rw [e2] at hq; obtain ⟨d, hd, rfl⟩ := tyk_spec e0
    refine fin _ _ true hp.nilPtr_inv hq.nilPtr_inv (by cases op <;> rfl) rfl rfl (eqi hd fun n => by simp [Op.equalIn, run_underlying' hd]) h
  · rename_i e0 e1 e2; rw [e1] at hp; rw [e2] at hq; obtain ⟨d, hd, rfl, _⟩ := tyk_spec e0
    refine fin _ _ true hp.nilSl_inv hq.nilSl_inv (by cases op <;> rfl) rfl rfl (eqi hd fun n => by simp [Op.equalIn, run_underlying' hd]) h
  · rename_i e0 e1 e2; rw [e1] at hp; rw [e2] at hq; obtain ⟨d, hd, rfl⟩ := tyk_spec e0
    refine fin _ _ true hp.nilMap_inv hq.nilMap_inv (by cases op <;> rfl) rfl rfl (eqi hd fun n => by simp [Op.equalIn, run_underlying' hd]) h
  · rename_i e0 e1 e2; rw [e1] at hp; rw [e2] at hq; obtain ⟨d, hd, _, _, _, rfl⟩ := tyk_spec e0
    refine fin _ _ true hp.nilFn_inv hq.nilFn_inv (by cases op <;> rfl) rfl rfl (eqi hd fun n => by simp [Op.equalIn, run_underlying' hd]) h
  · rename_i e0 e1 e2; rw [e1] at hp; rw [e2] at hq; obtain ⟨d, hd, rfl⟩ := tyk_spec e0; obtain ⟨b, eb, _⟩ := hp.ptr_inv
    refine fin _ _ false eb hq.nilPtr_inv (by cases op <;> rfl) rfl rfl (eqi hd fun n => by simp [Op.equalIn, run_underlying' hd]) h
  · rename_i e0 e1 e2; rw [e1] at hp; rw [e2] at hq; obtain ⟨d, hd, rfl⟩ := tyk_spec e0; obtain ⟨b, eb, _⟩ := hp.aptr_inv
    refine fin _ _ false eb hq.nilPtr_inv (by cases op <;> rfl) rfl rfl (eqi hd fun n => by simp [Op.equalIn, run_underlying' hd]) h
  · rename_i e0 e1 e2; rw [e1] at hp; rw [e2] at hq; obtain ⟨d, hd, rfl⟩ := tyk_spec e0; obtain ⟨b, k, cs, eb, _⟩ := hp.eptr_inv
    refine fin _ _ false eb hq.nilPtr_inv (by cases op <;> rfl) rfl rfl (eqi hd fun n => by simp [Op.equalIn, run_underlying' hd]) h
  · rename_i e0 e1 e2; rw [e1] at hp; rw [e2] at hq; obtain ⟨d, hd, rfl, _⟩ := tyk_spec e0; obtain ⟨b, k, c, cs, eb, _⟩ := hp.list_inv.resolve_left (fun h => by cases h.1)
    refine fin _ _ false eb hq.nilSl_inv (by cases op <;> rfl) rfl rfl (eqi hd fun n => by simp [Op.equalIn, run_underlying' hd]) h
  · rename_i e0 e1 e2; rw [e1] at hp; rw [e2] at hq; obtain ⟨d, hd, rfl, _⟩ := tyk_spec e0; obtain ⟨b, c, eb, _⟩ := hp.sl_inv'.resolve_left (fun h => by cases h.1)
    refine fin _ _ false eb hq.nilSl_inv (by cases op <;> rfl) rfl rfl (eqi hd fun n => by simp [Op.equalIn, run_underlying' hd]) h
  · rename_i e0 e1 e2; rw [e1] at hp; rw [e2] at hq; obtain ⟨d, hd, rfl⟩ := tyk_spec e0; obtain ⟨b, eb, _⟩ := hp.map_inv
    refine fin _ _ false eb hq.nilMap_inv (by cases op <;> rfl) rfl rfl (eqi hd fun n => by simp [Op.equalIn, run_underlying' hd]) h
  · rename_i e0 e1 e2; rw [e1] at hp; rw [e2] at hq; obtain ⟨d, hd, _, _, _, rfl⟩ := tyk_spec e0; obtain ⟨b, c, eb, _⟩ := hp.fn_inv
    refine fin _ _ false eb hq.nilFn_inv (by cases op <;> rfl) rfl rfl (eqi hd fun n => by simp [Op.equalIn, run_underlying' hd]) h
  · cases h
end
end Go.Ab
