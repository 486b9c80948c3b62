/- The framework, second part: what each operation does to abstract values, memory, slices, texts. -/
import Derived.Test.YtiaiggbimlbkfaaGreatDoorFwA
set_option linter.unusedVariables false
set_option linter.unusedSimpArgs false
set_option linter.unusedSectionVars false
/- What single operations do: equality of structs and with nil; not, minus; conversions of numbers; nil checks; addresses of fields and elements. -/
namespace Go.Ab

/-! ### equality of values made of numbers, bools, strings -/
def eqS : AV → AV → Bool
  | .bool a, .bool b => a == b
  | .int _ a, .int _ b => a == b
  | .str a, .str b => a == b
  | _, _ => false
def eqCells : List AV → List AV → Bool
  | [], [] => true
  | x :: xs, y :: ys => eqS x y && eqCells xs ys
  | _, _ => false
def flatFs (ft : TypeId → Option (List TyS)) : Nat → List Field → Option (List TyS)
  | _, [] => some []
  | off, f :: fs => if f.name ≠ "_" ∧ f.offset = off then match ft f.type with
      | some a => match flatFs ft (off + a.length) fs with
        | some b => some (a ++ b)
        | none => none
      | none => none
    else none
/-- The scalars that a value of the type is made of, cell by cell. -/
def flatT (P : Program) : Nat → TypeId → Option (List TyS)
  | 0, _ => none
  | d + 1, t => match P.underlying t with
    | some .bool => if shp P t = some (false, 1) then some [.sb] else none
    | some (.int k) => if shp P t = some (false, 1) then some [.si k] else none
    | some .string => if shp P t = some (false, 1) then some [.ss] else none
    | some (.struct fs) => if P.stoodInHeld t then none else match flatFs (flatT P d) 0 fs.toList with
      | some l => if shp P t = some (true, l.length) then some l else none
      | none => none
    | _ => none

theorem fits_length : ∀ {ks : List TyS} {xs : List AV}, fits ks xs = true → xs.length = ks.length
  | [], [], _ => rfl
  | _ :: ks, _ :: xs, h => by simp only [fits, Bool.and_eq_true] at h; simp [fits_length h.2]
  | [], _ :: _, h => by simp [fits] at h
  | _ :: _, [], h => by simp [fits] at h
theorem fits_append : ∀ {ks ls : List TyS} {xs : List AV}, fits (ks ++ ls) xs = true → fits ks (xs.take ks.length) = true ∧ fits ls (xs.drop ks.length) = true
  | [], ls, xs, h => by simpa [fits] using h
  | k :: ks, ls, [], h => by simp [fits] at h
  | k :: ks, ls, x :: xs, h => by
    simp only [List.cons_append, fits, Bool.and_eq_true] at h
    obtain ⟨h1, h2⟩ := fits_append h.2
    simp [fits, h.1, h1, h2]
theorem eqCells_append : ∀ {xs ys : List AV} (n : Nat), xs.length = ys.length → eqCells xs ys = (eqCells (xs.take n) (ys.take n) && eqCells (xs.drop n) (ys.drop n))
  | xs, ys, 0, _ => by simp [eqCells]
  | [], [], n + 1, _ => by simp [eqCells]
  | x :: xs, y :: ys, n + 1, h => by simp [eqCells, eqCells_append (xs := xs) (ys := ys) n (by simpa using h), Bool.and_assoc]
  | [], _ :: _, _ + 1, h => by simp at h
  | _ :: _, [], _ + 1, h => by simp at h

/-- u is made of the cells xs. -/
def Made (g : Gh) (agg : Bool) (xs : List AV) (u : Value) : Prop :=
  if agg then ∃ a : Array Value, u = .agg a ∧ a.size = xs.length ∧ ∀ j, j < xs.length → VR g (xs.getD j .undef) (a.getD j undef)
  else xs.length = 1 ∧ VR g (xs.getD 0 .undef) u

section
variable {P : Program} [Laid P]
omit [Laid P] in
theorem run_part {t : TypeId} {agg : Bool} {n : Nat} (hs : shp P t = some (agg, n)) (hn : agg = false → n = 1) {g : Gh} {xs : List AV} {a : Array Value} (h1 : a.size = xs.length) (h2 : ∀ j, j < xs.length → VR g (xs.getD j .undef) (a.getD j undef))
    (off : Nat) (hoff : off + n ≤ xs.length) (w : World) : ∃ u, (part t a off).run P w = .ok u w ∧ Made g agg ((xs.drop off).take n) u := by
  cases agg with
  | true =>
    refine ⟨.agg (a.extract off (off + n)), by simp [part, run_isAgg hs, run_sizeOf hs], a.extract off (off + n), rfl, by simp; omega, fun j hj => ?_⟩
    simp only [List.length_take, List.length_drop] at hj
    rw [getD_take _ _ _ _ (by omega), getD_drop]
    have := h2 (off + j) (by omega)
    have e : (a.extract off (off + n)).getD j undef = a.getD (off + j) undef := by
      have : j < n := by omega
      simp [Array.getElem?_extract]
      rw [if_pos (by omega)]
    rw [e]; exact this
  | false =>
    have hn1 := hn rfl
    subst hn1
    have hlt : off < a.size := by omega
    refine ⟨a[off], by simp [part, run_isAgg hs, hlt], by simp; omega, ?_⟩
    rw [getD_take _ _ _ _ (by omega), getD_drop]
    have := h2 off (by omega)
    simpa [hlt] using this

omit [Laid P] in
theorem flat_shp {d : Nat} {t : TypeId} {ks : List TyS} (h : flatT P d t = some ks) : ∃ agg, shp P t = some (agg, ks.length) ∧ (agg = false → ks.length = 1) := by
  cases d with
  | zero => cases h
  | succ d =>
    unfold flatT at h
    split at h
    · split at h
      · rename_i hs; simp only [Option.some.injEq] at h; subst h; exact ⟨false, hs, fun _ => rfl⟩
      · cases h
    · split at h
      · rename_i hs; simp only [Option.some.injEq] at h; subst h; exact ⟨false, hs, fun _ => rfl⟩
      · cases h
    · split at h
      · rename_i hs; simp only [Option.some.injEq] at h; subst h; exact ⟨false, hs, fun _ => rfl⟩
      · cases h
    · split at h
      · cases h
      · split at h
        · split at h
          · rename_i hs; simp only [Option.some.injEq] at h; subst h; exact ⟨true, hs, fun h => by cases h⟩
          · cases h
        · cases h
    · cases h

omit [Laid P] in
theorem run_eqFields {g : Gh} {w : World} {e : Nat} {ft : TypeId → Option (List TyS)} (hft : ∀ t ks, ft t = some ks → ∃ agg, shp P t = some (agg, ks.length) ∧ (agg = false → ks.length = 1) ∧
      ∀ xs ys u v, fits ks xs = true → fits ks ys = true → Made g agg xs u → Made g agg ys v → (Op.equalIn e t u v).run P w = .ok (eqCells xs ys) w)
    {xs ys : List AV} {a b : Array Value} (ha1 : a.size = xs.length) (ha2 : ∀ j, j < xs.length → VR g (xs.getD j .undef) (a.getD j undef)) (hb1 : b.size = ys.length) (hb2 : ∀ j, j < ys.length → VR g (ys.getD j .undef) (b.getD j undef)) :
    ∀ (fs : List Field) (off : Nat) (l : List TyS), flatFs ft off fs = some l → fits l (xs.drop off) = true → fits l (ys.drop off) = true → xs.length = off + l.length → ys.length = off + l.length →
      (Op.eqFields e a b fs).run P w = .ok (eqCells (xs.drop off) (ys.drop off)) w
  | [], off, l, h, _, _, h3, h4 => by
    simp only [flatFs, Option.some.injEq] at h; subst h
    simp only [List.length_nil, Nat.add_zero] at h3 h4
    rw [List.drop_eq_nil_of_le (by omega), List.drop_eq_nil_of_le (by omega)]
    simp [Op.eqFields, eqCells]
  | f :: fs, off, l, h, h1, h2, h3, h4 => by
    simp only [flatFs] at h
    split at h
    · rename_i hc
      obtain ⟨hnm, hoff⟩ := hc
      split at h
      · rename_i ks hks
        split at h
        · rename_i rest hrest
          simp only [Option.some.injEq] at h; subst h
          obtain ⟨agg, hs, hn, heq⟩ := hft _ _ hks
          obtain ⟨p1, p2⟩ := fits_append h1
          obtain ⟨q1, q2⟩ := fits_append h2
          simp only [List.length_append] at h3 h4
          obtain ⟨u, hu, hmu⟩ := run_part hs hn ha1 ha2 off (by omega) w
          obtain ⟨v, hv, hmv⟩ := run_part hs hn hb1 hb2 off (by omega) w
          rw [List.drop_drop] at p2 q2
          have ih := run_eqFields hft ha1 ha2 hb1 hb2 fs (off + ks.length) rest hrest p2 q2 (by omega) (by omega)
          have hee := heq _ _ u v p1 q1 hmu hmv
          rw [eqCells_append (xs := xs.drop off) (ys := ys.drop off) ks.length (by simp; omega), List.drop_drop, List.drop_drop]
          simp only [Op.eqFields, hnm, ne_eq, not_false_eq_true, if_true, Sem.run_bind, hoff, hu, hv, Result.andThen_ok, hee, Sem.run_ite]
          cases hc : eqCells ((xs.drop off).take ks.length) ((ys.drop off).take ks.length) with
          | false => simp
          | true => simpa using ih
        · cases h
      · cases h
    · cases h

omit [Laid P] in
theorem run_equalIn_flat {g : Gh} {w : World} : ∀ (d : Nat) (t : TypeId) (ks : List TyS), flatT P d t = some ks → ∀ e, d ≤ e → ∃ agg, shp P t = some (agg, ks.length) ∧ (agg = false → ks.length = 1) ∧
    ∀ xs ys u v, fits ks xs = true → fits ks ys = true → Made g agg xs u → Made g agg ys v → (Op.equalIn e t u v).run P w = .ok (eqCells xs ys) w
  | 0, _, _, h, _, _ => by cases h
  | d + 1, t, ks, h, e, he => by
    obtain ⟨e, rfl⟩ : ∃ e', e = e' + 1 := ⟨e - 1, by omega⟩
    obtain ⟨agg, hs, hn⟩ := flat_shp h
    refine ⟨agg, hs, hn, fun xs ys u v fx fy hu hv => ?_⟩
    obtain ⟨dd, ii, hd, hi, hag, hsz⟩ := shp_spec hs
    unfold flatT at h
    split at h
    · rename_i hund
      split at h
      · rename_i hs'
        rw [hs] at hs'; simp only [Option.some.injEq, Prod.mk.injEq] at hs'; obtain ⟨rfl, _⟩ := hs'
        simp only [Option.some.injEq] at h; subst h
        obtain ⟨x, rfl⟩ : ∃ x, xs = [x] := List.length_eq_one_iff.1 (fits_length fx)
        obtain ⟨y, rfl⟩ : ∃ y, ys = [y] := List.length_eq_one_iff.1 (fits_length fy)
        simp only [Made, Bool.false_eq_true, if_false] at hu hv
        simp only [fits, Bool.and_true] at fx fy
        cases x <;> simp only [fitS] at fx <;> try (cases fx; done)
        cases y <;> simp only [fitS] at fy <;> try (cases fy; done)
        have e1 := hu.2.bool_inv; have e2 := hv.2.bool_inv
        subst e1; subst e2
        rw [run_equalIn_bool w e t _ _ hund]; simp [eqCells, eqS]
      · cases h
    · rename_i k hund
      split at h
      · rename_i hs'
        rw [hs] at hs'; simp only [Option.some.injEq, Prod.mk.injEq] at hs'; obtain ⟨rfl, _⟩ := hs'
        simp only [Option.some.injEq] at h; subst h
        obtain ⟨x, rfl⟩ : ∃ x, xs = [x] := List.length_eq_one_iff.1 (fits_length fx)
        obtain ⟨y, rfl⟩ : ∃ y, ys = [y] := List.length_eq_one_iff.1 (fits_length fy)
        simp only [Made, Bool.false_eq_true, if_false] at hu hv
        simp only [fits, Bool.and_true] at fx fy
        cases x <;> simp only [fitS] at fx <;> try (cases fx; done)
        cases y <;> simp only [fitS] at fy <;> try (cases fy; done)
        simp only [beq_iff_eq] at fx fy
        subst fx; subst fy
        have e1 := hu.2.int_inv; have e2 := hv.2.int_inv
        subst e1; subst e2
        rw [run_equalIn_int w e t _ _ _ _ hund]; simp [eqCells, eqS]
      · cases h
    · rename_i hund
      split at h
      · rename_i hs'
        rw [hs] at hs'; simp only [Option.some.injEq, Prod.mk.injEq] at hs'; obtain ⟨rfl, _⟩ := hs'
        simp only [Option.some.injEq] at h; subst h
        obtain ⟨x, rfl⟩ : ∃ x, xs = [x] := List.length_eq_one_iff.1 (fits_length fx)
        obtain ⟨y, rfl⟩ : ∃ y, ys = [y] := List.length_eq_one_iff.1 (fits_length fy)
        simp only [Made, Bool.false_eq_true, if_false] at hu hv
        simp only [fits, Bool.and_true] at fx fy
        cases x <;> simp only [fitS] at fx <;> try (cases fx; done)
        cases y <;> simp only [fitS] at fy <;> try (cases fy; done)
        obtain ⟨b1, e1, f1⟩ := hu.2.str_inv; obtain ⟨b2, e2, f2⟩ := hv.2.str_inv
        subst e1; subst e2; subst f1; subst f2
        rw [run_equalIn_string w e t _ _ hund]; simp [eqCells, eqS, ByteArray.toList_eq]
      · cases h
    · rename_i fs hund
      split at h
      · cases h
      · rename_i hst
        split at h
        · rename_i l hl
          split at h
          · rename_i hs'
            rw [hs] at hs'; simp only [Option.some.injEq, Prod.mk.injEq] at hs'; obtain ⟨rfl, _⟩ := hs'
            simp only [Option.some.injEq] at h; subst h
            simp only [Made, if_true] at hu hv
            obtain ⟨a, rfl, ha1, ha2⟩ := hu
            obtain ⟨b, rfl, hb1, hb2⟩ := hv
            have hf : P.fieldsOf t = fs := by simp [Program.fieldsOf, hund]
            rw [run_equalIn_struct w e t a b (by rw [hf]; exact hund) (by simpa using hst), hf]
            have := run_eqFields (w := w) (e := e) (fun t' ks' h' => run_equalIn_flat d t' ks' h' e (by omega)) ha1 ha2 hb1 hb2 fs.toList 0 l hl (by simpa using fx) (by simpa using fy) (by simpa using fits_length fx) (by simpa using fits_length fy)
            simpa using this
          · cases h
        · cases h
    · cases h

omit [Laid P] in
theorem tyk_spec {t : TypeId} {k : TyK} (h : tyk P t = some k) : ∃ d, P.underlying t = some d ∧ (match k with
    | .bool => d = .bool
    | .int k => d = .int k
    | .str => d = .string
    | .slice e ag sz by' => d = .slice e ∧ shp P e = some (ag, sz) ∧ ∃ i, P.info? e = some i ∧ i.bytes = by'
    | .arr n e ag sz => d = .array n e ∧ shp P e = some (ag, sz)
    | .struct l => ∃ fs, d = .struct fs ∧ fs.toList.mapM (fun f => (shp P f.type).map fun q => (f.offset, q.1, q.2)) = some l
    | .map k e => d = .map k e
    | .ptr e => d = .pointer e
    | .func => ∃ a b c, d = .func a b c
    | .iface n => ∃ ms, d = .interface ms ∧ ms.size = n
    | .other => True) := by
  unfold tyk at h
  split at h
  · rename_i hd; simp only [Option.some.injEq] at h; subst h; exact ⟨_, hd, rfl⟩
  · rename_i k hd; simp only [Option.some.injEq] at h; subst h; exact ⟨_, hd, rfl⟩
  · rename_i hd; simp only [Option.some.injEq] at h; subst h; exact ⟨_, hd, rfl⟩
  · rename_i e hd
    split at h
    · rename_i q i hq hi; simp only [Option.some.injEq] at h; subst h; exact ⟨_, hd, rfl, hq, i, hi, rfl⟩
    · cases h
  · rename_i n e hd
    simp only [Option.map_eq_some_iff] at h
    obtain ⟨q, hq, rfl⟩ := h
    exact ⟨_, hd, rfl, hq⟩
  · rename_i fs hd
    simp only [Option.map_eq_some_iff] at h
    obtain ⟨l, hl, rfl⟩ := h
    exact ⟨_, hd, fs, rfl, hl⟩
  · rename_i k e hd; simp only [Option.some.injEq] at h; subst h; exact ⟨_, hd, rfl⟩
  · rename_i e hd; simp only [Option.some.injEq] at h; subst h; exact ⟨_, hd, rfl⟩
  · rename_i a b c hd; simp only [Option.some.injEq] at h; subst h; exact ⟨_, hd, _, _, _, rfl⟩
  · rename_i ms hd; simp only [Option.some.injEq] at h; subst h; exact ⟨_, hd, ms, rfl, rfl⟩
  · rename_i d hd; simp only [Option.some.injEq] at h; subst h; exact ⟨_, hd, trivial⟩
  · cases h

theorem VR.made {g : Gh} {cs : List AV} {u : Value} (h : VR g (.agg cs) u) : Made g true cs u := by
  obtain ⟨a, h1, h2, h3⟩ := h.agg_inv
  simp only [Made, if_true]; exact ⟨a, h1, h2, h3⟩

/-! ### '==' and '!=' beyond numbers and strings -/
def eqRes (op : BinOp) (b : Bool) : Option AV :=
  match op with
  | .eql => some (.bool b)
  | .neq => some (.bool (!b))
  | _ => none
def aggA (P : Program) (op : BinOp) (t : TypeId) (x y : AV) : Option AV :=
  match x, y with
  | .agg xs, .agg ys => match flatT P 10 t, shp P t with
    | some ks, some (true, _) => if P.eqGuardType P.depth t = false ∧ fits ks xs = true ∧ fits ks ys = true then eqRes op (eqCells xs ys) else none
    | _, _ => none
  | _, _ => none

omit [Laid P] in
theorem run_eqRes {op : BinOp} {t : TypeId} {u v : Value} {w : World} {r : Bool} {val : AV} (h1 : binOp .eql t u v = (do pure (.bool (← Op.equal t u v)))) (h2 : binOp .neq t u v = (do pure (.bool (!(← Op.equal t u v)))))
    (he : (Op.equal t u v).run P w = .ok r w) (h : eqRes op r = some val) (g : Gh) : ∃ q, (binOp op t u v).run P w = .ok q w ∧ VR g val q := by
  cases op <;> simp only [eqRes] at h <;> first | (cases h; done) | skip
  · simp only [Option.some.injEq] at h; subst h
    refine ⟨.bool r, ?_, .bool _⟩
    rw [h1]; simp [he]
  · simp only [Option.some.injEq] at h; subst h
    refine ⟨.bool (!r), ?_, .bool _⟩
    rw [h2]; simp [he]

theorem eff_agg {o : Oper} {ρ : Operand → AV} {sp : Oid → Prop} {t t' : TypeId} {p q : Operand} {op : BinOp} {v : AV} (ho : o.op = .binOp op t p q t') (h : aggA P op t (ρ p) (ρ q) = some v) : EffOK P o ρ sp ⟨[], v, []⟩ := by
  refine EffOK.plain fun g a w hop => ?_
  have hp := hop p (by simp [Op.operands, ho])
  have hq := hop q (by simp [Op.operands, ho])
  unfold aggA at h
  split at h
  · rename_i xs ys e1 e2
    rw [e1] at hp; rw [e2] at hq
    obtain ⟨au, eu, _⟩ := hp.agg_inv
    obtain ⟨av, ev, _⟩ := hq.agg_inv
    split at h
    · rename_i ks n hf hs
      split at h
      · rename_i hc
        obtain ⟨hg, fx, fy⟩ := hc
        obtain ⟨agg, hs', hn, heq⟩ := run_equalIn_flat (P := P) (g := g) (w := w) 10 t ks hf 10000 (by omega)
        rw [hs] at hs'
        simp only [Option.some.injEq, Prod.mk.injEq] at hs'
        obtain ⟨rfl, _⟩ := hs'
        obtain ⟨r, h1, h2⟩ := run_eqRes (P := P) (op := op) (t := t) (u := a.eval p) (v := a.eval q) (w := w) (by rw [eu, ev]; rfl) (by rw [eu, ev]; rfl) (heq xs ys _ _ fx fy hp.made hq.made) h g
        refine ⟨r, run_bin ho ?_ h1, h2⟩
        rw [eu, ev]; unfold eqGuard; cases op <;> simp [hg]
      · cases h
    · cases h
  · cases h

/-- Against nil on the right. -/
def nilA (P : Program) (op : BinOp) (t : TypeId) (x y : AV) : Option AV :=
  match tyk P t, x, y with
  | some (.ptr _), .nilPtr, .nilPtr | some (.slice ..), .nilSl, .nilSl | some (.map ..), .nilMap, .nilMap | some .func, .nilFn, .nilFn => eqRes op true
  | some (.ptr _), .ptr .., .nilPtr | some (.ptr _), .aptr .., .nilPtr | some (.ptr _), .eptr .., .nilPtr | some (.slice ..), .list _ (_ :: _), .nilSl | some (.slice ..), .sl _ _ (_ + 1), .nilSl | some (.map ..), .map .., .nilMap | some .func, .fn .., .nilFn => eqRes op false
  | _, _, _ => none

theorem eff_nil {o : Oper} {ρ : Operand → AV} {sp : Oid → Prop} {t t' : TypeId} {p q : Operand} {op : BinOp} {v : AV} (ho : o.op = .binOp op t p q t') (h : nilA P op t (ρ p) (ρ q) = some v) : EffOK P o ρ sp ⟨[], v, []⟩ := by
  refine EffOK.plain fun g a w hop => ?_
  have hp := hop p (by simp [Op.operands, ho])
  have hq := hop q (by simp [Op.operands, ho])
  have fin : ∀ (u u' : Value) (b : Bool), a.eval p = u → a.eval q = u' → (eqGuard op t p q u u').run P w = .ok () w → binOp .eql t u u' = (do pure (.bool (← Op.equal t u u'))) → binOp .neq t u u' = (do pure (.bool (!(← Op.equal t u u')))) →
      (Op.equal t u u').run P w = .ok b w → eqRes op b = some v → ∃ r, (execOp a.eval o).run P w = .ok (.value r) w ∧ VR g v r := by
    intro u u' b e1 e2 hg h1 h2 he hr
    obtain ⟨r, k1, k2⟩ := run_eqRes h1 h2 he hr g
    exact ⟨r, run_bin ho (by rw [e1, e2]; exact hg) (by rw [e1, e2]; exact k1), k2⟩
  have eqi : ∀ {d : TypeDesc} {u u' : Value} {b : Bool}, P.underlying t = some d → (∀ n, (Op.equalIn (n + 1) t u u').run P w = .ok b w) → (Op.equal t u u').run P w = .ok b w := fun _ h => h 9999
  unfold nilA at h
  split at h
  · rename_i e0 e1 e2; rw [e1] at hp; rw [e2] at hq; obtain ⟨d, hd, rfl⟩ := tyk_spec e0
    refine fin _ _ true hp.nilPtr_inv hq.nilPtr_inv (by cases op <;> rfl) rfl rfl (eqi hd fun n => by simp [Op.equalIn, run_underlying' hd]) h
  · rename_i e0 e1 e2; rw [e1] at hp; rw [e2] at hq; obtain ⟨d, hd, rfl, _⟩ := tyk_spec e0
    refine fin _ _ true hp.nilSl_inv hq.nilSl_inv (by cases op <;> rfl) rfl rfl (eqi hd fun n => by simp [Op.equalIn, run_underlying' hd]) h
  · rename_i e0 e1 e2; rw [e1] at hp; rw [e2] at hq; obtain ⟨d, hd, rfl⟩ := tyk_spec e0
    refine fin _ _ true hp.nilMap_inv hq.nilMap_inv (by cases op <;> rfl) rfl rfl (eqi hd fun n => by simp [Op.equalIn, run_underlying' hd]) h
  · rename_i e0 e1 e2; rw [e1] at hp; rw [e2] at hq; obtain ⟨d, hd, _, _, _, rfl⟩ := tyk_spec e0
    refine fin _ _ true hp.nilFn_inv hq.nilFn_inv (by cases op <;> rfl) rfl rfl (eqi hd fun n => by simp [Op.equalIn, run_underlying' hd]) h
  · rename_i e0 e1 e2; rw [e1] at hp; rw [e2] at hq; obtain ⟨d, hd, rfl⟩ := tyk_spec e0; obtain ⟨b, eb, _⟩ := hp.ptr_inv
    refine fin _ _ false eb hq.nilPtr_inv (by cases op <;> rfl) rfl rfl (eqi hd fun n => by simp [Op.equalIn, run_underlying' hd]) h
  · rename_i e0 e1 e2; rw [e1] at hp; rw [e2] at hq; obtain ⟨d, hd, rfl⟩ := tyk_spec e0; obtain ⟨b, eb, _⟩ := hp.aptr_inv
    refine fin _ _ false eb hq.nilPtr_inv (by cases op <;> rfl) rfl rfl (eqi hd fun n => by simp [Op.equalIn, run_underlying' hd]) h
  · rename_i e0 e1 e2; rw [e1] at hp; rw [e2] at hq; obtain ⟨d, hd, rfl⟩ := tyk_spec e0; obtain ⟨b, k, cs, eb, _⟩ := hp.eptr_inv
    refine fin _ _ false eb hq.nilPtr_inv (by cases op <;> rfl) rfl rfl (eqi hd fun n => by simp [Op.equalIn, run_underlying' hd]) h
  · rename_i e0 e1 e2; rw [e1] at hp; rw [e2] at hq; obtain ⟨d, hd, rfl, _⟩ := tyk_spec e0; obtain ⟨b, k, c, cs, eb, _⟩ := hp.list_inv.resolve_left (fun h => by cases h.1)
    refine fin _ _ false eb hq.nilSl_inv (by cases op <;> rfl) rfl rfl (eqi hd fun n => by simp [Op.equalIn, run_underlying' hd]) h
  · rename_i e0 e1 e2; rw [e1] at hp; rw [e2] at hq; obtain ⟨d, hd, rfl, _⟩ := tyk_spec e0; obtain ⟨b, c, eb, _⟩ := hp.sl_inv'.resolve_left (fun h => by cases h.1)
    refine fin _ _ false eb hq.nilSl_inv (by cases op <;> rfl) rfl rfl (eqi hd fun n => by simp [Op.equalIn, run_underlying' hd]) h
  · rename_i e0 e1 e2; rw [e1] at hp; rw [e2] at hq; obtain ⟨d, hd, rfl⟩ := tyk_spec e0; obtain ⟨b, eb, _⟩ := hp.map_inv
    refine fin _ _ false eb hq.nilMap_inv (by cases op <;> rfl) rfl rfl (eqi hd fun n => by simp [Op.equalIn, run_underlying' hd]) h
  · rename_i e0 e1 e2; rw [e1] at hp; rw [e2] at hq; obtain ⟨d, hd, _, _, _, rfl⟩ := tyk_spec e0; obtain ⟨b, c, eb, _⟩ := hp.fn_inv
    refine fin _ _ false eb hq.nilFn_inv (by cases op <;> rfl) rfl rfl (eqi hd fun n => by simp [Op.equalIn, run_underlying' hd]) h
  · cases h
/-- An interface's value against the literal nil. -/
def isC : Operand → Bool
  | .const _ => true
  | _ => false
def nilI (P : Program) (op : BinOp) (t : TypeId) (c : Bool) (x y : AV) : Option AV :=
  match tyk P t, c, x, y with
  | some (.iface _), true, .nilIface, .nilIface => eqRes op true
  | some (.iface _), _, .iface .., .nilIface => eqRes op false
  | _, _, _, _ => none
theorem eff_nilI {o : Oper} {ρ : Operand → AV} {sp : Oid → Prop} {t t' : TypeId} {p q : Operand} {op : BinOp} {v : AV} (ho : o.op = .binOp op t p q t') (h : nilI P op t (isC q) (ρ p) (ρ q) = some v) : EffOK P o ρ sp ⟨[], v, []⟩ := by
  refine EffOK.plain fun g a w hop => ?_
  have hp := hop p (by simp [Op.operands, ho])
  have hq := hop q (by simp [Op.operands, ho])
  have fin : ∀ (u u' : Value) (b : Bool), a.eval p = u → a.eval q = u' → (eqGuard op t p q u u').run P w = .ok () w → binOp .eql t u u' = (do pure (.bool (← Op.equal t u u'))) → binOp .neq t u u' = (do pure (.bool (!(← Op.equal t u u')))) →
      (Op.equal t u u').run P w = .ok b w → eqRes op b = some v → ∃ r, (execOp a.eval o).run P w = .ok (.value r) w ∧ VR g v r := by
    intro u u' b e1 e2 hg h1 h2 he hr
    obtain ⟨r, k1, k2⟩ := run_eqRes h1 h2 he hr g
    exact ⟨r, run_bin ho (by rw [e1, e2]; exact hg) (by rw [e1, e2]; exact k1), k2⟩
  have eqi : ∀ {d : TypeDesc} {u u' : Value} {b : Bool}, P.underlying t = some d → (∀ n, (Op.equalIn (n + 1) t u u').run P w = .ok b w) → (Op.equal t u u').run P w = .ok b w := fun _ h => h 9999
  unfold nilI at h
  split at h
  · rename_i e0 ec e1 e2; rw [e1] at hp; rw [e2] at hq; obtain ⟨d, hd, ms, rfl, _⟩ := tyk_spec e0
    refine fin _ _ true hp.nilIface_inv hq.nilIface_inv ?_ rfl rfl (eqi hd fun n => by simp [Op.equalIn, run_underlying' hd]) h
    cases q <;> simp only [isC] at ec <;> first | (cases ec; done) | skip
    cases op <;> simp [eqGuard]
  · rename_i e0 e1 e2; rw [e1] at hp; rw [e2] at hq; obtain ⟨d, hd, ms, rfl, _⟩ := tyk_spec e0; obtain ⟨u, eb, _⟩ := hp.iface_inv
    refine fin _ _ false eb hq.nilIface_inv (by cases op <;> rfl) rfl rfl (eqi hd fun n => by simp [Op.equalIn, run_underlying' hd]) h
  · cases h
end
end Go.Ab

/- What single operations do: not, minus; conversions of numbers; nil checks; fields, elements, parts of strings and slices; tuples; functions and interfaces. -/
namespace Go.Ab
section
variable {P : Program} [Laid P] {o : Oper} {ρ : Operand → AV} {sp : Oid → Prop}

/-! ### one operand -/
def unA (op : UnOp) (x : AV) : Option AV :=
  match op, x with
  | .not, .bool b => some (.bool (!b))
  | .neg, .int k n => some (.int k (k.wrap (0 - n)))
  | .xor, .int k n => some (.int k (k.wrap (BitVec.ofInt k.bits (if k.signed then -1 else k.max) ^^^ BitVec.ofInt k.bits n).toNat))
  | _, _ => none
theorem eff_un {t : TypeId} {y : Operand} {op : UnOp} {v : AV} (ho : o.op = .unOp op t y) (h : unA op (ρ y) = some v) : EffOK P o ρ sp ⟨[], v, []⟩ := by
  refine EffOK.plain fun g a w hop => ?_
  have hy := hop y (by simp [Op.operands, ho])
  unfold unA at h
  split at h
  · rename_i b e; rw [e] at hy; simp only [Option.some.injEq] at h; subst h
    exact ⟨.bool (!b), by simp [execOp, ho, hy.bool_inv, Op.unary], .bool _⟩
  · rename_i k n e; rw [e] at hy; simp only [Option.some.injEq] at h; subst h
    exact ⟨.int k (k.wrap (0 - n)), by simp [execOp, ho, hy.int_inv, Op.unary, Op.intArith], .int _ _⟩
  · rename_i k n e; rw [e] at hy; simp only [Option.some.injEq] at h; subst h
    refine ⟨_, ?_, .int _ _⟩; simp [execOp, ho, hy.int_inv, Op.unary, Op.intBits]
  · cases h

/-! ### numbers to numbers -/
def convA (P : Program) (src dst : TypeId) (x : AV) : Option AV :=
  match tyk P src, tyk P dst, x with
  | some (.int _), some (.int k), .int _ n => some (.int k (k.wrap n))
  | some .str, some .str, .str s => some (.str s)
  | _, _, _ => none
theorem eff_conv {s d : TypeId} {y : Operand} {v : AV} (ho : o.op = .convert s d y) (h : convA P s d (ρ y) = some v) : EffOK P o ρ sp ⟨[], v, []⟩ := by
  refine EffOK.plain fun g a w hop => ?_
  have hy := hop y (by simp [Op.operands, ho])
  unfold convA at h
  split at h
  · rename_i k' k k'' n e1 e2 e3
    rw [e3] at hy; simp only [Option.some.injEq] at h; subst h
    obtain ⟨_, h1, rfl⟩ := tyk_spec e1
    obtain ⟨_, h2, rfl⟩ := tyk_spec e2
    refine ⟨_, ?_, .int _ _⟩
    simp [execOp, ho, hy.int_inv, convert, run_underlying' h1, run_underlying' h2, Conv.intToInt]
  · rename_i l e1 e2 e3
    rw [e3] at hy; simp only [Option.some.injEq] at h; subst h
    obtain ⟨b, hb, _⟩ := hy.str_inv
    obtain ⟨_, h1, rfl⟩ := tyk_spec e1
    obtain ⟨_, h2, rfl⟩ := tyk_spec e2
    refine ⟨a.eval y, ?_, hy⟩
    simp [execOp, ho, hb, convert, run_underlying' h1, run_underlying' h2]
  · cases h

/-! ### nil checks -/
def isFuncF : Fn → Bool
  | .func _ => true
  | _ => false
def nonNil : AV → Bool
  | .ptr .. | .aptr .. | .eptr .. => true
  | .fn f _ _ => isFuncF f
  | _ => false
theorem eff_nilCheck {y : Operand} (ho : o.op = .nilCheck y) (h : nonNil (ρ y) = true) : EffOK P o ρ sp ⟨[], ρ y, []⟩ := by
  refine EffOK.plain fun g a w hop => ⟨a.eval y, ?_, hop y (by simp [Op.operands, ho])⟩
  have hy := hop y (by simp [Op.operands, ho])
  simp only [execOp, ho]
  cases hv : ρ y <;> rw [hv] at h hy <;> simp only [nonNil] at h <;> try (cases h; done)
  · obtain ⟨b, hb, _⟩ := hy.ptr_inv; rw [hb]; rfl
  · obtain ⟨b, hb, _⟩ := hy.aptr_inv; rw [hb]; rfl
  · obtain ⟨b, k, cs, hb, _⟩ := hy.eptr_inv; rw [hb]; rfl
  · rename_i f xs ys
    obtain ⟨b, k, hb, _⟩ := hy.fn_inv; rw [hb]
    cases f <;> first | rfl | (cases h; done)

/-! ### fields -/
def fldOf (P : Program) (t : TypeId) (k : Nat) : Option (Nat × Bool × Nat) :=
  match tyk P t with
  | some (.struct l) => l[k]?
  | _ => none
omit [Laid P] in
theorem fldOf_spec {t : TypeId} {k off : Nat} {ag : Bool} {n : Nat} (h : fldOf P t k = some (off, ag, n)) : ∃ (fs : Array Field) (f : Field), P.underlying t = some (.struct fs) ∧ fs[k]? = some f ∧ f.offset = off ∧ shp P f.type = some (ag, n) := by
  unfold fldOf at h
  split at h
  · rename_i l hl
    obtain ⟨d, hd, fs, rfl, hm⟩ := tyk_spec hl
    refine ⟨fs, ?_⟩
    have key : ∀ (fs : List Field) (l : List (Nat × Bool × Nat)), fs.mapM (fun (f : Field) => (shp P f.type).map fun q => (f.offset, q.1, q.2)) = some l → ∀ k : Nat, l[k]? = some (off, ag, n) → ∃ f : Field, fs[k]? = some f ∧ f.offset = off ∧ shp P f.type = some (ag, n) := by
      intro fs
      induction fs with
      | nil => intro l hl k hk; simp at hl; subst hl; simp at hk
      | cons f fs ih =>
        intro l hl k hk
        simp only [List.mapM_cons, Option.bind_eq_bind, Option.bind_eq_some_iff, Option.map_eq_some_iff, Option.pure_def, Option.some.injEq] at hl
        obtain ⟨q, ⟨q', hq', rfl⟩, rest, hrest, rfl⟩ := hl
        cases k with
        | zero =>
          simp only [List.getElem?_cons_zero, Option.some.injEq, Prod.mk.injEq] at hk
          obtain ⟨h1, h2, h3⟩ := hk
          exact ⟨f, rfl, h1, by rw [hq', ← h2, ← h3]⟩
        | succ k => simpa using ih rest hrest k (by simpa using hk)
    obtain ⟨f, h1, h2, h3⟩ := key fs.toList l hm k h
    exact ⟨f, hd, by simpa using h1, h2, h3⟩
  · cases h

def partA (ag : Bool) (l : List AV) (off n : Nat) : AV := if ag then .agg ((l.drop off).take n) else l.getD off .undef
def fieldAddrA (q : Option (Nat × Bool × Nat)) (x : AV) : Option AV :=
  match q with
  | some (off, ag, n) => if n = 0 then none else match x with
    | .ptr id k => some (.ptr id (k + off))
    | .aptr id sz i k => some (.aptr id sz i (k + off))
    | .eptr v => if off + n ≤ v.cells.length ∧ (ag = true ∨ n = 1 ∧ (v.cells.getD off .undef).one = true) then some (.eptr (partA ag v.cells off n)) else none
    | _ => none
  | none => none
theorem one_cells {v : AV} (h : v.one = true) : v.cells = [v] := by cases v <;> first | rfl | (cases h; done)
theorem eff_fieldAddr {t : TypeId} {y : Operand} {k : Nat} {v : AV} (ho : o.op = .fieldAddr t y k) (h : fieldAddrA (fldOf P t k) (ρ y) = some v) : EffOK P o ρ sp ⟨[], v, []⟩ := by
  refine EffOK.plain fun g a w hop => ?_
  have hy := hop y (by simp [Op.operands, ho])
  unfold fieldAddrA at h
  split at h
  · rename_i off ag n hq
    obtain ⟨fs, f, h1, h2, h3, h4⟩ := fldOf_spec hq
    split at h
    · cases h
    · rename_i hn
      have run : ∀ (b c : Nat), a.eval y = .pointer (some ⟨b, c, none⟩) → (execOp a.eval o).run P w = .ok (.value (.pointer (some ⟨b, c + off, none⟩))) w := by
        intro b c hu
        simp [execOp, ho, Instr.fieldAt, run_underlying' h1, h2, hu, Instr.sureAddr, fieldPlace, run_sizeOf h4, hn, addr_add, h3]
      split at h
      · rename_i id c e; rw [e] at hy; simp only [Option.some.injEq] at h; subst h
        obtain ⟨b, hu, hb⟩ := hy.ptr_inv
        exact ⟨_, run _ _ hu, .ptr _ _ _ hb⟩
      · rename_i id sz i c e; rw [e] at hy; simp only [Option.some.injEq] at h; subst h
        obtain ⟨b, hu, hb⟩ := hy.aptr_inv
        refine ⟨_, run _ _ hu, ?_⟩
        rw [Nat.add_assoc]; exact .aptr _ _ _ _ _ hb
      · rename_i u e; rw [e] at hy
        split at h
        · rename_i hc
          obtain ⟨hle, hag⟩ := hc
          simp only [Option.some.injEq] at h; subst h
          obtain ⟨b, c, cs, hu, hc1, hc2⟩ := hy.eptr_inv
          refine ⟨_, run _ _ hu, ?_⟩
          cases ag with
          | true =>
            refine .eptr _ b (c + off) (fun j => cs (off + j)) (fun j hj => ?_) (fun j hj => ?_)
            · simp only [partA, if_true, AV.cells, List.length_take, List.length_drop] at hj
              rw [Nat.add_assoc]; exact hc1 (off + j) (by omega)
            · simp only [partA, if_true, AV.cells, List.length_take, List.length_drop] at hj ⊢
              have e1 : ((u.cells.drop off).take n).getD j .undef = u.cells.getD (off + j) .undef := by rw [getD_take _ _ _ _ (by omega), getD_drop]
              have := hc2 (off + j) (by omega)
              rw [← e1] at this; exact this
          | false =>
            simp only [Bool.false_eq_true, false_or] at hag
            obtain ⟨rfl, hone⟩ := hag
            simp only [partA, Bool.false_eq_true, if_false]
            refine .eptr _ b (c + off) (fun _ => cs off) (fun j hj => ?_) (fun j hj => ?_)
            · rw [one_cells hone] at hj; simp only [List.length_cons, List.length_nil] at hj
              have : j = 0 := by omega
              subst this; exact hc1 off (by omega)
            · rw [one_cells hone] at hj ⊢; simp only [List.length_cons, List.length_nil] at hj
              have : j = 0 := by omega
              subst this; exact hc2 off (by omega)
        · cases h
      · cases h
  · cases h

def fieldA (q : Option (Nat × Bool × Nat)) (x : AV) : Option AV :=
  match q, x with
  | some (off, ag, n), .agg cs => if off + n ≤ cs.length ∧ (ag = true ∨ n = 1) then some (partA ag cs off n) else none
  | _, _ => none
theorem eff_field {t : TypeId} {y : Operand} {k : Nat} {v : AV} (ho : o.op = .field t y k) (h : fieldA (fldOf P t k) (ρ y) = some v) : EffOK P o ρ sp ⟨[], v, []⟩ := by
  refine EffOK.plain fun g a w hop => ?_
  have hy := hop y (by simp [Op.operands, ho])
  unfold fieldA at h
  split at h
  · rename_i off ag n cs hq e
    obtain ⟨fs, f, h1, h2, h3, h4⟩ := fldOf_spec hq
    rw [e] at hy
    split at h
    · rename_i hc
      obtain ⟨hle, hag⟩ := hc
      simp only [Option.some.injEq] at h; subst h
      obtain ⟨u, hu, hsz, hv⟩ := hy.agg_inv
      obtain ⟨r, hr, hm⟩ := run_part (P := P) h4 (fun h => by rcases hag with h' | h'; rw [h] at h'; cases h'; exact h') hsz hv off hle w
      refine ⟨r, by simp [execOp, ho, Instr.field, run_underlying' h1, h2, hu, asAgg, h3, hr], ?_⟩
      cases ag with
      | true =>
        simp only [Made, if_true] at hm
        obtain ⟨arr, rfl, m1, m2⟩ := hm
        exact .agg _ _ m1 m2
      | false =>
        simp only [Made, Bool.false_eq_true, if_false] at hm
        simp only [partA, Bool.false_eq_true, if_false]
        have h1n : n = 1 := by rcases hag with h' | h'; cases h'; exact h'
        have := hm.2
        rw [getD_take _ _ _ _ (by omega), getD_drop] at this
        exact this
    · cases h
  · cases h

/-! ### elements -/
def indexAddrA (k : Option TyK) (x i : AV) : Option AV :=
  match k, x, i with
  | some (.slice _ _ sz _), .list sz' xs, .int _ n => if sz' = sz ∧ 0 ≤ n ∧ n < xs.length then some (.eptr (xs.getD n.toNat .undef)) else none
  | some (.slice _ _ sz _), .sl id sz' len, .int _ n => if sz' = sz ∧ 0 ≤ n ∧ n < len then some (.aptr id sz n.toNat 0) else none
  | some (.arr len _ _ sz), .ptr id off, .int _ n => if 0 ≤ n ∧ n < len then some (.ptr id (off + n.toNat * sz)) else none
  | _, _, _ => none
theorem eff_indexAddr {t : TypeId} {y z : Operand} {v : AV} (ho : o.op = .indexAddr t y z) (h : indexAddrA (tyk P t) (ρ y) (ρ z) = some v) : EffOK P o ρ sp ⟨[], v, []⟩ := by
  refine EffOK.plain fun g a w hop => ?_
  have hy := hop y (by simp [Op.operands, ho])
  have hz := hop z (by simp [Op.operands, ho])
  unfold indexAddrA at h
  split at h
  · rename_i el ag sz by' sz' xs k n e1 e2 e3
    rw [e2] at hy; rw [e3] at hz
    split at h
    · rename_i hc
      obtain ⟨rfl, h0, hlt⟩ := hc
      simp only [Option.some.injEq] at h; subst h
      obtain ⟨d, hd, rfl, hs, _⟩ := tyk_spec e1
      have hn : n.toNat < xs.length := by omega
      rcases hy.list_inv with ⟨rfl, _⟩ | ⟨b, c, cap, cs, hu, hcap, hl, hc1, hc2⟩
      · exact absurd hn (Nat.not_lt_zero _)
      refine ⟨.pointer (some ⟨b, c + n.toNat * sz', none⟩), ?_, .eptr _ b _ (cs n.toNat) (fun j hj => hc1 _ _ hn (by rw [hl _ hn] at hj; exact hj)) (fun j hj => hc2 _ _ hn (by rw [hl _ hn] at hj; exact hj))⟩
      simp [execOp, ho, Instr.indexAt, hz.int_inv, hu, asIntOf, run_underlying' hd, run_sizeOf hs, h0, hlt, addr_add]
    · cases h
  · rename_i el ag sz by' id sz' len k n e1 e2 e3
    rw [e2] at hy; rw [e3] at hz
    split at h
    · rename_i hc
      obtain ⟨rfl, h0, hlt⟩ := hc
      simp only [Option.some.injEq] at h; subst h
      obtain ⟨d, hd, rfl, hs, _⟩ := tyk_spec e1
      obtain ⟨b, cap, hu, hb, hcap, hrw⟩ := hy.sl_inv'.resolve_left (fun h => by omega)
      refine ⟨.pointer (some ⟨b, n.toNat * sz' + 0, none⟩), ?_, .aptr _ _ _ _ _ hb⟩
      simp [execOp, ho, Instr.indexAt, hz.int_inv, hu, asIntOf, run_underlying' hd, run_sizeOf hs, h0, hlt, addr_add]
    · cases h
  · rename_i len el ag sz id off k n e1 e2 e3
    rw [e2] at hy; rw [e3] at hz
    split at h
    · rename_i hc
      obtain ⟨h0, hlt⟩ := hc
      simp only [Option.some.injEq] at h; subst h
      obtain ⟨d, hd, rfl, hs⟩ := tyk_spec e1
      obtain ⟨b, hu, hb⟩ := hy.ptr_inv
      refine ⟨.pointer (some ⟨b, off + n.toNat * sz, none⟩), ?_, .ptr _ _ _ hb⟩
      simp [execOp, ho, Instr.indexAt, hz.int_inv, hu, asIntOf, run_underlying' hd, run_sizeOf hs, h0, hlt, addr_add, Instr.sureAddr]
    · cases h
  · cases h

def indexA (k : Option TyK) (x i : AV) : Option AV :=
  match k, x, i with
  | some .str, .str s, .int _ n => if 0 ≤ n ∧ n < s.length then some (.int .u8 (s.getD n.toNat 0).toNat) else none
  | _, _, _ => none
theorem eff_index {t : TypeId} {y z : Operand} {v : AV} (ho : o.op = .index t y z) (h : indexA (tyk P t) (ρ y) (ρ z) = some v) : EffOK P o ρ sp ⟨[], v, []⟩ := by
  refine EffOK.plain fun g a w hop => ?_
  have hy := hop y (by simp [Op.operands, ho])
  have hz := hop z (by simp [Op.operands, ho])
  unfold indexA at h
  split at h
  · rename_i s k n e1 e2 e3
    rw [e2] at hy; rw [e3] at hz
    split at h
    · rename_i hc
      obtain ⟨h0, hlt⟩ := hc
      simp only [Option.some.injEq] at h; subst h
      obtain ⟨d, hd, rfl⟩ := tyk_spec e1
      obtain ⟨b, hu, hb⟩ := hy.str_inv
      have hsz : n.toNat < b.size := by
        have : b.data.toList.length = s.length := by rw [hb]
        simp only [Array.length_toList] at this
        have e : b.data.size = b.size := rfl
        omega
      have hget : b[n.toNat]? = some b[n.toNat] := by simp [hsz]
      have hval : b[n.toNat] = s.getD n.toNat 0 := by
        subst hb
        have : b[n.toNat] = b.data[n.toNat]'hsz := rfl
        rw [this]
        have h3 : n.toNat < b.data.size := hsz
        simp [List.getD_eq_getElem?_getD, Array.getElem?_eq_getElem h3]
      refine ⟨.int .u8 (b[n.toNat]).toNat, ?_, by rw [hval]; exact .int _ _⟩
      simp [execOp, ho, Instr.index, hz.int_inv, hu, asIntOf, run_underlying' hd, h0, hget]
    · cases h
  · cases h

/-! ### tuples -/
def extractA (x : AV) (i : Nat) : Option AV := match x with
  | .tuple vs => vs[i]?
  | _ => none
theorem eff_extract {y : Operand} {i : Nat} {v : AV} (ho : o.op = .extract y i) (h : extractA (ρ y) i = some v) : EffOK P o ρ sp ⟨[], v, []⟩ := by
  refine EffOK.plain fun g a w hop => ?_
  have hy := hop y (by simp [Op.operands, ho])
  unfold extractA at h
  split at h
  · rename_i vs e
    rw [e] at hy
    obtain ⟨arr, hu, hsz, hv⟩ := hy.tuple_inv
    have hi : i < vs.length := by
      rcases Nat.lt_or_ge i vs.length with h' | h'
      · exact h'
      · simp [List.getElem?_eq_none h'] at h
    have := hv i hi
    rw [List.getD_eq_getElem?_getD, h] at this
    have hia : i < arr.size := by omega
    refine ⟨arr[i], by simp [execOp, ho, Instr.extract, hu, hia], ?_⟩
    simpa [hia] using this
  · cases h

/-! ### functions, interface values -/
theorem vrs_map {g : Gh} {a : Act} {l : List Operand} (h : ∀ t, t ∈ l → VR g (ρ t) (a.eval t)) : ∀ j, j < (l.map ρ).length → VR g ((l.map ρ).getD j .undef) ((l.map a.eval).toArray.getD j undef) := by
  intro j hj
  simp only [List.length_map] at hj
  have := h l[j] (List.getElem_mem hj)
  simpa [List.getD_eq_getElem?_getD, hj] using this
theorem eff_makeFunc {f : Fn} {xs ys : Array Operand} (ho : o.op = .makeFunc f xs ys) : EffOK P o ρ sp ⟨[], .fn f (xs.toList.map ρ) (ys.toList.map ρ), []⟩ := by
  refine EffOK.plain fun g a w hop => ⟨.func f (xs.map a.eval) (ys.map a.eval), by simp [execOp, ho, Instr.makeFunc], ?_⟩
  have h1 : ∀ t, t ∈ xs.toList → VR g (ρ t) (a.eval t) := fun t ht => hop t (by have : t ∈ xs ∨ t ∈ ys := .inl (by simpa using ht); simpa [Op.operands, ho] using this)
  have h2 : ∀ t, t ∈ ys.toList → VR g (ρ t) (a.eval t) := fun t ht => hop t (by have : t ∈ xs ∨ t ∈ ys := .inr (by simpa using ht); simpa [Op.operands, ho] using this)
  have e1 : xs.map a.eval = (xs.toList.map a.eval).toArray := by apply Array.ext'; simp only [Array.toList_map]
  have e2 : ys.map a.eval = (ys.toList.map a.eval).toArray := by apply Array.ext'; simp only [Array.toList_map]
  rw [e1, e2]
  exact .fn _ _ _ _ _ (by simp) (by simp) (vrs_map h1) (vrs_map h2)

def ifaceA (k : Option TyK) (t : TypeId) (x : AV) : Option AV := match k with
  | some (.iface _) => none
  | none => none
  | _ => some (.iface t x)
theorem eff_makeInterface {t : TypeId} {y : Operand} {v : AV} (ho : o.op = .makeInterface t y) (h : ifaceA (tyk P t) t (ρ y) = some v) : EffOK P o ρ sp ⟨[], v, []⟩ := by
  refine EffOK.plain fun g a w hop => ?_
  have hy := hop y (by simp [Op.operands, ho])
  refine ⟨.iface t (a.eval y), ?_, ?_⟩
  · simp only [execOp, ho, Instr.makeInterface]
    unfold tyk at h
    cases hd : P.underlying t with
    | none => rw [hd] at h; cases h
    | some d =>
      rw [hd] at h
      cases d <;> simp [run_underlying' hd]
      simp [ifaceA] at h
  · unfold ifaceA at h
    split at h
    · cases h
    · cases h
    · simp only [Option.some.injEq] at h; subst h; exact .iface _ _ _ hy
end
end Go.Ab

/- What single operations do: pieces of strings and slices, lengths, greatest and least, structs and slices built of their parts. -/
namespace Go.Ab
section
variable {P : Program} [Laid P] {o : Oper} {ρ : Operand → AV} {sp : Oid → Prop}

/-! ### pieces -/
def boundA (d : Int) : Option AV → Option Int
  | none => some d
  | some (.int _ n) => some n
  | some _ => none
def pieceA (k : Option TyK) (x : AV) (lo hi : Option AV) : Option AV :=
  match k, x with
  | some .str, .str s => match boundA 0 lo, boundA s.length hi with
    | some l, some h => if 0 ≤ l ∧ l ≤ h ∧ h ≤ s.length then some (.str ((s.take h.toNat).drop l.toNat)) else none
    | _, _ => none
  | some (.slice _ _ sz _), .list sz' xs => match boundA 0 lo, boundA xs.length hi with
    | some l, some h => if sz' = sz ∧ 0 ≤ l ∧ l ≤ h ∧ h ≤ xs.length then some (.list sz ((xs.take h.toNat).drop l.toNat)) else none
    | _, _ => none
  | some (.slice ..), .sl id sz len => match boundA 0 lo, boundA len hi with
    | some l, some h => if l = 0 ∧ 0 ≤ h ∧ h ≤ len then some (.sl id sz h.toNat) else none
    | _, _ => none
  | some (.slice ..), .nilSl => match boundA 0 lo, boundA 0 hi with
    | some l, some h => if l = 0 ∧ h = 0 then some .nilSl else none
    | _, _ => none
  | _, _ => none

theorem boundA_spec {g : Gh} {a : Act} {d : Int} {lo : Option Operand} {l : Int} (h : boundA d (lo.map ρ) = some l) (hv : ∀ t, lo = some t → VR g (ρ t) (a.eval t)) :
    (lo = none ∧ l = d) ∨ ∃ t k, lo = some t ∧ a.eval t = .int k l := by
  cases lo with
  | none => simp only [Option.map_none, boundA, Option.some.injEq] at h; exact .inl ⟨rfl, h.symm⟩
  | some t =>
    simp only [Option.map_some] at h
    have := hv t rfl
    cases hr : ρ t <;> rw [hr] at h this <;> simp only [boundA] at h <;> try (cases h; done)
    simp only [Option.some.injEq] at h; subst h
    exact .inr ⟨t, _, rfl, this.int_inv⟩

omit [Laid P] in
theorem run_sliceBounds {a : Act} {w : World} {b : Bool} {len cap : Nat} {lo hi : Option Operand} {l h : Int} (h1 : (lo = none ∧ l = 0) ∨ ∃ t k, lo = some t ∧ a.eval t = .int k l)
    (h2 : (hi = none ∧ h = len) ∨ ∃ t k, hi = some t ∧ a.eval t = .int k h) (h0 : 0 ≤ l) (hlh : l ≤ h) (hc : h ≤ cap) :
    (Instr.sliceBounds b len cap (lo.map a.eval) (hi.map a.eval) none).run P w = .ok (l.toNat, h.toNat, cap) w := by
  have hh : (h.toNat : Int) = h := by omega
  have h0' : 0 ≤ h := by omega
  rcases h1 with ⟨rfl, rfl⟩ | ⟨t, k, rfl, ht⟩ <;> rcases h2 with ⟨rfl, rfl⟩ | ⟨t', k', rfl, ht'⟩
  · simp [Instr.sliceBounds]
  · simp [Instr.sliceBounds, Instr.sliceBound, asIntOf, ht', h0', hc]
  · simp [Instr.sliceBounds, Instr.sliceBound, asIntOf, ht, h0, hlh]
  · simp [Instr.sliceBounds, Instr.sliceBound, asIntOf, ht', h0', hc, ht, h0, hlh, hh]

theorem extract_toList (b : ByteArray) (i j : Nat) : (b.extract i j).data.toList = (b.data.toList.take j).drop i := by
  simp [ByteArray.data_extract, List.extract_eq_take_drop, List.drop_take]

theorem eff_piece {t : TypeId} {y : Operand} {lo hi : Option Operand} {v : AV} (ho : o.op = .slice t y lo hi none) (h : pieceA (tyk P t) (ρ y) (lo.map ρ) (hi.map ρ) = some v) : EffOK P o ρ sp ⟨[], v, []⟩ := by
  refine EffOK.plain fun g a w hop => ?_
  have hy := hop y (by simp [Op.operands, ho])
  have hlo : ∀ t, lo = some t → VR g (ρ t) (a.eval t) := fun t ht => hop t (by subst ht; simp [Op.operands, ho])
  have hhi : ∀ t, hi = some t → VR g (ρ t) (a.eval t) := fun t ht => hop t (by subst ht; simp [Op.operands, ho])
  unfold pieceA at h
  split at h
  · rename_i s e1 e2
    rw [e2] at hy
    obtain ⟨d, hd, rfl⟩ := tyk_spec e1
    obtain ⟨b, hu, hb⟩ := hy.str_inv
    split at h
    · rename_i l hh hl hr
      split at h
      · rename_i hc
        obtain ⟨h0, hlh, hle⟩ := hc
        simp only [Option.some.injEq] at h; subst h
        have hsz : b.size = s.length := by
          have : b.data.toList.length = s.length := by rw [hb]
          simpa using this
        have hb' := run_sliceBounds (P := P) (w := w) (b := false) (len := b.size) (cap := b.size) (boundA_spec hl hlo) (by rw [← hsz] at hr; exact boundA_spec hr hhi) h0 hlh (by omega)
        refine ⟨.string (b.extract l.toNat hh.toNat), ?_, .str _ _ (by rw [extract_toList, hb])⟩
        simp [execOp, ho, Instr.sliceAt, run_underlying' hd, Instr.slice, hu, hb']
      · cases h
    · cases h
  · rename_i el ag sz by' sz' xs e1 e2
    rw [e2] at hy
    obtain ⟨d, hd, rfl, hs, _⟩ := tyk_spec e1
    rcases hy.list_inv with ⟨rfl, hu | ⟨a0, cap, hu⟩⟩ | ⟨b, c, cap, cs, hu, hcap, hln, hc1, hc2⟩
    rotate_left
    · split at h
      · rename_i l hh hl hr
        split at h
        · rename_i hc
          obtain ⟨rfl, h0, hlh, hle⟩ := hc
          simp only [List.length_nil, Int.natCast_zero] at hr hle
          obtain rfl : l = 0 := by omega
          obtain rfl : hh = 0 := by omega
          simp only [Option.some.injEq] at h; subst h
          have hb' := run_sliceBounds (P := P) (w := w) (b := true) (len := 0) (cap := cap) (boundA_spec hl hlo) (boundA_spec hr hhi) (Int.le_refl _) (Int.le_refl _) (by omega)
          refine ⟨.slice (some a0) 0 cap, ?_, .listAny _ _ _⟩
          simp [execOp, ho, Instr.sliceAt, run_underlying' hd, Instr.slice, hu, hb', run_sizeOf hs, Addr.add]
        · cases h
      · cases h
    rotate_left
    · split at h
      · rename_i l hh hl hr
        split at h
        · rename_i hc
          obtain ⟨rfl, h0, hlh, hle⟩ := hc
          simp only [List.length_nil, Int.natCast_zero] at hr hle
          obtain rfl : l = 0 := by omega
          obtain rfl : hh = 0 := by omega
          simp only [Option.some.injEq] at h; subst h
          have hb' := run_sliceBounds (P := P) (w := w) (b := true) (len := 0) (cap := 0) (boundA_spec hl hlo) (boundA_spec hr hhi) (Int.le_refl _) (Int.le_refl _) (by omega)
          refine ⟨.slice none 0 0, ?_, .listNil _⟩
          simp [execOp, ho, Instr.sliceAt, run_underlying' hd, Instr.slice, hu, hb', run_sizeOf hs]
        · cases h
      · cases h
    split at h
    · rename_i l hh hl hr
      split at h
      · rename_i hc
        obtain ⟨rfl, h0, hlh, hle⟩ := hc
        simp only [Option.some.injEq] at h; subst h
        have hb' := run_sliceBounds (P := P) (w := w) (b := true) (len := xs.length) (cap := cap) (boundA_spec hl hlo) (boundA_spec hr hhi) h0 hlh (by omega)
        have hlen : ((xs.take hh.toNat).drop l.toNat).length = hh.toNat - l.toNat := by simp; omega
        have hget : ∀ i, i < hh.toNat - l.toNat → ((xs.take hh.toNat).drop l.toNat).getD i .undef = xs.getD (l.toNat + i) .undef := fun i hi => by
          rw [getD_drop, getD_take _ _ _ _ (by omega)]
        have key : VR g (.list sz' ((xs.take hh.toNat).drop l.toNat)) (.slice (some ⟨b, c + l.toNat * sz', none⟩) (hh.toNat - l.toNat) (cap - l.toNat)) := by
          have := VR.list (g := g) sz' ((xs.take hh.toNat).drop l.toNat) b (c + l.toNat * sz') (cap - l.toNat) (fun i j => cs (l.toNat + i) j) (by omega)
            (fun i hi => by rw [hlen] at hi; rw [hget i hi]; exact hln _ (by omega))
            (fun i j hi hj => by
              rw [hlen] at hi
              have := hc1 (l.toNat + i) j (by omega) hj
              rw [Nat.add_mul, ← Nat.add_assoc] at this; exact this)
            (fun i j hi hj => by rw [hlen] at hi; rw [hget i hi]; exact hc2 _ _ (by omega) hj)
          rwa [hlen] at this
        have run : (execOp a.eval o).run P w = .ok (.value (.slice (if cap = l.toNat then some ⟨b, c, none⟩ else some ⟨b, c + l.toNat * sz', none⟩) (hh.toNat - l.toNat) (cap - l.toNat))) w := by
          simp [execOp, ho, Instr.sliceAt, run_underlying' hd, Instr.slice, hu, hb', run_sizeOf hs, addr_add]
        refine ⟨_, run, ?_⟩
        by_cases e : cap = l.toNat
        · rw [if_pos e]
          have hz : hh.toNat - l.toNat = 0 := by omega
          have hnil : (xs.take hh.toNat).drop l.toNat = [] := List.eq_nil_of_length_eq_zero (by omega)
          rw [hnil, hz, e, Nat.sub_self]
          exact VR.list sz' [] b c 0 (fun _ _ => undef) (Nat.le_refl _) (fun i hi => absurd hi (Nat.not_lt_zero _)) (fun i j hi => absurd hi (Nat.not_lt_zero _)) (fun i j hi => absurd hi (Nat.not_lt_zero _))
        · rw [if_neg e]; exact key
      · cases h
    · cases h
  · rename_i el ag sz by' id sz' len e1 e2
    rw [e2] at hy
    obtain ⟨d, hd, rfl, hs, _⟩ := tyk_spec e1
    rcases hy.sl_inv' with ⟨rfl, hu, hb⟩ | ⟨b, cap, hu, hb, hcap, hrw⟩
    · split at h
      · rename_i l hh hl hr
        split at h
        · rename_i hc
          obtain ⟨rfl, h0, hle⟩ := hc
          simp only [Int.natCast_zero] at hr hle
          obtain rfl : hh = 0 := by omega
          simp only [Option.some.injEq] at h; subst h
          have hb' := run_sliceBounds (P := P) (w := w) (b := true) (len := 0) (cap := 0) (boundA_spec hl hlo) (boundA_spec hr hhi) (Int.le_refl _) (Int.le_refl _) (by omega)
          refine ⟨.slice none 0 0, ?_, .slNil _ _ hb⟩
          simp [execOp, ho, Instr.sliceAt, run_underlying' hd, Instr.slice, hu, hb', run_sizeOf hs]
        · cases h
      · cases h
    split at h
    · rename_i l hh hl hr
      split at h
      · rename_i hc
        obtain ⟨rfl, h0, hle⟩ := hc
        simp only [Option.some.injEq] at h; subst h
        have hb' := run_sliceBounds (P := P) (w := w) (b := true) (len := len) (cap := cap) (boundA_spec hl hlo) (boundA_spec hr hhi) (Int.le_refl _) h0 (by omega)
        refine ⟨.slice (some ⟨b, 0, none⟩) hh.toNat cap, ?_, .sl _ _ _ _ _ hb (by omega) hrw⟩
        have e0 : Addr.add ⟨b, 0, none⟩ 0 = ⟨b, 0, none⟩ := by simp [Addr.add]
        simp [execOp, ho, Instr.sliceAt, run_underlying' hd, Instr.slice, hu, hb', run_sizeOf hs, e0]
      · cases h
    · cases h
  · rename_i el ag sz by' e1 e2
    rw [e2] at hy
    obtain ⟨d, hd, rfl, hs, _⟩ := tyk_spec e1
    have hu := hy.nilSl_inv
    split at h
    · rename_i l hh hl hr
      split at h
      · rename_i hc
        obtain ⟨rfl, rfl⟩ := hc
        simp only [Option.some.injEq] at h; subst h
        have hb' := run_sliceBounds (P := P) (w := w) (b := true) (len := 0) (cap := 0) (boundA_spec hl hlo) (boundA_spec hr hhi) (Int.le_refl _) (Int.le_refl _) (by omega)
        refine ⟨.slice none 0 0, ?_, .nilSl⟩
        simp [execOp, ho, Instr.sliceAt, run_underlying' hd, Instr.slice, hu, hb', run_sizeOf hs]
      · cases h
    · cases h
  · cases h

/-! ### lengths -/
def lenA (m : Mem) (k : Option TyK) (x : AV) : OpR :=
  match k, x with
  | some .str, .str s => pureR (.int .i64 s.length)
  | some (.slice ..), .list _ xs => pureR (.int .i64 xs.length)
  | some (.slice ..), .sl _ _ n => pureR (.int .i64 n)
  | some (.slice ..), .nilSl => pureR (.int .i64 0)
  | some (.map ..), .nilMap => pureR (.int .i64 0)
  | some (.map ..), .map id => match m id with
    | some (.map ks ag es clock) => .eff ⟨[(id, .map ks ag es clock)], .int .i64 es.length, []⟩
    | _ => .no
  | some (.arr n ..), _ => pureR (.int .i64 n)
  | _, _ => .no
omit [Laid P] in
theorem run_builtin {a : Act} {w w' : World} {b : Builtin} {args : Array Operand} {ats : Array TypeId} {r : Value} (ho : o.op = .call ⟨.builtin b, args, ats⟩)
    (h : (builtin b ats o.type (args.map fun | .const _ => true | _ => false) (args.map a.eval)).run P w = .ok (.value r) w') : (execOp a.eval o).run P w = .ok (.value r) w' := by
  simp only [execOp, ho, resolve, Sem.run_bind, Sem.run_pure, Result.andThen_ok, invoke]
  exact h
theorem eff_len {y : Operand} {t : TypeId} {m0 : Mem} {e : Eff} (ho : o.op = .call ⟨.builtin .len, #[y], #[t]⟩) (h : lenA m0 (tyk P t) (ρ y) = .eff e) : EffOK P o ρ sp e ∧ ∀ q, q ∈ e.need → m0 q.1 = some q.2 := by
  have run : ∀ {a : Act} {w : World} {r : Value}, (Builtin.len_ #[t] o.type #[a.eval y]).run P w = .ok r w → (execOp a.eval o).run P w = .ok (.value r) w := fun h =>
    run_builtin ho (by simp [builtin, h])
  have plain : ∀ {val : AV}, e = ⟨[], val, []⟩ → (∀ (g : Gh) (a : Act) (w : World), VR g (ρ y) (a.eval y) → ∃ v, (Builtin.len_ #[t] o.type #[a.eval y]).run P w = .ok v w ∧ VR g val v) → EffOK P o ρ sp e ∧ ∀ q, q ∈ e.need → m0 q.1 = some q.2 := by
    rintro val rfl hh
    refine ⟨EffOK.plain fun g a w hop => ?_, fun q hq => by cases hq⟩
    obtain ⟨v, h1, h2⟩ := hh g a w (hop y (by simp [Op.operands, Call.operands, ho]))
    exact ⟨v, run h1, h2⟩
  unfold lenA pureR at h
  split at h
  · rename_i s e1 e2
    obtain ⟨d, hd, rfl⟩ := tyk_spec e1
    simp only [OpR.eff.injEq] at h
    refine plain h.symm fun g a w hv => ?_
    rw [e2] at hv
    obtain ⟨b, hu, hb⟩ := hv.str_inv
    refine ⟨.int .i64 s.length, ?_, .int _ _⟩
    have : b.size = s.length := by rw [← hb]; simp
    simp [Builtin.len_, run_underlying' hd, hu, goInt, this]
  · rename_i el ag sz by' sz' xs e1 e2
    obtain ⟨d, hd, rfl, hs, _⟩ := tyk_spec e1
    simp only [OpR.eff.injEq] at h
    refine plain h.symm fun g a w hv => ?_
    rw [e2] at hv
    rcases hv.list_inv with ⟨rfl, hu | ⟨a0, cap, hu⟩⟩ | ⟨b, c, cap, cs, hu, _⟩
    · exact ⟨.int .i64 0, by simp [Builtin.len_, run_underlying' hd, hu, goInt], .int _ _⟩
    · exact ⟨.int .i64 0, by simp [Builtin.len_, run_underlying' hd, hu, goInt], .int _ _⟩
    exact ⟨.int .i64 xs.length, by simp [Builtin.len_, run_underlying' hd, hu, goInt], .int _ _⟩
  · rename_i el ag sz by' id sz' n e1 e2
    obtain ⟨d, hd, rfl, hs, _⟩ := tyk_spec e1
    simp only [OpR.eff.injEq] at h
    refine plain h.symm fun g a w hv => ?_
    rw [e2] at hv
    rcases hv.sl_inv' with ⟨rfl, hu, _⟩ | ⟨b, cap, hu, _⟩
    · exact ⟨.int .i64 0, by simp [Builtin.len_, run_underlying' hd, hu, goInt], .int _ _⟩
    exact ⟨.int .i64 n, by simp [Builtin.len_, run_underlying' hd, hu, goInt], .int _ _⟩
  · rename_i el ag sz by' e1 e2
    obtain ⟨d, hd, rfl, hs, _⟩ := tyk_spec e1
    simp only [OpR.eff.injEq] at h
    refine plain h.symm fun g a w hv => ?_
    rw [e2] at hv
    exact ⟨.int .i64 0, by simp [Builtin.len_, run_underlying' hd, hv.nilSl_inv, goInt], .int _ _⟩
  · rename_i k el e1 e2
    obtain ⟨d, hd, rfl⟩ := tyk_spec e1
    simp only [OpR.eff.injEq] at h
    refine plain h.symm fun g a w hv => ?_
    rw [e2] at hv
    exact ⟨.int .i64 0, by simp [Builtin.len_, run_underlying' hd, hv.nilMap_inv, goInt], .int _ _⟩
  · rename_i k el id e1 e2
    obtain ⟨d, hd, rfl⟩ := tyk_spec e1
    split at h
    · rename_i ks ag es clock hm0
      simp only [OpR.eff.injEq] at h; subst h
      refine ⟨EffOK.of fun x g a w m hm hnd hop _ => ?_, fun q hq => by simp only [List.mem_singleton] at hq; subst hq; exact hm0⟩
      have hv := hop y (by simp [Op.operands, Call.operands, ho])
      rw [e2] at hv
      obtain ⟨b, hu, hb⟩ := hv.map_inv
      obtain ⟨b', h1, h2, h3, h4⟩ := hm.obj id _ (hnd (id, .map ks ag es clock) (by simp))
      rw [hb] at h1; simp only [Option.some.injEq] at h1; subst h1
      obtain ⟨⟨ents, c1, c2⟩, _⟩ := h4
      refine ⟨g, .value (.int .i64 es.length), _, w, run ?_, .inl rfl, Gh.le_refl g, fun _ _ => rfl, .int _ _, hm⟩
      have c3 : ents.size = es.length := by rw [← Array.length_toList]; exact c2.length
      simp [Builtin.len_, run_underlying' hd, hu, getObj, Sem.run, c1, goInt, c3]
    · cases h
  · rename_i n el ag sz e1
    obtain ⟨d, hd, rfl, hs⟩ := tyk_spec e1
    simp only [OpR.eff.injEq] at h
    refine plain h.symm fun g a w hv => ?_
    exact ⟨.int .i64 n, by simp [Builtin.len_, run_underlying' hd, goInt], .int _ _⟩
  · cases h

/-! ### max, min of two numbers -/
def maxA (x y : AV) : Option AV := match x, y with
  | .int k a, .int k' b => if k = k' then some (.int k (if b > a then b else a)) else none
  | _, _ => none
def minA (x y : AV) : Option AV := match x, y with
  | .int k a, .int k' b => if k = k' then some (.int k (if b < a then b else a)) else none
  | _, _ => none
theorem eff_max {y z : Operand} {ts : Array TypeId} {v : AV} (ho : o.op = .call ⟨.builtin .max, #[y, z], ts⟩) (h : maxA (ρ y) (ρ z) = some v) : EffOK P o ρ sp ⟨[], v, []⟩ := by
  refine EffOK.plain fun g a w hop => ?_
  have hy := hop y (by simp [Op.operands, Call.operands, ho])
  have hz := hop z (by simp [Op.operands, Call.operands, ho])
  unfold maxA at h
  split at h
  · rename_i k a' k' b' e1 e2
    rw [e1] at hy; rw [e2] at hz
    split at h
    · rename_i hk; subst hk
      simp only [Option.some.injEq] at h; subst h
      refine ⟨_, run_builtin ho ?_, .int _ _⟩
      simp [builtin, Builtin.max_, Builtin.max2, hy.int_inv, hz.int_inv]
    · cases h
  · cases h
theorem eff_min {y z : Operand} {ts : Array TypeId} {v : AV} (ho : o.op = .call ⟨.builtin .min, #[y, z], ts⟩) (h : minA (ρ y) (ρ z) = some v) : EffOK P o ρ sp ⟨[], v, []⟩ := by
  refine EffOK.plain fun g a w hop => ?_
  have hy := hop y (by simp [Op.operands, Call.operands, ho])
  have hz := hop z (by simp [Op.operands, Call.operands, ho])
  unfold minA at h
  split at h
  · rename_i k a' k' b' e1 e2
    rw [e1] at hy; rw [e2] at hz
    split at h
    · rename_i hk; subst hk
      simp only [Option.some.injEq] at h; subst h
      refine ⟨_, run_builtin ho ?_, .int _ _⟩
      simp [builtin, Builtin.min_, Builtin.min2, hy.int_inv, hz.int_inv]
    · cases h
  · cases h
end
end Go.Ab

/- What single operations do: structs and slices built of their parts; append; new maps. -/
namespace Go.Ab
section
variable {P : Program} [Laid P] {o : Oper} {ρ : Operand → AV} {sp : Oid → Prop}

/-! ### filling a row -/
theorem foldl_set (vs : List Value) : ∀ (off k : Nat) (c : Array Value), off + k + vs.length ≤ c.size →
    ((vs.zipIdx k).foldl (fun cs q => cs.setIfInBounds (off + q.2) q.1) c).size = c.size ∧
    ∀ j, ((vs.zipIdx k).foldl (fun cs q => cs.setIfInBounds (off + q.2) q.1) c).getD j undef = if off + k ≤ j ∧ j < off + k + vs.length then vs.getD (j - (off + k)) undef else c.getD j undef := by
  induction vs with
  | nil => intro off k c _; exact ⟨rfl, fun j => by rw [if_neg (by simp only [List.length_nil]; omega)]; rfl⟩
  | cons v vs ih =>
    intro off k c h
    simp only [List.length_cons] at h
    simp only [List.zipIdx_cons, List.foldl_cons]
    obtain ⟨h1, h2⟩ := ih off (k + 1) (c.setIfInBounds (off + k) v) (by simp; omega)
    refine ⟨by rw [h1]; simp, fun j => ?_⟩
    rw [h2]
    simp only [List.length_cons]
    by_cases e : j = off + k
    · subst e
      rw [if_neg (by omega), if_pos (by omega)]
      simp [show off + k < c.size from by omega]
    · by_cases hin : off + (k + 1) ≤ j ∧ j < off + (k + 1) + vs.length
      · rw [if_pos hin, if_pos (by omega)]
        have : j - (off + k) = (j - (off + (k + 1))) + 1 := by omega
        rw [this]; simp [List.getD_eq_getElem?_getD]
      · rw [if_neg hin, if_neg (by omega)]
        simp [Array.getElem?_setIfInBounds_ne (Ne.symm e)]

/-- One part set in. -/
theorem foldl_part {u : Value} {off : Nat} {c : Array Value} (h : off + u.cells.size ≤ c.size) :
    (u.cells.zipIdx.foldl (fun cs (q : Value × Nat) => cs.setIfInBounds (off + q.2) q.1) c).size = c.size ∧
    ∀ j, (u.cells.zipIdx.foldl (fun cs (q : Value × Nat) => cs.setIfInBounds (off + q.2) q.1) c).getD j undef = if off ≤ j ∧ j < off + u.cells.size then u.cells.getD (j - off) undef else c.getD j undef := by
  have := foldl_set u.cells.toList off 0 c (by simpa using h)
  rw [← Array.foldl_toList, Array.toList_zipIdx]
  simpa using this

def fillA (pl : Nat → Option (Nat × Nat)) : List AV → List (Nat × AV) → Option (List AV)
  | cells, [] => some cells
  | cells, (k, v) :: r => match pl k with
    | some (off, n) => if v.known = true ∧ v.cells.length = n ∧ off + n ≤ cells.length then fillA pl (spl cells off v.cells) r else none
    | none => none

theorem fill_spec {g : Gh} {pl : Nat → Option (Nat × Nat)} : ∀ {ps : List (Nat × AV)} {qs : List (Nat × Value)} {cells out : List AV} {c : Array Value}, fillA pl cells ps = some out → ps.length = qs.length →
    (∀ j (h : j < ps.length) (h' : j < qs.length), ps[j].1 = qs[j].1 ∧ VR g ps[j].2 qs[j].2) → c.size = cells.length → (∀ j, j < cells.length → VR g (cells.getD j .undef) (c.getD j undef)) →
    ∃ c', Instr.fill pl c qs = some c' ∧ c'.size = out.length ∧ ∀ j, j < out.length → VR g (out.getD j .undef) (c'.getD j undef)
  | [], [], cells, out, c, h, _, _, hs, hv => by
    simp only [fillA, Option.some.injEq] at h; subst h
    exact ⟨c, rfl, hs, hv⟩
  | [], _ :: _, _, _, _, _, hl, _, _, _ => by simp at hl
  | _ :: _, [], _, _, _, _, hl, _, _, _ => by simp at hl
  | (k, v) :: ps, (k', u) :: qs, cells, out, c, h, hl, hp, hs, hv => by
    obtain ⟨e, hvu⟩ := hp 0 (by simp) (by simp)
    simp only [List.getElem_cons_zero] at e hvu
    subst e
    simp only [fillA] at h
    split at h
    · rename_i off n hpl
      split at h
      · rename_i hc
        obtain ⟨hk, hn, hle⟩ := hc
        obtain ⟨u1, u2⟩ := hvu.cells hk
        have hsz : ¬ (u.cells.size ≠ n || off + u.cells.size > c.size) = true := by simp; omega
        obtain ⟨f1, f2⟩ := foldl_part (u := u) (off := off) (c := c) (by omega)
        have := fill_spec (qs := qs) (c := u.cells.zipIdx.foldl (fun cs (q : Value × Nat) => cs.setIfInBounds (off + q.2) q.1) c) h (by simpa using hl)
          (fun j h1 h2 => by have := hp (j + 1) (by simp; omega) (by simp; omega); simpa using this) (by rw [f1, spl_length (by omega)]; exact hs)
          (fun j hj => by
            rw [spl_length (by omega)] at hj
            rw [spl_getD (by omega), f2]
            by_cases hin : off ≤ j ∧ j < off + v.cells.length
            · rw [if_pos hin, if_pos (by omega)]; exact u2 _ (by omega)
            · rw [if_neg hin, if_neg (by omega)]; exact hv j hj)
        obtain ⟨c', h1, h2, h3⟩ := this
        refine ⟨c', ?_, h2, h3⟩
        simp only [Instr.fill, hpl]
        rw [if_neg hsz]
        exact h1
      · cases h
    · cases h

/-! ### build -/
def buildA (P : Program) (t : TypeId) (ps : List (Nat × AV)) : Option AV :=
  match tyk P t, zer P t with
  | some (.struct l), some z => (fillA (fun k => (l[k]?).map fun q => (q.1, q.2.2)) z ps).map .agg
  | some (.arr _ _ _ sz), some z => (fillA (fun k => some (k * sz, sz)) z ps).map .agg
  | _, _ => none
theorem parts_vr {g : Gh} {a : Act} {ps : Array (Nat × Operand)} (h : ∀ t, t ∈ ps.toList.map (·.2) → VR g (ρ t) (a.eval t)) :
    (ps.toList.map fun q => (q.1, ρ q.2)).length = (ps.map fun q => (q.1, a.eval q.2)).toList.length ∧
    ∀ j (h1 : j < (ps.toList.map fun q => (q.1, ρ q.2)).length) (h2 : j < (ps.map fun q => (q.1, a.eval q.2)).toList.length),
      (ps.toList.map fun q => (q.1, ρ q.2))[j].1 = ((ps.map fun q => (q.1, a.eval q.2)).toList[j]).1 ∧ VR g (ps.toList.map fun q => (q.1, ρ q.2))[j].2 ((ps.map fun q => (q.1, a.eval q.2)).toList[j]).2 := by
  refine ⟨by simp, fun j h1 h2 => ?_⟩
  simp only [List.length_map, Array.length_toList] at h1
  refine ⟨by simp, ?_⟩
  have := h (ps[j]).2 (List.mem_map.2 ⟨ps[j], by simp, rfl⟩)
  simpa using this

theorem eff_build {t : TypeId} {ps : Array (Nat × Operand)} {v : AV} (ho : o.op = .build t ps) (h : buildA P t (ps.toList.map fun q => (q.1, ρ q.2)) = some v) : EffOK P o ρ sp ⟨[], v, []⟩ := by
  refine EffOK.plain fun g a w hop => ?_
  have hop' : ∀ t, t ∈ ps.toList.map (·.2) → VR g (ρ t) (a.eval t) := fun t ht => hop t (by rw [ho]; simpa [Op.operands] using ht)
  obtain ⟨pl, pv⟩ := parts_vr hop'
  unfold buildA at h
  split at h
  · rename_i l z e1 e2
    obtain ⟨d, hd, fs, rfl, hm⟩ := tyk_spec e1
    simp only [Option.map_eq_some_iff] at h
    obtain ⟨out, hf, rfl⟩ := h
    unfold zer at e2
    simp only [Option.map_eq_some_iff, Option.bind_eq_some_iff] at e2
    obtain ⟨zv, ⟨i, hi, hz⟩, rfl⟩ := e2
    -- the places
    have hpl : ∃ places, fs.toList.mapM (fun f => (P.info? f.type).map fun i => (f.offset, i.size)) = some places ∧ ∀ k : Nat, places[k]? = (l[k]?).map fun (q : Nat × Bool × Nat) => (q.1, q.2.2) := by
      have key : ∀ (fs : List Field) (l : List (Nat × Bool × Nat)), fs.mapM (fun (f : Field) => (shp P f.type).map fun q => (f.offset, q.1, q.2)) = some l →
          ∃ places, fs.mapM (fun (f : Field) => (P.info? f.type).map fun i => (f.offset, i.size)) = some places ∧ ∀ k : Nat, places[k]? = (l[k]?).map fun q => (q.1, q.2.2) := by
        intro fs
        induction fs with
        | nil => intro l hl; simp at hl; subst hl; exact ⟨[], by simp, fun k => by simp⟩
        | cons f fs ih =>
          intro l hl
          simp only [List.mapM_cons, Option.bind_eq_bind, Option.bind_eq_some_iff, Option.map_eq_some_iff, Option.pure_def, Option.some.injEq] at hl
          obtain ⟨q, ⟨q', hq', rfl⟩, rest, hrest, rfl⟩ := hl
          obtain ⟨places, p1, p2⟩ := ih rest hrest
          obtain ⟨d, i, hd, hi, _, hsz⟩ := shp_spec (b := q'.1) (n := q'.2) hq'
          refine ⟨(f.offset, q'.2) :: places, by simp [List.mapM_cons, hi, hsz, p1], fun k => ?_⟩
          cases k with
          | zero => rfl
          | succ k => simpa using p2 k
      exact key fs.toList l hm
    obtain ⟨places, p1, p2⟩ := hpl
    have hpf : (fun (k : Nat) => (l[k]?).map fun (q : Nat × Bool × Nat) => (q.1, q.2.2)) = fun k => places[k]? := funext fun k => (p2 k).symm
    rw [hpf] at hf
    obtain ⟨c', f1, f2, f3⟩ := fill_spec (g := g) (c := zv.cells) hf pl pv (constA_cells zv).symm (fun j hj => constA_cell g zv j hj)
    refine ⟨.agg c', ?_, .agg _ _ f2 f3⟩
    have hb : P.built t (ps.map fun q => (q.1, a.eval q.2)).toList = some c' := by
      simp only [Program.built, hi, hd, hz, p1]
      simpa using f1
    simp [execOp, ho, run_build w t _ c' hb]
  · rename_i n el ag sz z e1 e2
    obtain ⟨d, hd, rfl, hs⟩ := tyk_spec e1
    simp only [Option.map_eq_some_iff] at h
    obtain ⟨out, hf, rfl⟩ := h
    unfold zer at e2
    simp only [Option.map_eq_some_iff, Option.bind_eq_some_iff] at e2
    obtain ⟨zv, ⟨i, hi, hz⟩, rfl⟩ := e2
    obtain ⟨_, ie, _, hie, _, hsz⟩ := shp_spec hs
    obtain ⟨c', f1, f2, f3⟩ := fill_spec (g := g) (c := zv.cells) hf pl pv (constA_cells zv).symm (fun j hj => constA_cell g zv j hj)
    refine ⟨.agg c', ?_, .agg _ _ f2 f3⟩
    have hb : P.built t (ps.map fun q => (q.1, a.eval q.2)).toList = some c' := by
      simp only [Program.built, hi, hd, hz, hie, hsz]
      exact f1
    simp [execOp, ho, run_build w t _ c' hb]
  · cases h

/-! ### buildSlice: all places written out, in their order -/
def inOrder : Nat → List (Nat × AV) → Bool
  | _, [] => true
  | n, q :: r => q.1 == n && inOrder (n + 1) r
def litOK (P : Program) (k : Option TyK) (n : Nat) (ps : List (Nat × AV)) : Option (Nat × List AV) :=
  match k with
  | some (.slice el _ sz _) => if (zer P el).isSome = true ∧ ps.length = n ∧ inOrder 0 ps = true ∧ n * sz ≤ 16777216 ∧ 0 < sz ∧ (ps.all fun q => q.2.cells.all AV.one && q.2.cells.length == sz) = true then some (sz, ps.map (·.2)) else none
  | _ => none

theorem row_fill {sz : Nat} : ∀ (ps : List (Nat × Value)) (k : Nat) (c : Array Value), (∀ j (h : j < ps.length), ps[j].1 = k + j ∧ ps[j].2.cells.size = sz) → (k + ps.length) * sz ≤ c.size →
    ∃ c', Instr.fill (fun i => some (i * sz, sz)) c ps = some c' ∧ c'.size = c.size ∧ (∀ i j, i < ps.length → j < sz → c'.getD ((k + i) * sz + j) undef = ((ps.getD i (0, undef)).2.cells.getD j undef)) ∧ ∀ j, j < k * sz → c'.getD j undef = c.getD j undef
  | [], k, c, _, _ => ⟨c, rfl, rfl, fun i j h => by simp at h, fun _ _ => rfl⟩
  | (k', u) :: ps, k, c, hp, hc => by
    obtain ⟨e, hu⟩ := hp 0 (by simp)
    simp only [List.getElem_cons_zero, Nat.add_zero] at e hu
    subst e
    simp only [List.length_cons] at hc
    have hc' : k' * sz + sz + ps.length * sz ≤ c.size := by
      have : (k' + (ps.length + 1)) * sz = k' * sz + sz + ps.length * sz := by rw [Nat.add_mul, Nat.add_mul]; omega
      omega
    obtain ⟨f1, f2⟩ := foldl_part (u := u) (off := k' * sz) (c := c) (by omega)
    obtain ⟨c', h1, h2, h3, h4⟩ := row_fill ps (k' + 1) (u.cells.zipIdx.foldl (fun cs (q : Value × Nat) => cs.setIfInBounds (k' * sz + q.2) q.1) c) (fun j h => by
      have := hp (j + 1) (by simp; omega)
      simp only [List.getElem_cons_succ] at this
      exact ⟨by omega, this.2⟩) (by rw [f1, Nat.add_mul, Nat.add_mul]; omega)
    have hsz : ¬ (u.cells.size ≠ sz || k' * sz + u.cells.size > c.size) = true := by simp; omega
    refine ⟨c', by simp only [Instr.fill]; rw [if_neg hsz]; exact h1, by rw [h2, f1], fun i j hi hj => ?_, fun j hj => ?_⟩
    · cases i with
      | zero =>
        rw [Nat.add_zero, h4 _ (by rw [Nat.add_mul]; omega), f2, if_pos (by omega)]
        simp
      | succ i =>
        have := h3 i j (by simpa using hi) hj
        rw [show k' + 1 + i = k' + (i + 1) from by omega] at this
        rw [this]; simp [List.getD_eq_getElem?_getD]
    · rw [h4 j (by rw [Nat.add_mul]; omega), f2, if_neg (by omega)]

omit [Laid P] in
theorem lit_spec {t : TypeId} {n sz : Nat} {ps : Array (Nat × Operand)} {vs : List AV} (h : litOK P (tyk P t) n (ps.toList.map fun q => (q.1, ρ q.2)) = some (sz, vs)) {g : Gh} {a : Act} {w : World} (hop : ∀ t, t ∈ ps.toList.map (·.2) → VR g (ρ t) (a.eval t)) :
    vs.length = n ∧ (∀ i, i < n → (vs.getD i .undef).cells.length = sz) ∧ ∃ (e : TypeId) (c : Array Value), (Instr.buildSlice t n (ps.map fun q => (q.1, a.eval q.2))).run P w = .ok (.slice (some ⟨w.heap.size, 0, none⟩) n n) (w.alloc (.cells c e)) ∧ c.size = n * sz ∧
      (∀ j (hj : j < c.size), c[j].oneCell' = true) ∧ ∀ i j, i < n → j < sz → VR g ((vs.getD i .undef).cells.getD j .undef) (c.getD (i * sz + j) undef) := by
  unfold litOK at h
  split at h
  · rename_i el ag sz' by' e1
    obtain ⟨d, hd, rfl, hs, _⟩ := tyk_spec e1
    split at h
    · rename_i hc
      obtain ⟨hzer, hl, hord, hmax, hpos, hall⟩ := hc
      simp only [Option.some.injEq, Prod.mk.injEq] at h
      obtain ⟨rfl, rfl⟩ := h
      simp only [List.length_map, Array.length_toList] at hl
      have hall' : ∀ j, j < n → ((ρ (ps.getD j (0, .const .nilFunc)).2).cells.all AV.one = true) ∧ (ρ (ps.getD j (0, .const .nilFunc)).2).cells.length = sz' := by
        intro j hj
        have hj' : j < ps.size := by omega
        have := List.all_eq_true.1 hall (ps[j].1, ρ ps[j].2) (List.mem_map.2 ⟨ps[j], by simp, rfl⟩)
        simpa [hj'] using this
      have hord' : ∀ j, j < n → (ps.getD j (0, .const .nilFunc)).1 = j := by
        have key : ∀ (l : List (Nat × AV)) (k : Nat), inOrder k l = true → ∀ j (h : j < l.length), l[j].1 = k + j := by
          intro l
          induction l with
          | nil => intro k _ j h; simp at h
          | cons q l ih =>
            intro k hk j h
            simp only [inOrder, Bool.and_eq_true, beq_iff_eq] at hk
            cases j with
            | zero => simpa using hk.1
            | succ j => have := ih (k + 1) hk.2 j (by simpa using h); simp only [List.getElem_cons_succ]; omega
        intro j hj
        have := key _ 0 hord j (by simpa using (by omega : j < ps.size))
        have hj' : j < ps.size := by omega
        simpa [hj'] using this
      have hvr : ∀ j, j < n → VR g (ρ (ps.getD j (0, .const .nilFunc)).2) (a.eval (ps.getD j (0, .const .nilFunc)).2) := by
        intro j hj
        have hj' : j < ps.size := by omega
        exact hop _ (List.mem_map.2 ⟨ps.getD j (0, .const .nilFunc), by simp [hj'], rfl⟩)
      have hgetv : ∀ i, i < n → ((ps.toList.map fun q => (q.1, ρ q.2)).map (·.2)).getD i .undef = ρ (ps.getD i (0, .const .nilFunc)).2 := by
        intro i hi
        have hi' : i < ps.size := by omega
        simp [List.getD_eq_getElem?_getD, hi']
      refine ⟨by simpa using hl, fun i hi => by rw [hgetv i hi]; exact (hall' i hi).2, el, ?_⟩
      obtain ⟨_, inf, hdu, hinf, _, hsz⟩ := shp_spec hs
      -- the zero row
      have hlt : ¬ n * sz' > 2 ^ 24 := by simpa using hmax
      have hgetq : ∀ i, i < n → (ps.map fun q => (q.1, a.eval q.2)).toList.getD i (0, undef) = (i, a.eval (ps.getD i (0, .const .nilFunc)).2) := by
        intro i hi
        have hi' : i < ps.size := by omega
        have := hord' i hi
        simp only [hi', Array.getD_eq_getD_getElem?, Array.getElem?_eq_getElem, Option.getD_some] at this ⊢
        simp [List.getD_eq_getElem?_getD, hi', this]
      have hfill : ∀ c0 : Array Value, c0.size = n * sz' → ∃ c', Instr.fill (fun i => some (i * sz', sz')) c0 (ps.map fun q => (q.1, a.eval q.2)).toList = some c' ∧ c'.size = n * sz' ∧ ∀ i j, i < n → j < sz' → c'.getD (i * sz' + j) undef = (a.eval (ps.getD i (0, .const .nilFunc)).2).cells.getD j undef := by
        intro c0 hc0
        have := row_fill (sz := sz') (ps.map fun q => (q.1, a.eval q.2)).toList 0 c0 (fun j hj => by
          have hj' : j < n := by simpa [hl] using hj
          have h1 := hgetq j hj'
          rw [List.getD_eq_getElem?_getD, List.getElem?_eq_getElem hj, Option.getD_some] at h1
          rw [h1]
          refine ⟨by simp, ?_⟩
          have := ((hvr j hj').cells (AV.one_known (hall' j hj').1)).1
          rw [(hall' j hj').2] at this; exact this) (by simp [hl, hc0])
        obtain ⟨c', h1, h2, h3, _⟩ := this
        refine ⟨c', h1, by rw [h2, hc0], fun i j hi hj => ?_⟩
        have := h3 i j (by simpa [hl] using hi) hj
        rw [Nat.zero_add, hgetq i hi] at this
        exact this
      -- the run, at whatever zero
      have hrun : ∃ c, (Instr.buildSlice t n (ps.map fun q => (q.1, a.eval q.2))).run P w = .ok (.slice (some ⟨w.heap.size, 0, none⟩) n n) (w.alloc (.cells c el)) ∧ c.size = n * sz' ∧ ∀ i j, i < n → j < sz' → c.getD (i * sz' + j) undef = (a.eval (ps.getD i (0, .const .nilFunc)).2).cells.getD j undef := by
        by_cases h0 : n * sz' = 0
        · obtain ⟨c', h1, h2, h3⟩ := hfill #[] (by simp [h0])
          refine ⟨c', ?_, h2, h3⟩
          have hn0 : n = 0 := by
            rcases Nat.mul_eq_zero.1 h0 with h | h
            · exact h
            · omega
          subst hn0
          simp only [Nat.zero_mul] at hlt
          simp [Instr.buildSlice, run_underlying' hd, run_sizeOf hs, newRow]
          have hps : ps = #[] := by simpa using hl
          subst hps
          simp only [Instr.fill, List.map_toArray, List.map_nil, Option.some.injEq] at h1 ⊢
          simp [Instr.fill, ← h1, show Array.range 0 = #[] from rfl]
        · cases hz : inf.zero with
          | none => simp [zer, hinf, hz] at hzer
          | some zv =>
            obtain ⟨c', h1, h2, h3⟩ := hfill ((Array.range (n * sz')).map (zv.cells[· % zv.cells.size]!)) (by simp)
            refine ⟨c', ?_, h2, h3⟩
            simp only [Instr.buildSlice, Sem.run_bind, run_underlying' hd, Result.andThen_ok, run_sizeOf hs, hlt, if_false, h0, zeroValue, typeInfo, run_program, hinf, Sem.run_pure, hz, h1, newRow, run_newObj, World.alloc_eq]
      obtain ⟨c, hc1, hc2, hc3⟩ := hrun
      refine ⟨c, hc1, hc2, fun j hj => ?_, fun i j hi hj => ?_⟩
      · have hq : j / sz' < n := by rw [Nat.div_lt_iff_lt_mul hpos]; omega
        have hr : j % sz' < sz' := Nat.mod_lt _ hpos
        have := hc3 (j / sz') (j % sz') hq hr
        rw [Nat.div_add_mod' j sz'] at this
        have hone := (hvr _ hq).ones (hall' _ hq).1
        have hsz2 := ((hvr _ hq).cells (AV.one_known (hall' _ hq).1)).1
        rw [(hall' _ hq).2] at hsz2
        generalize (a.eval (ps.getD (j / sz') (0, .const .nilFunc)).2).cells = A at *
        have hlt2 : j % sz' < A.size := by omega
        simp only [Array.getD_eq_getD_getElem?, Array.getElem?_eq_getElem hj, Array.getElem?_eq_getElem hlt2, Option.getD_some] at this
        rw [this]
        exact hone _ (by simp)
      · rw [hgetv i hi, hc3 i j hi hj]
        exact ((hvr i hi).cells (AV.one_known (hall' i hi).1)).2 j (by rw [(hall' i hi).2]; exact hj)
    · cases h
  · cases h
end
end Go.Ab

/- What single operations do: slices written out, append, new maps; a row that is fixed for good. -/
namespace Go.Ab
section
variable {P : Program} [Laid P] {o : Oper} {ρ : Operand → AV} {sp : Oid → Prop}

theorem ops_parts {t : TypeId} {n : Nat} {ps : Array (Nat × Operand)} (ho : o.op = .buildSlice t n ps) {x : Operand} (hx : x ∈ ps.toList.map (·.2)) : x ∈ o.op.operands.toList := by
  rw [ho]; simpa [Op.operands] using hx

theorem eff_litList {t : TypeId} {n sz : Nat} {ps : Array (Nat × Operand)} {vs : List AV} (ho : o.op = .buildSlice t n ps) (h : litOK P (tyk P t) n (ps.toList.map fun q => (q.1, ρ q.2)) = some (sz, vs)) : EffOK P o ρ sp ⟨[], .list sz vs, []⟩ := by
  refine EffOK.of fun x g a w m hm _ hop _ => ?_
  obtain ⟨h1, h2, e, c, h3, h4, h5, h6⟩ := lit_spec h (g := g) (a := a) (w := w) (fun t ht => hop t (ops_parts ho ht))
  obtain ⟨hm', hle⟩ := hm.newFix c e h5
  refine ⟨g.fix w.heap.size c, .value (.slice (some ⟨w.heap.size, 0, none⟩) n n), _, w.alloc (.cells c e), by simp [execOp, ho, h3], .inl rfl, hle, fun _ _ => rfl, ?_, hm'⟩
  subst h1
  refine .list sz vs _ _ _ (fun i j => c.getD (i * sz + j) undef) (Nat.le_refl _) h2 (fun i j hi hj => ?_) (fun i j hi hj => (h6 i j hi hj).mono hle)
  have : i * sz + j < c.size := by
    have := Nat.mul_le_mul_right sz (Nat.succ_le_of_lt hi)
    rw [Nat.succ_mul] at this; omega
  simp [Gh.fix, this]

theorem eff_litArr {t : TypeId} {n sz : Nat} {ps : Array (Nat × Operand)} {vs : List AV} {nid : Oid} (ho : o.op = .buildSlice t n ps) (hs : sp nid) (hnt : nid.tyd = none) (h : litOK P (tyk P t) n (ps.toList.map fun q => (q.1, ρ q.2)) = some (sz, vs)) :
    EffOK P o ρ sp ⟨[], .sl nid sz n, [(nid, some (.arr sz vs))]⟩ := by
  refine EffOK.of fun x g a w m hm _ hop hsp => ?_
  obtain ⟨h1, h2, e, c, h3, h4, h5, h6⟩ := lit_spec h (g := g) (a := a) (w := w) (fun t ht => hop t (ops_parts ho ht))
  obtain ⟨hl, hu⟩ := hsp nid hs
  subst h1
  have hnew := hm.new (o := .arr sz vs) (ob := .cells c e) hl hu ⟨c, e, (0, 0), heap_new w _, by omega, fun j _ h => by omega, h2, fun j hj => by
    have hj' : j < c.size := by omega
    have := h5 j hj'
    simpa [hj'] using this, fun i j hi hj => (h6 i j hi hj).mono (Gh.le_bind hl)⟩ (fun t' ht => by rw [hnt] at ht; cases ht)
  have hrow : (g.bind nid w.heap.size).row w.heap.size = none := hm.row_new (Nat.le_refl _)
  refine ⟨(g.bind nid w.heap.size).measure w.heap.size (vs.length * sz), .value (.slice (some ⟨w.heap.size, 0, none⟩) vs.length vs.length), _, w.alloc (.cells c e), by simp [execOp, ho, h3], .inl rfl,
    Gh.le_trans (Gh.le_bind hl) (Gh.le_measure (.inl hrow)), fun j hj => ?_, .sl _ _ _ _ _ (by simp [Gh.bind, Gh.measure]) (Nat.le_refl _) (by simp [Gh.measure]), hnew.measure ⟨c, e, (0, 0), heap_new w _, h4⟩ (.inl hrow)⟩
  simp only [Gh.bind, Gh.measure]; rw [if_neg (fun e => hj (by rw [e]; exact hs))]

/-! ### append -/
def srcA (m : Mem) (sz : Nat) : AV → Option (List (Oid × AObj) × List AV)
  | .nilSl => some ([], [])
  | .list sz' ys => if sz' = sz then some ([], ys) else none
  | .sl id sz' n => match m id with
    | some (.arr s ys) => if sz' = sz ∧ s = sz ∧ n ≤ ys.length then some ([(id, .arr s ys)], ys.take n) else none
    | _ => none
  | .str s => if sz = 1 then some ([], s.map fun b => .int .u8 b.toNat) else none
  | _ => none

theorem srcA_need {m : Mem} {sz : Nat} {x : AV} {nd : List (Oid × AObj)} {ys : List AV} (h : srcA m sz x = some (nd, ys)) : ∀ q, q ∈ nd → m q.1 = some q.2 := by
  unfold srcA at h
  split at h
  · simp only [Option.some.injEq, Prod.mk.injEq] at h; obtain ⟨rfl, rfl⟩ := h; intro q hq; cases hq
  · split at h
    · simp only [Option.some.injEq, Prod.mk.injEq] at h; obtain ⟨rfl, rfl⟩ := h; intro q hq; cases hq
    · cases h
  · split at h
    · rename_i hm
      split at h
      · simp only [Option.some.injEq, Prod.mk.injEq] at h; obtain ⟨rfl, rfl⟩ := h
        intro q hq; simp only [List.mem_singleton] at hq; subst hq; exact hm
      · cases h
    · cases h
  · split at h
    · simp only [Option.some.injEq, Prod.mk.injEq] at h; obtain ⟨rfl, rfl⟩ := h; intro q hq; cases hq
    · cases h
  · cases h

omit [Laid P] in
theorem srcA_spec {x : Ctx} {g : Gh} {m m0 : Mem} {w : World} (hm : MemRel x g m w) {sz : Nat} {v : AV} {u : Value} (hv : VR g v u) {nd : List (Oid × AObj)} {ys : List AV} (h : srcA m0 sz v = some (nd, ys)) (hn : ∀ q, q ∈ nd → m q.1 = some q.2) :
    (∀ i, i < ys.length → (ys.getD i .undef).cells.length = sz) ∧ ∃ news : Array Value, news.size = ys.length * sz ∧ (∀ j (hj : j < news.size), news[j].oneCell' = true) ∧
      (∀ i j, i < ys.length → j < sz → VR g ((ys.getD i .undef).cells.getD j .undef) (news.getD (i * sz + j) undef)) ∧
      (∀ k, (Builtin.lenOf u).run P { w with drawn := k } = .ok ys.length { w with drawn := k }) ∧ ∀ k, (Builtin.firstCells sz ys.length u).run P { w with drawn := k } = .ok news { w with drawn := k } := by
  have fromCells : ∀ (b off : Nat) (n : Nat) (f : Nat → Value), (∀ j, j < n → w.cell? ⟨b, off + j, none⟩ = some (f j)) → ∀ k, (loadCells ⟨b, off, none⟩ n).run P { w with drawn := k } = .ok ((List.range n).map f).toArray { w with drawn := k } := by
    intro b off n f hf k
    exact run_loadCells (P := P) { w with drawn := k } ⟨b, off, none⟩ n f (fun j hj => by rw [addr_add]; exact hf j hj)
  unfold srcA at h
  split at h
  · simp only [Option.some.injEq, Prod.mk.injEq] at h; obtain ⟨rfl, rfl⟩ := h
    rw [hv.nilSl_inv]
    exact ⟨fun i hi => absurd hi (Nat.not_lt_zero _), #[], by simp, fun j hj => absurd hj (Nat.not_lt_zero _), fun i j hi => absurd hi (Nat.not_lt_zero _), fun k => by simp [Builtin.lenOf], fun k => by simp [Builtin.firstCells]⟩
  · rename_i sz' ys'
    split at h
    · rename_i e; subst e
      simp only [Option.some.injEq, Prod.mk.injEq] at h; obtain ⟨rfl, rfl⟩ := h
      rcases hv.list_inv with ⟨rfl, hu | ⟨a0, cap, hu⟩⟩ | ⟨b, off, cap, cs, hu, hcap, hl, h1, h2⟩
      rotate_left
      · rw [hu]
        exact ⟨fun i hi => absurd hi (Nat.not_lt_zero _), #[], by simp, fun j hj => absurd hj (Nat.not_lt_zero _), fun i j hi => absurd hi (Nat.not_lt_zero _), fun k => by simp [Builtin.lenOf], fun k => by
          simp only [Builtin.firstCells]
          simpa using run_loadCells (P := P) { w with drawn := k } a0 0 (fun _ => undef) (fun j hj => absurd hj (Nat.not_lt_zero _))⟩
      rotate_left
      · rw [hu]
        exact ⟨fun i hi => absurd hi (Nat.not_lt_zero _), #[], by simp, fun j hj => absurd hj (Nat.not_lt_zero _), fun i j hi => absurd hi (Nat.not_lt_zero _), fun k => by simp [Builtin.lenOf], fun k => by simp [Builtin.firstCells]⟩
      rw [hu]
      have hpos : ∀ j, j < ys'.length * sz' → 0 < sz' := fun j hj => by
        rcases Nat.eq_zero_or_pos sz' with h | h
        · rw [h] at hj; simp at hj
        · exact h
      have hcell : ∀ j, j < ys'.length * sz' → g.com b (off + j) = some (cs (j / sz') (j % sz')) := fun j hj => by
        have hp := hpos j hj
        have := h1 (j / sz') (j % sz') (by rw [Nat.div_lt_iff_lt_mul hp]; exact hj) (Nat.mod_lt _ hp)
        rwa [Nat.add_assoc, Nat.div_add_mod' j sz'] at this
      refine ⟨hl, ((List.range (ys'.length * sz')).map fun j => cs (j / sz') (j % sz')).toArray, by simp, fun j hj => ?_, fun i j hi hj => ?_, fun k => by simp [Builtin.lenOf], fun k => ?_⟩
      · have hj' : j < ys'.length * sz' := by simpa using hj
        simpa using hm.one _ _ _ (hcell j hj')
      · have hlt : i * sz' + j < ys'.length * sz' := by
          have := Nat.mul_le_mul_right sz' (Nat.succ_le_of_lt hi)
          rw [Nat.succ_mul] at this; omega
        have e1 : (i * sz' + j) / sz' = i := by rw [Nat.mul_comm, Nat.mul_add_div (by omega), Nat.div_eq_of_lt hj, Nat.add_zero]
        have e2 : (i * sz' + j) % sz' = j := by rw [Nat.mul_comm, Nat.mul_add_mod, Nat.mod_eq_of_lt hj]
        have := h2 i j hi hj
        simpa [hlt, e1, e2] using this
      · simp only [Builtin.firstCells]
        exact fromCells b off _ _ (fun j hj => hm.com _ _ _ (hcell j hj)) k
    · cases h
  · rename_i id sz' n
    split at h
    · rename_i s ys' hmid
      split at h
      · rename_i hc
        obtain ⟨rfl, rfl, hle⟩ := hc
        simp only [Option.some.injEq, Prod.mk.injEq] at h; obtain ⟨rfl, rfl⟩ := h
        rcases hv.sl_inv' with ⟨rfl, hu, _⟩ | ⟨b, cap, hu, hb, hcap, _⟩
        · rw [hu]
          exact ⟨fun i hi => absurd hi (by simp), #[], by simp, fun j hj => absurd hj (Nat.not_lt_zero _), fun i j hi => absurd hi (by simp), fun k => by simp [Builtin.lenOf], fun k => by simp [Builtin.firstCells]⟩
        obtain ⟨b', g1, g2, g3, g4⟩ := hm.objL (hn (id, .arr s ys') (by simp)) hb
        rw [hb] at g1; simp only [Option.some.injEq] at g1; subst g1
        obtain ⟨c, t, fz, c1, c2, c3, c4, c6, c5⟩ := g4
        rw [hu]
        have hlen : (ys'.take n).length = n := by simp; omega
        have hmul : n * s ≤ ys'.length * s := Nat.mul_le_mul_right s hle
        rw [hlen]
        refine ⟨fun i hi => by rw [getD_take _ _ _ _ hi]; exact c4 i (by omega), ((List.range (n * s)).map fun j => c.getD j undef).toArray, by simp, fun j hj => ?_, fun i j hi hj => ?_, fun k => by simp [Builtin.lenOf], fun k => ?_⟩
        · have hj' : j < n * s := by simpa using hj
          simpa using c6 j (by omega)
        · have hlt : i * s + j < n * s := by
            have := Nat.mul_le_mul_right s (Nat.succ_le_of_lt hi)
            rw [Nat.succ_mul] at this; omega
          rw [getD_take _ _ _ _ hi]
          have := c5 i j (by omega) hj
          simpa [hlt] using this
        · simp only [Builtin.firstCells]
          refine fromCells b 0 _ _ (fun j hj => ?_) k
          have hlt : j < c.size := by omega
          simp [World.cell?, c1, hlt]
      · cases h
    · cases h
  · rename_i s
    split at h
    · rename_i e; subst e
      simp only [Option.some.injEq, Prod.mk.injEq] at h; obtain ⟨rfl, rfl⟩ := h
      obtain ⟨b, hu, hb⟩ := hv.str_inv
      rw [hu]; subst hb
      have hsz : b.size = b.data.toList.length := by simp
      refine ⟨fun i hi => ?_, b.data.map fun x => .int .u8 x.toNat, by simp, fun j hj => by simp [Value.oneCell'], fun i j hi hj => ?_, fun k => by simp [Builtin.lenOf], fun k => ?_⟩
      · simp only [List.length_map] at hi
        simp only [List.getD_eq_getElem?_getD, List.getElem?_map, List.getElem?_eq_getElem hi, Option.map_some, Option.getD_some]; rfl
      · simp only [List.length_map] at hi
        have hj0 : j = 0 := by omega
        subst hj0
        have hi' : i < b.data.size := by simpa using hi
        simp only [List.getD_eq_getElem?_getD, List.getElem?_map, List.getElem?_eq_getElem hi, Option.map_some, Option.getD_some, Nat.mul_one, Nat.add_zero, Array.getD_eq_getD_getElem?, Array.getElem?_map, Array.getElem?_eq_getElem hi', Array.getElem_toList]
        exact .int _ _
      · simp only [Builtin.firstCells, List.length_map, Sem.run_pure]
        rw [← hsz]
        have : b.extract 0 b.size = b := by
          apply ByteArray.ext; rw [ByteArray.data_extract]; simp
        rw [this]
    · cases h
  · cases h
end
end Go.Ab

/- append; new maps; a row that is fixed for good. -/
namespace Go.Ab
section
variable {x : Ctx} {g : Gh} {m : Mem} {w : World}

/-- An object under a new name. -/
theorem MemRel.rename (h : MemRel x g m w) {i j : Oid} {o : AObj} {b : Nat} (hi : m i = some o) (hb : g.loc i = some (some b)) (hj : g.loc j = none) (hu : Oid.under x.p j) (hty : ∀ t, j.tyd = some t → i.tyd = some t) :
    MemRel x (g.bind j b) ((m.set i none).set j (some o)) w := by
  have hle : g.le (g.bind j b) := Gh.le_bind hj
  have hij : i ≠ j := fun e => by rw [e, hj] at hb; cases hb
  obtain ⟨b0, g1, g2, g3, g4⟩ := h.objL hi hb
  rw [hb] at g1; simp only [Option.some.injEq] at g1; subst g1
  have key : ∀ k o', ((m.set i none).set j (some o)) k = some o' → k ≠ j → m k = some o' ∧ k ≠ i := fun k o' hk e => by
    simp only [Mem.set, e, if_false] at hk
    split at hk
    · cases hk
    · exact ⟨hk, ‹_›⟩
  refine ⟨Gh.le_trans h.le hle, fun k hk => ?_, fun k hk => hle.1 _ _ (h.glob k hk), h.coms, fun k o' hk => ?_, fun k k' o1 o2 c h1 h2 h3 h4 => ?_, h.com, h.one, h.rows, h.os, h.tape, h.output, h.size, h.kept, fun t q c hc => ?_⟩
  · simp only [Gh.bind]; rw [if_neg (fun e => hk (by rw [e]; exact hu))]; exact h.locs k hk
  · by_cases e : k = j
    · subst e
      simp only [Mem.set, if_true, Option.some.injEq] at hk
      subst hk
      exact .inr ⟨b, by simp [Gh.bind], g2, g3, g4.mono hle⟩
    · obtain ⟨k1, k2⟩ := key k o' hk e
      rcases h.obj0 k o' k1 with ⟨v1, v2⟩ | ⟨c, c1, c2, c3, c4⟩
      · exact .inl ⟨v1, hle.1 _ _ v2⟩
      · exact .inr ⟨c, hle.1 _ _ c1, c2, c3, c4.mono hle⟩
  · simp only [Gh.bind] at h3 h4
    by_cases e1 : k = j <;> by_cases e2 : k' = j
    · rw [e1, e2]
    · obtain ⟨m2, n2⟩ := key k' o2 h2 e2
      rw [if_pos e1] at h3; rw [if_neg e2] at h4
      simp only [Option.some.injEq] at h3; subst h3
      exact absurd (h.inj k' i o2 o b m2 hi h4 hb) n2
    · obtain ⟨m1, n1⟩ := key k o1 h1 e1
      rw [if_neg e1] at h3; rw [if_pos e2] at h4
      simp only [Option.some.injEq] at h4; subst h4
      exact absurd (h.inj k i o1 o b m1 hi h3 hb) n1
    · rw [if_neg e1] at h3; rw [if_neg e2] at h4
      exact h.inj k k' o1 o2 c (key k o1 h1 e1).1 (key k' o2 h2 e2).1 h3 h4
  · simp only [Gh.bind] at hc
    split at hc
    · rename_i e
      simp only [Option.some.injEq] at hc; subst hc
      have h1 := hty t (by rw [← e]; rfl)
      cases i with
      | ty t' q' =>
        have h2 : t' = t := by simpa [Oid.tyd] using h1
        subst h2; exact h.typs _ _ _ hb
      | _ => cases h1
    · exact h.typs t q c hc

/-- A row without elements that lies nowhere, under a new name. -/
def Gh.nowhere (g : Gh) (i : Oid) : Gh := { g with loc := fun j => if j = i then some none else g.loc j }
theorem Gh.le_nowhere {g : Gh} {i : Oid} (h : g.loc i = none) : g.le (g.nowhere i) :=
  ⟨fun j b hj => by simp only [Gh.nowhere]; rw [if_neg (fun e => by rw [e, h] at hj; cases hj)]; exact hj, fun _ _ _ h => h, fun _ _ h => h⟩
theorem MemRel.newVoid (h : MemRel x g m w) {j : Oid} (sz : Nat) (hj : g.loc j = none) (hu : Oid.under x.p j) : MemRel x (g.nowhere j) (m.set j (some (.arr sz []))) w := by
  have hle : g.le (g.nowhere j) := Gh.le_nowhere hj
  refine ⟨Gh.le_trans h.le hle, fun k hk => ?_, fun k hk => hle.1 _ _ (h.glob k hk), h.coms, fun k o' hk => ?_, fun k k' o1 o2 c h1 h2 h3 h4 => ?_, h.com, h.one, h.rows, h.os, h.tape, h.output, h.size, h.kept, fun t q c hc => ?_⟩
  · simp only [Gh.nowhere]; rw [if_neg (fun e => hk (by rw [e]; exact hu))]; exact h.locs k hk
  · by_cases e : k = j
    · subst e
      simp only [Mem.set, if_true, Option.some.injEq] at hk
      subst hk
      exact .inl ⟨rfl, by simp [Gh.nowhere]⟩
    · simp only [Mem.set, e, if_false] at hk
      rcases h.obj0 k o' hk with ⟨v1, v2⟩ | ⟨c, c1, c2, c3, c4⟩
      · exact .inl ⟨v1, hle.1 _ _ v2⟩
      · exact .inr ⟨c, hle.1 _ _ c1, c2, c3, c4.mono hle⟩
  · simp only [Gh.nowhere] at h3 h4
    by_cases e1 : k = j
    · rw [if_pos e1] at h3; cases h3
    · by_cases e2 : k' = j
      · rw [if_pos e2] at h4; cases h4
      · rw [if_neg e1] at h3; rw [if_neg e2] at h4
        simp only [Mem.set, e1, if_false] at h1
        simp only [Mem.set, e2, if_false] at h2
        exact h.inj k k' o1 o2 c h1 h2 h3 h4
  · simp only [Gh.nowhere] at hc
    split at hc
    · cases hc
    · exact h.typs t q c hc

/-- A row is fixed for good: it is no object any more. -/
theorem MemRel.freeze (h : MemRel x g m w) {i : Oid} {sz : Nat} {xs : List AV} (hi : m i = some (.arr sz xs)) : ∃ g', g.le g' ∧ (∀ k, g'.loc k = g.loc k) ∧ MemRel x g' (m.set i none) w ∧
    ∀ n u, VR g (.sl i sz n) u → n ≤ xs.length → VR g' (.list sz (xs.take n)) u := by
  rcases h.obj0 i _ hi with ⟨v1, v2⟩ | ⟨b, g1, g2, g3, g4⟩
  · refine ⟨g, Gh.le_refl g, fun _ => rfl, h.drop (fun k o hk => by simp only [Mem.set] at hk; split at hk; cases hk; exact hk), fun n u hu hn => ?_⟩
    have hx : xs = [] := by cases xs with
      | nil => rfl
      | cons _ _ => cases v1
    subst hx
    rcases hu.sl_inv' with ⟨rfl, hu', _⟩ | ⟨b, cap, _, hb, _⟩
    · rw [hu']; exact .listNil sz
    · rw [v2] at hb; cases hb
  obtain ⟨c, t, fz, c1, c2, c3, c4, c6, c5⟩ := g4
  have hle : g.le (g.fix b (c.extract 0 (xs.length * sz))) := Gh.le_fix g2
  have hget : ∀ k v, (c.extract 0 (xs.length * sz))[k]? = some v → c[k]? = some v ∧ k < xs.length * sz := fun k v hk => by
    rw [Array.getElem?_extract] at hk
    split at hk
    · rename_i hlt
      have : k < xs.length * sz := by omega
      exact ⟨by simpa using hk, this⟩
    · cases hk
  have hgot : ∀ k, k < xs.length * sz → (c.extract 0 (xs.length * sz))[k]? = some (c.getD k undef) := fun k hk => by
    have hkc : k < c.size := by omega
    rw [Array.getElem?_extract]
    rw [if_pos (by omega)]
    simp [hkc]
  refine ⟨g.fix b (c.extract 0 (xs.length * sz)), hle, fun _ => rfl, ⟨Gh.le_trans h.le hle, h.locs, h.glob, fun b' k v hv => ?_, fun j o' hj => ?_, fun j j' o1 o2 b' h1 h2 h3 h4 => ?_, fun b' k v hv => ?_, fun b' k v hv => ?_, h.rows, h.os, h.tape, h.output, h.size, h.kept, h.typs⟩, fun n u hu hn => ?_⟩
  · simp only [Gh.fix] at hv
    split at hv
    · rename_i e; subst e; exact .inr g3
    · exact h.coms b' k v hv
  · simp only [Mem.set] at hj
    split at hj
    · cases hj
    · rename_i hne
      rcases h.obj0 j o' hj with hv | ⟨b', k1, k2, k3, k4⟩
      · exact .inl hv
      refine .inr ⟨b', k1, fun k => ?_, k3, k4.mono hle⟩
      simp only [Gh.fix]
      rw [if_neg (fun e => hne (by subst e; exact h.inj j i o' _ b' hj hi k1 g1))]
      exact k2 k
  · simp only [Mem.set] at h1 h2
    split at h1
    · cases h1
    · split at h2
      · cases h2
      · exact h.inj j j' o1 o2 b' h1 h2 h3 h4
  · simp only [Gh.fix] at hv
    split at hv
    · rename_i e; subst e
      obtain ⟨k1, k2⟩ := hget k v hv
      simp [World.cell?, c1, k1]
    · exact h.com b' k v hv
  · simp only [Gh.fix] at hv
    split at hv
    · obtain ⟨k1, k2⟩ := hget k v hv
      have := c6 k k2
      rw [Array.getD_eq_getD_getElem?, k1] at this
      exact this
    · exact h.one b' k v hv
  · obtain ⟨b', cap, rfl, e1, e2, e3⟩ := hu.sl_inv'.resolve_left (fun hv => by rw [g1] at hv; cases hv.2.2)
    rw [g1] at e1; simp only [Option.some.injEq] at e1; subst e1
    have hlen : (xs.take n).length = n := by simp; omega
    have := VR.list (g := g.fix b (c.extract 0 (xs.length * sz))) sz (xs.take n) b 0 cap (fun i j => c.getD (i * sz + j) undef) (by omega)
      (fun i hi => by rw [hlen] at hi; rw [getD_take _ _ _ _ hi]; exact c4 i (by omega))
      (fun i j hi hj => by
        rw [hlen] at hi
        have hlt : 0 + i * sz + j < xs.length * sz := by
          have h1 := Nat.mul_le_mul_right sz (Nat.succ_le_of_lt hi)
          have h2 := Nat.mul_le_mul_right sz hn
          rw [Nat.succ_mul] at h1; omega
        simp only [Gh.fix, if_true]
        rw [hgot _ hlt, Nat.zero_add])
      (fun i j hi hj => by rw [hlen] at hi; rw [getD_take _ _ _ _ hi]; exact (c5 i j (by omega) hj).mono hle)
    rwa [hlen] at this
end

section
variable {P : Program} [Laid P] {o : Oper} {ρ : Operand → AV} {sp : Oid → Prop}

/-! ### append -/
def zerOK (P : Program) (el : TypeId) (sz : Nat) : Bool := match zer P el with
  | some z => z.length == sz
  | none => false
def appA (P : Program) (m : Mem) (nid : Oid) (t : TypeId) (s x : AV) : OpR :=
  match tyk P t with
  | some (.slice el _ sz by') => match s, srcA m sz x with
    | .nilSl, some (nd, ys) =>
      if zerOK P el sz = true ∧ 0 < by' ∧ ys.length * by' ≤ 140737488355328 then .eff ⟨nd, .sl nid sz ys.length, [(nid, some (.arr sz ys))]⟩ else .no
    | .sl id sz' len, some (nd, ys) => match m id with
      | some (.arr s' xs) =>
        if zerOK P el sz = true ∧ sz' = sz ∧ s' = sz ∧ xs.length = len ∧ 0 < by' ∧ (len + ys.length) * by' ≤ 140737488355328 then
          .eff ⟨(id, .arr s' xs) :: nd, .sl nid sz (len + ys.length), [(id, none), (nid, some (.arr sz (xs ++ ys)))]⟩
        else .no
      | _ => .no
    | _, _ => .no
  | _ => .no

theorem getD_append_left {a b : Array Value} {j : Nat} (h : j < a.size) : (a ++ b).getD j undef = a.getD j undef := by simp [Array.getElem?_append, h]
theorem getD_append_right {a b : Array Value} {j : Nat} (h : a.size ≤ j) : (a ++ b).getD j undef = b.getD (j - a.size) undef := by simp [Array.getElem?_append, Nat.not_lt.2 h]
theorem cut_appendCap {need old : Nat} {el : TypeId} {t : Nat} (h : need < 2 ^ 63) : need ≤ (Question.appendCap need old el).cut t := by simp only [Question.cut]; omega
theorem i64max : IntKind.i64.max = 9223372036854775807 := by decide

section
variable {t u ty el : TypeId} {du : TypeDesc} {inf : TypeInfo} {ag : Bool} {sz : Nat} {zv : Value} {v : Value} {news old : Array Value} {n sLen sCap : Nat} {base : Option Addr} {w : World}
omit [Laid P] in
theorem run_append_grows (hd : P.underlying t = some (.slice el)) (hdu : P.underlying u = some du) (hdi : ∀ k, du ≠ .int k) (hsh : shp P el = some (ag, sz)) (hinf : P.info? el = some inf) (hzv : inf.zero = some zv)
    (hlen : (Builtin.lenOf v).run P w = .ok n w) (hnews : (Builtin.firstCells sz n v).run P w.drew = .ok news w.drew) (hold : (Builtin.firstCells sz sLen (.slice base sLen sCap)).run P w.drew = .ok old w.drew)
    (hgt : sCap < sLen + n) (hbp : 0 < inf.bytes) (hbd : (sLen + n) * inf.bytes ≤ 140737488355328) :
    (Builtin.append_ #[t, u] ty #[.slice base sLen sCap, v]).run P w = .ok (.slice (some ⟨w.heap.size, 0, none⟩) (sLen + n) ((Question.appendCap (sLen + n) sCap el).cut (w.tape w.drawn (.appendCap (sLen + n) sCap el))))
      (w.drew.alloc (.cells (old ++ news ++ Builtin.zeroCells zv.cells ((Question.appendCap (sLen + n) sCap el).cut (w.tape w.drawn (.appendCap (sLen + n) sCap el)) - (sLen + n))) el)) := by
  have h1 : ¬ (sLen + n ≤ sCap) := by omega
  have h2 : ¬ inf.bytes = 0 := by omega
  have h3 : ¬ (Builtin.nextslicecap (sLen + n) sCap * inf.bytes > 2 ^ 48) := by
    have := growslice_fits hgt hbd; omega
  have hmatch : (match du with | .int _ => true | _ => false) = false := by cases du <;> first | rfl | exact absurd rfl (hdi _)
  have h3' : ¬ (281474976710656 < Builtin.nextslicecap (sLen + n) sCap * inf.bytes) := by omega
  have hf : (Question.appendCap (sLen + n) sCap el).forced = false := rfl
  simp [Builtin.append_, run_underlying' hd, run_sizeOf hsh, run_underlying' hdu, hmatch, hlen, h1, typeInfo, hinf, h2, h3', hf, hold, hnews, zeroValue, hzv, newRow]
omit [Laid P] in
theorem run_append_room' (hd : P.underlying t = some (.slice el)) (hdu : P.underlying u = some du) (hdi : ∀ k, du ≠ .int k) (hsh : shp P el = some (ag, sz))
    (hlen : (Builtin.lenOf v).run P w = .ok n w) (hnews : (Builtin.firstCells sz n v).run P w = .ok news w) (hle : sLen + n ≤ sCap) {a : Addr} {w' : World} (hst : (storeCells (a.add (sLen * sz)) news.toList).run P w = .ok () w') :
    (Builtin.append_ #[t, u] ty #[.slice (some a) sLen sCap, v]).run P w = .ok (.slice (some a) (sLen + n) sCap) w' := by
  have hmatch : (match du with | .int _ => true | _ => false) = false := by cases du <;> first | rfl | exact absurd rfl (hdi _)
  simp [Builtin.append_, run_underlying' hd, run_sizeOf hsh, run_underlying' hdu, hmatch, hlen, hle, hnews, hst]
end

def srcOK : Option TyK → Bool
  | some (.slice ..) => true
  | some .str => true
  | _ => false
omit [Laid P] in
theorem append_to_nil {x : Ctx} {g : Gh} {m : Mem} {w : World} (hm : MemRel x g m w) {a : Act} {t u el : TypeId} {y z : Operand} {nid : Oid} {du : TypeDesc} {inf : TypeInfo} {ag : Bool} {sz : Nat} {zv : Value} {ys : List AV} {news : Array Value}
    (ho : o.op = .call ⟨.builtin .append, #[y, z], #[t, u]⟩) (hs : sp nid) (hd : P.underlying t = some (.slice el)) (hdu : P.underlying u = some du) (hdi : ∀ k, du ≠ .int k) (hsh : shp P el = some (ag, sz)) (hinf : P.info? el = some inf) (hzv : inf.zero = some zv) (hzc : zv.cells.size = sz)
    (hbp : 0 < inf.bytes) (hbd : ys.length * inf.bytes ≤ 140737488355328) (hyu : a.eval y = .slice none 0 0)
    (n0 : ∀ i, i < ys.length → (ys.getD i .undef).cells.length = sz) (n1 : news.size = ys.length * sz) (n2 : ∀ j (hj : j < news.size), news[j].oneCell' = true)
    (n3 : ∀ i j, i < ys.length → j < sz → VR g ((ys.getD i .undef).cells.getD j .undef) (news.getD (i * sz + j) undef))
    (n4 : ∀ k, (Builtin.lenOf (a.eval z)).run P { w with drawn := k } = .ok ys.length { w with drawn := k }) (n5 : ∀ k, (Builtin.firstCells sz ys.length (a.eval z)).run P { w with drawn := k } = .ok news { w with drawn := k })
    (hl : g.loc nid = none) (hup : Oid.under x.p nid) (hnt : ∀ t', nid.tyd = some t' → t' = el) :
    ∃ g' nx v w', (execOp a.eval o).run P w = .ok nx w' ∧ (nx = .value v ∨ nx = .skip ∧ v = undef) ∧ g.le g' ∧ (∀ i, ¬ sp i → g'.loc i = g.loc i) ∧ VR g' (.sl nid sz ys.length) v ∧ MemRel x g' (m.set nid (some (.arr sz ys))) w' := by
  have hmatch : (match du with | .int _ => true | _ => false) = false := by cases du <;> first | rfl | exact absurd rfl (hdi _)
  cases ys with
  | nil =>
    refine ⟨g.nowhere nid, .value (.slice none 0 0), _, w, run_builtin ho ?_, .inl rfl, Gh.le_nowhere hl, fun j hj => ?_, .slNil _ _ (by simp [Gh.nowhere]), hm.newVoid sz hl hup⟩
    · have k4 := n4 w.drawn; have k5 := n5 w.drawn
      simp only [List.length_nil] at k4 k5
      simp [builtin, Builtin.append_, run_underlying' hd, hyu, run_sizeOf hsh, run_underlying' hdu, hmatch, k4, k5]
    · simp only [Gh.nowhere]; rw [if_neg (fun e => hj (by rw [e]; exact hs))]
  | cons v vs =>
    simp only [List.length_cons] at n0 n1 n3 n4 n5 hbd ⊢
    generalize hn : vs.length + 1 = n at *
    have hn0 : n ≠ 0 := by omega
    have hnb : n ≤ 140737488355328 := Nat.le_trans (Nat.le_mul_of_pos_right n hbp) hbd
    have hrun := run_append_grows (P := P) (ty := o.type) (sLen := 0) (sCap := 0) (base := none) (old := #[]) hd hdu hdi hsh hinf hzv (n4 w.drawn) (n5 (w.drawn + 1)) (by simp [Builtin.firstCells]) (by omega) hbp (by simpa using hbd)
    have hcap := cut_appendCap (need := 0 + n) (old := 0) (el := el) (t := w.tape w.drawn (.appendCap (0 + n) 0 el)) (by omega)
    generalize (Question.appendCap (0 + n) 0 el).cut (w.tape w.drawn (.appendCap (0 + n) 0 el)) = C at hcap hrun
    rw [Nat.zero_add] at hcap hrun
    generalize hR : (#[] ++ news ++ Builtin.zeroCells zv.cells (C - n)) = row at hrun
    have hrow : row.size = C * sz := by
      rw [← hR]
      simp only [Array.size_append, n1, Builtin.zeroCells, Array.size_map, Array.size_range, hzc]
      rw [show (#[] : Array Value).size = 0 from rfl, Nat.zero_add, ← Nat.add_mul]; congr 1; omega
    have hrg : ∀ j, j < news.size → row.getD j undef = news.getD j undef := fun j hj => by
      rw [← hR, getD_append_left (by simpa using hj)]; simp
    have hmd : MemRel x g m w.drew := hm.drew _ (Nat.le_succ _)
    have hnew := hmd.new (o := .arr sz (v :: vs)) (ob := .cells row el) hl hup ⟨row, el, (0, 0), heap_new _ _, by
        rw [hrow, List.length_cons, hn]; exact Nat.mul_le_mul_right sz (by omega), fun j _ h => by omega, by simpa [hn] using n0, fun j hj => by
        rw [List.length_cons, hn] at hj
        have hj' : j < news.size := by omega
        rw [hrg j hj']
        have := n2 j hj'
        simpa [hj'] using this, fun i j hi hj => by
        rw [List.length_cons, hn] at hi
        have hj' : i * sz + j < news.size := by
          have := Nat.mul_le_mul_right sz (Nat.succ_le_of_lt hi)
          rw [Nat.succ_mul] at this; omega
        rw [hrg _ hj']
        exact (n3 i j hi hj).mono (Gh.le_bind hl)⟩ (fun t' ht => by rw [hnt t' ht]; exact ⟨_, _, rfl⟩)
    have hrn : (g.bind nid w.drew.heap.size).row w.drew.heap.size = none := hmd.row_new (Nat.le_refl _)
    refine ⟨(g.bind nid w.drew.heap.size).measure w.drew.heap.size (C * sz), .value (.slice (some ⟨w.heap.size, 0, none⟩) n C), _, w.drew.alloc (.cells row el), run_builtin ho ?_, .inl rfl, Gh.le_trans (Gh.le_bind hl) (Gh.le_measure (.inl hrn)), fun j hj => ?_, ?_, hnew.measure ⟨row, el, (0, 0), heap_new _ _, hrow⟩ (.inl hrn)⟩
    · simp [builtin, hyu, hrun]
    · simp only [Gh.bind, Gh.measure]; rw [if_neg (fun e => hj (by rw [e]; exact hs))]
    · exact .sl _ _ _ _ _ (by simp [Gh.bind, Gh.measure]) hcap (by simp [Gh.measure])
theorem eff_append {t u : TypeId} {y z : Operand} {nid : Oid} {m0 : Mem} {e : Eff} (ho : o.op = .call ⟨.builtin .append, #[y, z], #[t, u]⟩) (hs : sp nid) (hu : srcOK (tyk P u) = true)
    (hnt : ∀ t', nid.tyd = some t' → (∀ el ag sz by', tyk P t = some (.slice el ag sz by') → t' = el) ∧ ∀ id sz n, ρ y = .sl id sz n → id.tyd = some t')
    (h : appA P m0 nid t (ρ y) (ρ z) = .eff e) : EffOK P o ρ sp e ∧ ∀ q, q ∈ e.need → m0 q.1 = some q.2 := by
  have hund : ∃ d, P.underlying u = some d ∧ (∀ k, d ≠ .int k) := by
    unfold srcOK at hu
    split at hu
    · rename_i h1; obtain ⟨d, hd, h2⟩ := tyk_spec h1; exact ⟨d, hd, fun k e => by rw [h2.1] at e; cases e⟩
    · rename_i h1; obtain ⟨d, hd, h2⟩ := tyk_spec h1; exact ⟨d, hd, fun k e => by rw [h2] at e; cases e⟩
    · cases hu
  obtain ⟨du, hdu, hdi⟩ := hund
  have hmatch : (match du with | .int _ => true | _ => false) = false := by cases du <;> first | rfl | exact absurd rfl (hdi _)
  unfold appA at h
  split at h
  · rename_i el ag sz by' e1
    obtain ⟨d, hd, rfl, hsh, inf, hinf, hby⟩ := tyk_spec e1
    subst hby
    have zero_of : zerOK P el sz = true → ∃ zv, inf.zero = some zv ∧ zv.cells.size = sz := by
      intro hz
      unfold zerOK zer at hz
      rw [hinf] at hz
      cases hzz : inf.zero with
      | none => simp [hzz] at hz
      | some zv => simp [hzz, constA_cells] at hz; exact ⟨zv, rfl, hz⟩
    split at h
    · -- to nil
      rename_i nd ys e2 e3
      split at h
      · rename_i hc
        obtain ⟨hzer, hbp, hbd⟩ := hc
        simp only [OpR.eff.injEq] at h; subst h
        obtain ⟨zv, hzv, hzc⟩ := zero_of hzer
        refine ⟨EffOK.of fun x g a w m hm hnd hop hsp => ?_, srcA_need e3⟩
        have hy := hop y (by simp [Op.operands, Call.operands, ho])
        have hz := hop z (by simp [Op.operands, Call.operands, ho])
        rw [e2] at hy
        obtain ⟨n0, news, n1, n2, n3, n4, n5⟩ := srcA_spec (P := P) hm hz e3 hnd
        obtain ⟨hl, hup⟩ := hsp nid hs
        exact append_to_nil hm ho hs hd hdu hdi hsh hinf hzv hzc hbp hbd hy.nilSl_inv n0 n1 n2 n3 n4 n5 hl hup (fun t' ht => (hnt t' ht).1 _ _ _ _ e1)
      · cases h
    · -- to a row
      rename_i id sz' len nd ys e2 e3
      split at h
      · rename_i s' xs hmid
        split at h
        · rename_i hc
          obtain ⟨hzer, rfl, rfl, rfl, hbp, hbd⟩ := hc
          simp only [OpR.eff.injEq] at h; subst h
          obtain ⟨zv, hzv, hzc⟩ := zero_of hzer
          refine ⟨EffOK.of fun x g a w m hm hnd hop hsp => ?_, fun q hq => ?_⟩
          · have hy := hop y (by simp [Op.operands, Call.operands, ho])
            have hz := hop z (by simp [Op.operands, Call.operands, ho])
            rw [e2] at hy
            obtain ⟨n0, news, n1, n2, n3, n4, n5⟩ := srcA_spec (P := P) hm hz e3 (fun q hq => hnd q (List.mem_cons_of_mem _ hq))
            obtain ⟨hl, hup⟩ := hsp nid hs
            have hmi : m id = some (.arr s' xs) := hnd (id, .arr s' xs) List.mem_cons_self
            rcases hy.sl_inv' with ⟨hz0, hyu, hb0⟩ | ⟨b, cap, hyu, hb, hcap, hrb⟩
            · have hx : xs = [] := List.eq_nil_of_length_eq_zero hz0
              subst hx
              have hbd' : ys.length * inf.bytes ≤ 140737488355328 := by simpa using hbd
              obtain ⟨g', nx, v, w', q1, q2, q3, q4, q5, q6⟩ := append_to_nil (m := m.set id none) (hm.drop (fun k o hk => by simp only [Mem.set] at hk; split at hk; cases hk; exact hk)) ho hs hd hdu hdi hsh hinf hzv hzc hbp hbd' hyu n0 n1 n2 n3 n4 n5 hl hup (fun t' ht => (hnt t' ht).1 _ _ _ _ e1)
              exact ⟨g', nx, v, w', q1, q2, q3, q4, by simpa using q5, by simpa [Mem.upds] using q6⟩
            obtain ⟨b', g1, g2, g3, g4⟩ := hm.objL hmi hb
            rw [hb] at g1; simp only [Option.some.injEq] at g1; subst g1
            obtain ⟨c, ct, fz, c1, c2, c3, c4, c6, c5⟩ := g4
            have hcs : c.size = cap * s' := by
              obtain ⟨c', t', fz', k1, k2⟩ := hm.rows b _ hrb
              rw [c1] at k1; simp only [Option.some.injEq, Obj.cells.injEq] at k1
              rw [k1.1]; exact k2
            have hidn : id ≠ nid := fun e => by rw [e, hl] at hb; cases hb
            -- what the joined row holds
            have joinLen : (xs ++ ys).length = xs.length + ys.length := List.length_append
            have joinGet : ∀ i, (xs ++ ys).getD i .undef = if i < xs.length then xs.getD i .undef else ys.getD (i - xs.length) .undef := fun i => by
              simp only [List.getD_eq_getElem?_getD]
              by_cases hi : i < xs.length
              · rw [if_pos hi, List.getElem?_append_left hi]
              · rw [if_neg hi, List.getElem?_append_right (by omega)]
            have joined : ∀ (row : Array Value), (∀ j, j < xs.length * s' → row.getD j undef = c.getD j undef) → (∀ j, j < ys.length * s' → row.getD (xs.length * s' + j) undef = news.getD j undef) →
                (∀ i, i < (xs ++ ys).length → ((xs ++ ys).getD i .undef).cells.length = s') ∧ (∀ j, j < (xs ++ ys).length * s' → (row.getD j undef).oneCell' = true) ∧
                ∀ i j, i < (xs ++ ys).length → j < s' → VR g (((xs ++ ys).getD i .undef).cells.getD j .undef) (row.getD (i * s' + j) undef) := by
              intro row r1 r2
              refine ⟨fun i hi => ?_, fun j hj => ?_, fun i j hi hj => ?_⟩
              · rw [joinGet]; rw [joinLen] at hi
                split
                · exact c4 i ‹_›
                · exact n0 _ (by omega)
              · rw [joinLen, Nat.add_mul] at hj
                rcases Nat.lt_or_ge j (xs.length * s') with h1 | h1
                · rw [r1 j h1]; exact c6 j h1
                · have := r2 (j - xs.length * s') (by omega)
                  rw [Nat.add_sub_cancel' h1] at this
                  rw [this]
                  have hj' : j - xs.length * s' < news.size := by omega
                  have := n2 _ hj'
                  simpa [hj'] using this
              · rw [joinLen] at hi
                rw [joinGet]
                split
                · rename_i h1
                  have hlt : i * s' + j < xs.length * s' := by
                    have := Nat.mul_le_mul_right s' (Nat.succ_le_of_lt h1)
                    rw [Nat.succ_mul] at this; omega
                  rw [r1 _ hlt]; exact c5 i j h1 hj
                · rename_i h1
                  have hi2 : i - xs.length < ys.length := by omega
                  have hlt : (i - xs.length) * s' + j < ys.length * s' := by
                    have := Nat.mul_le_mul_right s' (Nat.succ_le_of_lt hi2)
                    rw [Nat.succ_mul] at this; omega
                  have := r2 _ hlt
                  rw [← Nat.add_assoc, ← Nat.add_mul, Nat.add_sub_cancel' (by omega)] at this
                  rw [this]; exact n3 _ j hi2 hj
            by_cases hfit : xs.length + ys.length ≤ cap
            · -- there is room
              have hmul : (xs.length + ys.length) * s' ≤ cap * s' := Nat.mul_le_mul_right s' hfit
              rw [Nat.add_mul] at hmul
              obtain ⟨w', c', r1, r2, r3, r4, r5, r6, r7, r8, r9⟩ := run_storeCells (P := P) b c ct fz news.toList (xs.length * s') 0 w c c1 c3 (by simp only [Array.length_toList, n1]; omega) (fun v hv => by
                obtain ⟨j, hj, rfl⟩ := List.mem_iff_getElem.1 hv
                simpa using n2 j (by simpa using hj))
              have hrun := run_append_room' (P := P) (ty := o.type) (sLen := xs.length) (sCap := cap) (a := ⟨b, 0, none⟩) hd hdu hdi hsh (n4 w.drawn) (n5 w.drawn) hfit (w' := w') (by rw [addr_add]; simpa using r1)
              obtain ⟨j1, j2, j3⟩ := joined c' (fun j hj => by rw [r4, if_neg (by omega)]) (fun j hj => by
                rw [r4]
                simp only [Array.length_toList, n1, Nat.add_zero]
                rw [if_pos (by omega)]
                have hj' : j < news.size := by omega
                simp [List.getD_eq_getElem?_getD, hj'])
              have hturn := hm.turn (o := .arr s' (xs ++ ys)) hmi hb r5 r6 r7 (by omega) (fun b' hb' _ => r9 b' hb') (fun r hr => by
                rw [hrb] at hr; simp only [Option.some.injEq] at hr
                exact ⟨c', ct, fz, r2, by rw [r3, hcs, hr]⟩) (fun c9 t9 fz9 h9 => by rw [c1] at h9; cases h9; exact ⟨c', fz, r2⟩) ⟨c', ct, fz, r2, by rw [r3, hcs, joinLen, Nat.add_mul]; exact hmul, fun j hj => c3 j (by omega), j1, j2, j3⟩
              have hren := hturn.rename (i := id) (j := nid) (o := .arr s' (xs ++ ys)) (by simp [Mem.set]) hb hl hup (fun t' ht => (hnt t' ht).2 _ _ _ e2)
              have hmem : (((m.set id (some (.arr s' (xs ++ ys)))).set id none).set nid (some (.arr s' (xs ++ ys)))) = m.upds [(id, none), (nid, some (.arr s' (xs ++ ys)))] := by
                funext k
                simp only [Mem.upds, Mem.set]
                by_cases e1 : k = nid
                · simp [e1]
                · by_cases e2 : k = id <;> simp [e1, e2]
              rw [hmem] at hren
              refine ⟨g.bind nid b, .value (.slice (some ⟨b, 0, none⟩) (xs.length + ys.length) cap), _, w', run_builtin ho ?_, .inl rfl, Gh.le_bind hl, fun j hj => ?_, ?_, hren⟩
              · simp [builtin, hyu, hrun]
              · simp only [Gh.bind]; rw [if_neg (fun e => hj (by rw [e]; exact hs))]
              · exact .sl _ _ _ _ _ (by simp [Gh.bind]) hfit hrb
            · -- a new row
              have hnb : xs.length + ys.length ≤ 140737488355328 := Nat.le_trans (Nat.le_mul_of_pos_right _ hbp) hbd
              have holdrun : (Builtin.firstCells s' xs.length (.slice (some ⟨b, 0, none⟩) xs.length cap)).run P w.drew = .ok ((List.range (xs.length * s')).map fun j => c.getD j undef).toArray w.drew := by
                simp only [Builtin.firstCells]
                refine run_loadCells (P := P) w.drew ⟨b, 0, none⟩ _ _ (fun j hj => ?_)
                rw [addr_add]
                have hlt : j < c.size := by omega
                rw [World.cell?_drew]; simp [World.cell?, c1, hlt]
              have hrun := run_append_grows (P := P) (ty := o.type) (sLen := xs.length) (sCap := cap) (base := some ⟨b, 0, none⟩) hd hdu hdi hsh hinf hzv (n4 w.drawn) (n5 (w.drawn + 1)) holdrun (by omega) hbp hbd
              have hcap' := cut_appendCap (need := xs.length + ys.length) (old := cap) (el := el) (t := w.tape w.drawn (.appendCap (xs.length + ys.length) cap el)) (by omega)
              generalize (Question.appendCap (xs.length + ys.length) cap el).cut (w.tape w.drawn (.appendCap (xs.length + ys.length) cap el)) = C at hcap' hrun
              generalize hO : ((List.range (xs.length * s')).map fun j => c.getD j undef).toArray = old at hrun
              have hos : old.size = xs.length * s' := by rw [← hO]; simp
              have hog : ∀ j, j < xs.length * s' → old.getD j undef = c.getD j undef := fun j hj => by rw [← hO]; simp [hj]
              generalize hR : (old ++ news ++ Builtin.zeroCells zv.cells (C - (xs.length + ys.length))) = row at hrun
              have hrow : row.size = C * s' := by
                rw [← hR]
                simp only [Array.size_append, n1, hos, Builtin.zeroCells, Array.size_map, Array.size_range, hzc]
                rw [← Nat.add_mul, ← Nat.add_mul]; congr 1; omega
              obtain ⟨j1, j2, j3⟩ := joined row (fun j hj => by
                  rw [← hR, getD_append_left (by rw [Array.size_append]; omega), getD_append_left (by omega)]; exact hog j hj) (fun j hj => by
                  rw [← hR, getD_append_left (by rw [Array.size_append]; omega), getD_append_right (by omega), hos, Nat.add_sub_cancel_left])
              have hmd : MemRel x g (m.set id none) w.drew := (hm.drew _ (Nat.le_succ _)).drop (fun k o' hk => by simp only [Mem.set] at hk; split at hk; cases hk; exact hk)
              have hnew := hmd.new (o := .arr s' (xs ++ ys)) (ob := .cells row el) hl hup ⟨row, el, (0, 0), heap_new _ _, by rw [hrow, joinLen]; exact Nat.mul_le_mul_right s' hcap', fun j _ h => by omega, j1, j2, fun i j hi hj => (j3 i j hi hj).mono (Gh.le_bind hl)⟩ (fun t' ht => by rw [(hnt t' ht).1 _ _ _ _ e1]; exact ⟨_, _, rfl⟩)
              have hrn : (g.bind nid w.drew.heap.size).row w.drew.heap.size = none := hmd.row_new (Nat.le_refl _)
              refine ⟨(g.bind nid w.drew.heap.size).measure w.drew.heap.size (C * s'), .value (.slice (some ⟨w.heap.size, 0, none⟩) (xs.length + ys.length) C), _, w.drew.alloc (.cells row el), run_builtin ho ?_, .inl rfl, Gh.le_trans (Gh.le_bind hl) (Gh.le_measure (.inl hrn)), fun j hj => ?_, ?_, hnew.measure ⟨row, el, (0, 0), heap_new _ _, hrow⟩ (.inl hrn)⟩
              · simp [builtin, hyu, hrun]
              · simp only [Gh.bind, Gh.measure]; rw [if_neg (fun e => hj (by rw [e]; exact hs))]
              · exact .sl _ _ _ _ _ (by simp [Gh.bind, Gh.measure]) hcap' (by simp [Gh.measure])
          · rcases List.mem_cons.1 hq with rfl | hq
            · exact hmid
            · exact srcA_need e3 q hq
        · cases h
      · cases h
    · cases h
  · cases h

/-! ### new maps -/
/-- The shape of a map type's keys. -/
def keyShape (P : Program) (t : TypeId) : Option (List TyS × Bool) := match tyk P t with
  | some (.map k _) => match flatT P 10 k, shp P k with
    | some ks, some (ag, _) => some (ks, ag)
    | _, _ => none
  | _ => none
theorem eff_makeMap {t : TypeId} {nid : Oid} (ks : List TyS) (ag : Bool) (ho : o.op = .makeMap t none) (hs : sp nid) (hnt : nid.tyd = none) : EffOK P o ρ sp ⟨[], .map nid, [(nid, some (.map ks ag [] 0))]⟩ := by
  refine EffOK.of fun x g a w m hm _ _ hsp => ?_
  obtain ⟨hl, hu⟩ := hsp nid hs
  refine ⟨g.bind nid w.heap.size, .value (.map (some w.heap.size)), _, w.alloc (.map #[] 0), ?_, .inl rfl, Gh.le_bind hl, fun j hj => ?_, .map _ _ (by simp [Gh.bind]), hm.new hl hu ?_ (fun t' ht => by rw [hnt] at ht; cases ht)⟩
  · simp [execOp, ho, Instr.makeMap]
  · simp only [Gh.bind]; rw [if_neg (fun e => hj (by rw [e]; exact hs))]
  · exact ⟨⟨#[], heap_new w _, .nil⟩, (fun e he => absurd he (by simp)), List.Pairwise.nil⟩
end
end Go.Ab
