/- The map operations' effects. -/
import Derived.Test.YtpdmiojenhodlaaFwM
set_option linter.unusedVariables false
set_option linter.unusedSimpArgs false
namespace Go.Ab
section
variable {P : Program}

theorem findR_at {k : AV} : ∀ {es : List ME} {cs : List MapEntry} {i : Nat} {r : Nat × Value}, findR k es cs i = some r → i ≤ r.1 ∧ ∃ e c, es[r.1 - i]? = some e ∧ cs[r.1 - i]? = some c ∧ sameK k e.key = true ∧ c.val = r.2
  | [], _, _, _, h => by simp [findR] at h
  | _ :: _, [], _, _, h => by simp [findR] at h
  | e :: es, c :: cs, i, r, h => by
    simp only [findR] at h
    split at h
    · rename_i hs
      simp only [Option.some.injEq] at h; subst h
      exact ⟨Nat.le_refl _, e, c, by simp, by simp, hs, rfl⟩
    · obtain ⟨h1, e', c', h2, h3, h4, h5⟩ := findR_at h
      refine ⟨by omega, e', c', ?_, ?_, h4, h5⟩
      · rw [show r.1 - i = (r.1 - (i + 1)) + 1 from by omega]; simpa using h2
      · rw [show r.1 - i = (r.1 - (i + 1)) + 1 from by omega]; simpa using h3

/-- The look for a key. -/
theorem run_findAsking_flat {g : Gh} {kt : TypeId} {ks : List TyS} {ag : Bool} (hks : flatT P 10 kt = some ks) (hsh : shp P kt = some (ag, ks.length)) {k : AV} {u : Value} (hf : keyFits ks ag k = true) (hu : VR g k u) (w : World) :
    ∀ {es : List ME} {cs : List MapEntry} (i : Nat), MERs g es cs → (∀ e ∈ es, keyFits ks ag e.key = true) → (Instr.findAsking kt u cs i).run P w = .ok (findR k es cs i) w
  | [], _, i, h, _ => by cases h; simp [Instr.findAsking, findR]
  | e :: es, _, i, h, hall => by
    cases h with
    | cons hk hv hb t =>
      rename_i c cs
      obtain ⟨agg, hs', hn, heq⟩ := run_equalIn_flat (P := P) (g := g) (w := w) 10 kt ks hks 10000 (by omega)
      rw [hsh] at hs'; simp only [Option.some.injEq, Prod.mk.injEq] at hs'; obtain ⟨rfl, _⟩ := hs'
      have he := hall e (by simp)
      have hf' := hf; have he' := he
      simp only [keyFits, Bool.and_eq_true] at hf' he'
      have := heq k.cells e.key.cells u c.key hf'.2 he'.2 (hu.madeK hf) (hk.madeK he)
      have ih := run_findAsking_flat hks hsh hf hu w (i + 1) t (fun e' h' => hall e' (by simp [h']))
      have hd : Op.maxDepth = 10000 := rfl
      simp only [Instr.findAsking, Op.equal, hd, Sem.run_bind, this, Result.andThen_ok, findR, Sem.run_ite]
      cases hc : sameK k e.key with
      | true => simp only [sameK] at hc; simp [hc]
      | false => simp only [sameK] at hc; simp [hc, ih]

theorem findNow_flat {g : Gh} {kt : TypeId} {ks : List TyS} (hks : flatT P 10 kt = some ks) (hsh : shp P kt = some (false, ks.length)) {k : AV} {u : Value} (hf : keyFits ks false k = true) (hu : VR g k u) {d : TypeDesc} (hd : P.underlying kt = some d) :
    ∀ {es : List ME} {cs : List MapEntry} (i : Nat), MERs g es cs → (∀ e ∈ es, keyFits ks false e.key = true) → Instr.findNow d u cs i = some (findR k es cs i)
  | [], _, i, h, _ => by cases h; simp [Instr.findNow, findR]
  | e :: es, _, i, h, hall => by
    cases h with
    | cons hk hv hb t =>
      rename_i c cs
      have ih := findNow_flat hks hsh hf hu hd (i + 1) t (fun e' h' => hall e' (by simp [h']))
      have he := hall e (by simp)
      have key : Instr.sameNow d u c.key = some (sameK k e.key) := by
        simp only [keyFits, Bool.and_eq_true, beq_iff_eq] at hf he
        have c1 : k.cells = [k] := by cases k <;> first | rfl | (cases hf.1; done)
        have c2 : e.key.cells = [e.key] := by
          have := he.1
          generalize e.key = ek at this
          cases ek <;> first | rfl | (cases this; done)
        unfold flatT at hks
        rw [hd] at hks
        rw [c1] at hf; rw [c2] at he
        simp only [sameK, c1, c2]
        have hk' := hk
        generalize e.key = ek at he hk'
        split at hks
        · rename_i hb'; simp only [Option.some.injEq] at hb'; subst hb'
          split at hks
          · simp only [Option.some.injEq] at hks; subst hks
            simp only [fits, Bool.and_true] at hf he
            cases k <;> simp only [fitS] at hf <;> first | (cases hf.2; done) | skip
            cases ek <;> simp only [fitS] at he <;> first | (cases he.2; done) | skip
            rw [hu.bool_inv, hk'.bool_inv]; simp [Instr.sameNow, eqCells, eqS]
          · cases hks
        · rename_i q hb'; simp only [Option.some.injEq] at hb'; subst hb'
          split at hks
          · simp only [Option.some.injEq] at hks; subst hks
            simp only [fits, Bool.and_true] at hf he
            cases k <;> simp only [fitS] at hf <;> first | (cases hf.2; done) | skip
            cases ek <;> simp only [fitS] at he <;> first | (cases he.2; done) | skip
            simp only [beq_iff_eq] at hf he
            rw [hu.int_inv, hk'.int_inv]; simp [Instr.sameNow, eqCells, eqS, ← hf.2, ← he.2]
          · cases hks
        · rename_i hb'; simp only [Option.some.injEq] at hb'; subst hb'
          split at hks
          · simp only [Option.some.injEq] at hks; subst hks
            simp only [fits, Bool.and_true] at hf he
            cases k <;> simp only [fitS] at hf <;> first | (cases hf.2; done) | skip
            cases ek <;> simp only [fitS] at he <;> first | (cases he.2; done) | skip
            obtain ⟨b1, rfl, h1⟩ := hu.str_inv; obtain ⟨b2, h2, h3⟩ := hk'.str_inv
            rw [h2]
            simp only [Instr.sameNow, eqCells, eqS, Bool.and_true, Option.some.injEq]
            rw [Bool.eq_iff_iff, MapKept.bytes_beq, beq_iff_eq, ← h1, ← h3]
            exact ⟨fun e => by rw [e], fun e => by cases b1; cases b2; simp only at e; congr 1; exact Array.ext' e⟩
          · cases hks
        · rename_i fs hb'
          split at hks
          · cases hks
          · split at hks
            · split at hks
              · rename_i h9; rw [hsh] at h9; simp at h9
              · cases hks
            · cases hks
        · cases hks
      simp only [Instr.findNow, key, findR]
      cases sameK k e.key <;> simp [ih]

theorem run_findKey_flat {g : Gh} {kt : TypeId} {ks : List TyS} {ag : Bool} (hks : flatT P 10 kt = some ks) (hsh : shp P kt = some (ag, ks.length)) {k : AV} {u : Value} (hf : keyFits ks ag k = true) (hu : VR g k u) (w : World)
    {es : List ME} {cs : List MapEntry} (h : MERs g es cs) (hall : ∀ e ∈ es, keyFits ks ag e.key = true) : (Instr.findKey kt u cs).run P w = .ok (findR k es cs 0) w := by
  obtain ⟨d, ii, hd, hi, hag, hsz⟩ := shp_spec hsh
  have h1 := run_findAsking_flat hks hsh hf hu w 0 h hall
  simp only [Instr.findKey, Sem.run_bind, run_underlying' hd, Result.andThen_ok]
  cases ag with
  | false => rw [findNow_flat hks hsh hf hu hd 0 h hall]; simp
  | true =>
    cases h with
    | nil => simp [Instr.findNow, findR]
    | cons hk hv hb t =>
      have : Instr.sameNow d u = fun _ => none := by
        funext v
        cases d <;> simp [aggD] at hag <;> rfl
      simp only [Instr.findNow, this]
      exact h1

/-! what is found, in the abstract entries -/
theorem findR_look {g : Gh} {k : AV} : ∀ {es : List ME} {cs : List MapEntry} (i : Nat), MERs g es cs →
    (match lookE k es with | none => findR k es cs i = none | some e => ∃ j v, findR k es cs i = some (i + j, v) ∧ es[j]? = some e ∧ VR g e.val v ∧ ∃ c, cs[j]? = some c ∧ VR g e.key c.key ∧ c.born = e.born ∧ c.val = v)
  | [], _, i, h => by cases h; simp [lookE, findR]
  | e :: es, _, i, h => by
    cases h with
    | cons hk hv hb t =>
      rename_i c cs
      have ih := findR_look (k := k) (i + 1) t
      simp only [lookE, findR]
      cases hs : sameK k e.key with
      | true => exact ⟨0, c.val, by simp, by simp, hv, c, by simp, hk, hb, rfl⟩
      | false =>
        simp only [Bool.false_eq_true, if_false]
        cases hl : lookE k es with
        | none => rw [hl] at ih; exact ih
        | some e' =>
          rw [hl] at ih
          obtain ⟨j, v, h1, h2, h3, c', h4, h5, h6, h7⟩ := ih
          exact ⟨j + 1, v, by rw [h1]; simp; omega, by simpa using h2, h3, c', by simpa using h4, h5, h6, h7⟩
theorem lookE_none_set {k v : AV} {b : Nat} : ∀ {es : List ME}, lookE k es = none → setE k v b es = es ++ [⟨k, v, b⟩]
  | [], _ => rfl
  | e :: es, h => by
    simp only [lookE] at h
    split at h
    · cases h
    · rename_i hs; simp [setE, hs, lookE_none_set h]
theorem lookE_same {k : AV} {e : ME} : ∀ {es : List ME}, lookE k es = some e → sameK k e.key = true ∧ e ∈ es
  | [], h => by cases h
  | e' :: es, h => by
    simp only [lookE] at h
    split at h
    · rename_i hs; simp only [Option.some.injEq] at h; subst h; exact ⟨hs, by simp⟩
    · exact ⟨(lookE_same h).1, by simp [(lookE_same h).2]⟩
theorem MERs.append {g : Gh} {es es' : List ME} {cs cs' : List MapEntry} (h : MERs g es cs) (h' : MERs g es' cs') : MERs g (es ++ es') (cs ++ cs') := by
  induction h with
  | nil => exact h'
  | cons hk hv hb _ ih => exact .cons hk hv hb ih
/-- The found entry turned. -/
theorem MERs.set {g : Gh} {k v : AV} {b : Nat} {v' : Value} : ∀ {es : List ME} {cs : List MapEntry} {i j : Nat} {u : Value} (f : MapEntry → MapEntry), MERs g es cs → findR k es cs i = some (i + j, u) →
    (∀ c, cs[j]? = some c → (f c).key = c.key ∧ (f c).val = v' ∧ (f c).born = c.born) → VR g v v' → MERs g (setE k v b es) (cs.modify j f)
  | [], _, i, j, u, f, h, hf, _, _ => by cases h; simp [findR] at hf
  | e :: es, _, i, j, u, f, h, hf, hc, hv' => by
    cases h with
    | cons hk hv hb t =>
      rename_i c cs
      simp only [findR] at hf
      cases hs : sameK k e.key with
      | true =>
        simp only [hs, if_true, Option.some.injEq, Prod.mk.injEq] at hf
        obtain rfl : j = 0 := by omega
        obtain ⟨c1, c2, c3⟩ := hc c (by simp)
        simp only [setE, hs, if_true, List.modify_zero_cons]
        exact .cons (by rw [c1]; exact hk) (by rw [c2]; exact hv') (by rw [c3]; exact hb) t
      | false =>
        simp only [hs, Bool.false_eq_true, if_false] at hf
        have hj := (findR_at hf).1
        simp only at hj
        obtain ⟨j, rfl⟩ : ∃ j', j = j' + 1 := ⟨j - 1, by omega⟩
        simp only [setE, hs, Bool.false_eq_true, if_false, List.modify_succ_cons]
        exact .cons hk hv hb (MERs.set f t (by rw [hf]; congr 2; omega) (fun c' h' => hc c' (by simpa using h')) hv')
theorem setE_born {k v : AV} {b : Nat} : ∀ {es : List ME} (p : AV → Nat → Prop), (∀ e ∈ es, p e.key e.born) → p k b → ∀ e ∈ setE k v b es, p e.key e.born
  | [], p, _, hk, e, he => by simp only [setE, List.mem_singleton] at he; subst he; exact hk
  | e' :: es, p, h, hk, e, he => by
    simp only [setE] at he
    split at he
    · rcases List.mem_cons.1 he with rfl | he
      · exact h e' (by simp)
      · exact h e (by simp [he])
    · rcases List.mem_cons.1 he with rfl | he
      · exact h _ (by simp)
      · exact setE_born p (fun x hx => h x (by simp [hx])) hk e he
theorem setE_borns {k v : AV} {b : Nat} : ∀ {es : List ME}, (setE k v b es).map ME.born = if (lookE k es).isSome then es.map ME.born else es.map ME.born ++ [b]
  | [] => rfl
  | e :: es => by
    simp only [setE, lookE]
    split
    · simp
    · simp only [List.map_cons, setE_borns]
      split <;> simp
theorem born_pw {es : List ME} : es.Pairwise (fun e e' => e.born < e'.born) ↔ (es.map ME.born).Pairwise (· < ·) := by rw [List.pairwise_map]
end
end Go.Ab
