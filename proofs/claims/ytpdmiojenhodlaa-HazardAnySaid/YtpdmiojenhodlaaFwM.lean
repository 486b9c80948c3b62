/- Maps: lookups, stores, entries, deletion. -/
import Derived.Test.YtpdmiojenhodlaaFw14
import Derived.MapKept
set_option linter.unusedVariables false
set_option linter.unusedSimpArgs false
namespace Go.Ab

def sameK (k k' : AV) : Bool := eqCells k.cells k'.cells
def lookE (k : AV) : List ME → Option ME
  | [] => none
  | e :: es => if sameK k e.key then some e else lookE k es
/-- The entry of the key gets the value; a new one comes last. -/
def setE (k v : AV) (born : Nat) : List ME → List ME
  | [] => [⟨k, v, born⟩]
  | e :: es => if sameK k e.key then ⟨e.key, v, e.born⟩ :: es else e :: setE k v born es
def delE (k : AV) : List ME → List ME
  | [] => []
  | e :: es => if sameK k e.key then es else e :: delE k es
/-- The entry of the stamp gets the value. -/
def bornE (n : Nat) (v : AV) : List ME → List ME
  | [] => []
  | e :: es => if e.born = n then ⟨e.key, v, e.born⟩ :: es else e :: bornE n v es
def findR (k : AV) : List ME → List MapEntry → Nat → Option (Nat × Value)
  | e :: es, c :: cs, i => if sameK k e.key then some (i, c.val) else findR k es cs (i + 1)
  | _, _, _ => none

theorem eqS_eq {k : TyS} {x y : AV} (hx : fitS k x = true) (hy : fitS k y = true) (h : eqS x y = true) : x = y := by
  cases k <;> cases x <;> simp only [fitS] at hx <;> first | (cases hx; done) | skip
  all_goals (cases y <;> simp only [fitS] at hy <;> first | (cases hy; done) | skip)
  · simp only [eqS, beq_iff_eq] at h; rw [h]
  · simp only [beq_iff_eq] at hx hy; subst hx; subst hy; simp only [eqS, beq_iff_eq] at h; rw [h]
  · simp only [eqS, beq_iff_eq] at h; rw [h]
theorem eqCells_eq : ∀ {ks : List TyS} {xs ys : List AV}, fits ks xs = true → fits ks ys = true → eqCells xs ys = true → xs = ys
  | [], [], [], _, _, _ => rfl
  | k :: ks, x :: xs, y :: ys, hx, hy, h => by
    simp only [fits, eqCells, Bool.and_eq_true] at hx hy h
    rw [eqS_eq hx.1 hy.1 h.1, eqCells_eq hx.2 hy.2 h.2]
  | [], [], _ :: _, _, hy, _ => by cases hy
  | [], _ :: _, _, hx, _, _ => by cases hx
  | _ :: _, [], _, hx, _, _ => by cases hx
  | _ :: _, _ :: _, [], _, hy, _ => by cases hy
theorem eqS_refl {k : TyS} {x : AV} (hx : fitS k x = true) : eqS x x = true := by
  cases k <;> cases x <;> simp only [fitS] at hx <;> first | (cases hx; done) | simp [eqS]
theorem eqCells_refl : ∀ {ks : List TyS} {xs : List AV}, fits ks xs = true → eqCells xs xs = true
  | [], [], _ => rfl
  | k :: ks, x :: xs, hx => by
    simp only [fits, Bool.and_eq_true] at hx
    simp [eqCells, eqS_refl hx.1, eqCells_refl hx.2]
  | [], _ :: _, hx => by cases hx
  | _ :: _, [], hx => by cases hx
theorem sameK_eq {ks : List TyS} {ag : Bool} {x y : AV} (hx : keyFits ks ag x = true) (hy : keyFits ks ag y = true) (h : sameK x y = true) : x = y := by
  simp only [keyFits, Bool.and_eq_true, beq_iff_eq] at hx hy
  have e := eqCells_eq hx.2 hy.2 h
  have ha : x.isAgg = y.isAgg := hx.1.trans hy.1.symm
  cases x <;> cases y <;> simp_all [AV.cells, AV.isAgg]
theorem sameK_refl {ks : List TyS} {ag : Bool} {x : AV} (hx : keyFits ks ag x = true) : sameK x x = true := by
  simp only [keyFits, Bool.and_eq_true] at hx; exact eqCells_refl hx.2

/-- A scalar has one form in the model. -/
theorem VR.plainS {g : Gh} {k : TyS} {x : AV} {u v : Value} (hf : fitS k x = true) (hu : VR g x u) (hv : VR g x v) : u = v := by
  cases k <;> cases x <;> simp only [fitS] at hf <;> first | (cases hf; done) | skip
  · rw [hu.bool_inv, hv.bool_inv]
  · rw [hu.int_inv, hv.int_inv]
  · obtain ⟨b, rfl, h1⟩ := hu.str_inv; obtain ⟨c, rfl, h2⟩ := hv.str_inv
    have : b = c := by
      cases b; cases c; simp only at h1 h2; congr 1; exact Array.ext' (h1.trans h2.symm)
    rw [this]
theorem fits_getD : ∀ {ks : List TyS} {xs : List AV}, fits ks xs = true → ∀ j, j < xs.length → ∃ k, fitS k (xs.getD j .undef) = true
  | k :: ks, x :: xs, h, 0, _ => ⟨k, by simp only [fits, Bool.and_eq_true] at h; exact h.1⟩
  | k :: ks, x :: xs, h, j + 1, hj => by
    simp only [fits, Bool.and_eq_true] at h
    have := fits_getD h.2 j (by simpa using hj)
    simpa using this
  | _, [], _, _, hj => absurd hj (Nat.not_lt_zero _)
  | [], _ :: _, h, _, _ => by cases h
theorem VR.plainK {g : Gh} {ks : List TyS} {ag : Bool} {x : AV} {u v : Value} (hf : keyFits ks ag x = true) (hu : VR g x u) (hv : VR g x v) : u = v := by
  simp only [keyFits, Bool.and_eq_true, beq_iff_eq] at hf
  obtain ⟨h1, h2⟩ := hf
  by_cases hx : x.isAgg = true
  · cases x <;> simp only [AV.isAgg] at hx <;> first | (cases hx; done) | skip
    rename_i cs
    obtain ⟨a, rfl, a1, a2⟩ := hu.agg_inv; obtain ⟨b, rfl, b1, b2⟩ := hv.agg_inv
    congr 1
    refine Array.ext (a1.trans b1.symm) fun j h3 h4 => ?_
    obtain ⟨k, hk⟩ := fits_getD h2 j (by simp only [AV.cells]; omega)
    have := VR.plainS hk (a2 j (by omega)) (b2 j (by omega))
    simpa [h3, h4] using this
  · have hc : x.cells = [x] := by cases x <;> first | rfl | exact absurd rfl hx
    rw [hc] at h2
    obtain ⟨k, hk⟩ := fits_getD h2 0 (by simp)
    exact VR.plainS hk hu hv
/-- The model's own look at the bits of two keys. -/
theorem sameBits_plainS {g : Gh} {k : TyS} {x : AV} {u : Value} (hf : fitS k x = true) (hu : VR g x u) (n : Nat) : Instr.sameBits n u u = true := by
  cases k <;> cases x <;> simp only [fitS] at hf <;> first | (cases hf; done) | skip
  · rw [hu.bool_inv]; cases n <;> simp [Instr.sameBits]
  · rw [hu.int_inv]; cases n <;> simp [Instr.sameBits]
  · obtain ⟨b, rfl, h1⟩ := hu.str_inv; have e : (b == b) = true := (MapKept.bytes_beq b b).2 rfl; cases n <;> simp [Instr.sameBits, e]
theorem sameBits_plainK {g : Gh} {ks : List TyS} {ag : Bool} {x : AV} {u : Value} (hf : keyFits ks ag x = true) (hu : VR g x u) : Instr.sameBits 10000 u u = true := by
  simp only [keyFits, Bool.and_eq_true, beq_iff_eq] at hf
  obtain ⟨h1, h2⟩ := hf
  by_cases hx : x.isAgg = true
  · cases x <;> simp only [AV.isAgg] at hx <;> first | (cases hx; done) | skip
    rename_i cs
    obtain ⟨a, rfl, a1, a2⟩ := hu.agg_inv
    simp only [Instr.sameBits, beq_self_eq_true, Bool.true_and, List.all_eq_true]
    rintro ⟨p, q⟩ hpq
    obtain ⟨j, hj, e⟩ := List.mem_iff_getElem.1 hpq
    simp only [List.getElem_zip, Array.getElem_toList, Prod.mk.injEq] at e
    obtain ⟨rfl, rfl⟩ := e
    have hja : j < a.size := by simpa using hj
    obtain ⟨k, hk⟩ := fits_getD h2 j (by simp only [AV.cells]; omega)
    have := sameBits_plainS hk (a2 j (by omega)) 9999
    simpa [hja] using this
  · have hc : x.cells = [x] := by cases x <;> first | rfl | exact absurd rfl hx
    rw [hc] at h2
    obtain ⟨k, hk⟩ := fits_getD h2 0 (by simp)
    exact sameBits_plainS hk hu _
theorem VR.madeK {g : Gh} {ks : List TyS} {ag : Bool} {x : AV} {u : Value} (hf : keyFits ks ag x = true) (hu : VR g x u) : Made g ag x.cells u := by
  simp only [keyFits, Bool.and_eq_true, beq_iff_eq] at hf
  cases hag : ag with
  | true =>
    rw [hag] at hf
    cases x <;> simp only [AV.isAgg] at hf <;> first | (cases hf.1; done) | skip
    exact hu.made
  | false =>
    rw [hag] at hf
    have hc : x.cells = [x] := by cases x <;> first | rfl | (cases hf.1; done)
    simp only [Made, Bool.false_eq_true, if_false, hc]
    exact ⟨rfl, hu⟩

section
variable {P : Program}
/-- A key that is made of scalars alone is looked at in full. -/
theorem run_checkKey_flat {g : Gh} {em : Bool} : ∀ (d : Nat) (t : TypeId) (ks : List TyS), flatT P d t = some ks → ∀ e, d ≤ e → ∀ ag, shp P t = some (ag, ks.length) → ∀ xs u, fits ks xs = true → Made g ag xs u → ∀ w,
    (Instr.checkKey em e t u).run P w = .ok () w
  | 0, _, _, h, _, _, _, _, _, _, _, _, _ => by cases h
  | d + 1, t, ks, h, e, he, ag, hs, xs, u, fx, hu, w => by
    obtain ⟨e, rfl⟩ : ∃ e', e = e' + 1 := ⟨e - 1, by omega⟩
    unfold flatT at h
    split at h
    · rename_i hund; simp [Instr.checkKey, run_underlying' hund]
    · rename_i k hund; simp [Instr.checkKey, run_underlying' hund]
    · rename_i hund; simp [Instr.checkKey, run_underlying' hund]
    · rename_i fs hund
      split at h
      · cases h
      · split at h
        · rename_i l hl
          split at h
          · rename_i hs'
            rw [hs] at hs'; simp only [Option.some.injEq, Prod.mk.injEq] at hs'; obtain ⟨rfl, _⟩ := hs'
            simp only [Option.some.injEq] at h; subst h
            simp only [Made, if_true] at hu
            obtain ⟨a, rfl, ha1, ha2⟩ := hu
            rw [Instr.checkKey]
            simp only [Sem.run_bind, run_underlying' hund, Result.andThen_ok]
            rw [← Array.forIn_toList]
            have hfit : fits l (xs.drop 0) = true := by simpa using fx
            have hlen : xs.length = 0 + l.length := by simpa using fits_length fx
            generalize (0 : Nat) = off at hl hfit hlen
            clear fx hund hs
            generalize fs.toList = fl at hl
            induction fl generalizing off l with
            | nil => simp
            | cons f fl ih =>
              simp only [flatFs] at hl
              split at hl
              · rename_i hc
                obtain ⟨hnm, hoff⟩ := hc
                split at hl
                · rename_i ks hks
                  split at hl
                  · rename_i rest hrest
                    simp only [Option.some.injEq] at hl; subst hl
                    obtain ⟨agg, hsh, hn⟩ := flat_shp hks
                    obtain ⟨p1, p2⟩ := fits_append hfit
                    simp only [List.length_append] at hlen
                    obtain ⟨u, hu, hmu⟩ := run_part hsh hn ha1 ha2 off (by omega) w
                    rw [List.drop_drop] at p2
                    have hck := run_checkKey_flat (em := em) d f.type ks hks e (by omega) agg hsh _ u p1 hmu w
                    simp only [List.forIn_cons, Sem.run_bind, hnm, ne_eq, not_false_eq_true, if_true, hoff, hu, Result.andThen_ok, hck, Sem.run_pure]
                    simpa only [ne_eq, Sem.run_pure] using ih _ rfl _ p2 (by omega) hrest
                  · cases hl
                · cases hl
              · cases hl
          · cases h
        · cases h
    · cases h
end
end Go.Ab
