/- What single operations do: pieces of strings and slices, lengths, greatest and least, structs and slices built of their parts. -/
import Derived.Test.YtpdmiojenhodlaaFw10
set_option linter.unusedVariables false
set_option linter.unusedSimpArgs false
namespace Go.Ab
section
variable {P : Program} {o : Oper} {ρ : Operand → AV} {sp : Oid → Prop}

/-! ### pieces -/
def boundA (d : Int) : Option AV → Option Int
  | none => some d
  | some (.int _ n) => some n
  | some _ => none
def pieceA (k : Option TyK) (x : AV) (lo hi : Option AV) : Option AV :=
  match k, x with
  | some .str, .str s => match boundA 0 lo, boundA s.length hi with
    | some l, some h => if 0 ≤ l ∧ l ≤ h ∧ h ≤ s.length then some (.str ((s.take h.toNat).drop l.toNat)) else none
    | _, _ => none
  | some (.slice _ _ sz _), .list sz' xs => match boundA 0 lo, boundA xs.length hi with
    | some l, some h => if sz' = sz ∧ 0 ≤ l ∧ l ≤ h ∧ h ≤ xs.length then some (.list sz ((xs.take h.toNat).drop l.toNat)) else none
    | _, _ => none
  | some (.slice ..), .sl id sz len => match boundA 0 lo, boundA len hi with
    | some l, some h => if l = 0 ∧ 0 ≤ h ∧ h ≤ len then some (.sl id sz h.toNat) else none
    | _, _ => none
  | some (.slice ..), .nilSl => match boundA 0 lo, boundA 0 hi with
    | some l, some h => if l = 0 ∧ h = 0 then some .nilSl else none
    | _, _ => none
  | _, _ => none

theorem boundA_spec {g : Gh} {a : Act} {d : Int} {lo : Option Operand} {l : Int} (h : boundA d (lo.map ρ) = some l) (hv : ∀ t, lo = some t → VR g (ρ t) (a.eval t)) :
    (lo = none ∧ l = d) ∨ ∃ t k, lo = some t ∧ a.eval t = .int k l := by
  cases lo with
  | none => simp only [Option.map_none, boundA, Option.some.injEq] at h; exact .inl ⟨rfl, h.symm⟩
  | some t =>
    simp only [Option.map_some] at h
    have := hv t rfl
    cases hr : ρ t <;> rw [hr] at h this <;> simp only [boundA] at h <;> try (cases h; done)
    simp only [Option.some.injEq] at h; subst h
    exact .inr ⟨t, _, rfl, this.int_inv⟩

theorem run_sliceBounds {a : Act} {w : World} {b : Bool} {len cap : Nat} {lo hi : Option Operand} {l h : Int} (h1 : (lo = none ∧ l = 0) ∨ ∃ t k, lo = some t ∧ a.eval t = .int k l)
    (h2 : (hi = none ∧ h = len) ∨ ∃ t k, hi = some t ∧ a.eval t = .int k h) (h0 : 0 ≤ l) (hlh : l ≤ h) (hc : h ≤ cap) :
    (Instr.sliceBounds b len cap (lo.map a.eval) (hi.map a.eval) none).run P w = .ok (l.toNat, h.toNat, cap) w := by
  have hh : (h.toNat : Int) = h := by omega
  have h0' : 0 ≤ h := by omega
  rcases h1 with ⟨rfl, rfl⟩ | ⟨t, k, rfl, ht⟩ <;> rcases h2 with ⟨rfl, rfl⟩ | ⟨t', k', rfl, ht'⟩
  · simp [Instr.sliceBounds]
  · simp [Instr.sliceBounds, Instr.sliceBound, asIntOf, ht', h0', hc]
  · simp [Instr.sliceBounds, Instr.sliceBound, asIntOf, ht, h0, hlh]
  · simp [Instr.sliceBounds, Instr.sliceBound, asIntOf, ht', h0', hc, ht, h0, hlh, hh]

theorem extract_toList (b : ByteArray) (i j : Nat) : (b.extract i j).data.toList = (b.data.toList.take j).drop i := by
  simp [ByteArray.data_extract, List.extract_eq_take_drop, List.drop_take]

theorem eff_piece {t : TypeId} {y : Operand} {lo hi : Option Operand} {v : AV} (ho : o.op = .slice t y lo hi none) (h : pieceA (tyk P t) (ρ y) (lo.map ρ) (hi.map ρ) = some v) : EffOK P o ρ sp ⟨[], v, []⟩ := by
  refine EffOK.plain fun g a w hop => ?_
  have hy := hop y (by simp [Op.operands, ho])
  have hlo : ∀ t, lo = some t → VR g (ρ t) (a.eval t) := fun t ht => hop t (by subst ht; simp [Op.operands, ho])
  have hhi : ∀ t, hi = some t → VR g (ρ t) (a.eval t) := fun t ht => hop t (by subst ht; simp [Op.operands, ho])
  unfold pieceA at h
  split at h
  · rename_i s e1 e2
    rw [e2] at hy
    obtain ⟨d, hd, rfl⟩ := tyk_spec e1
    obtain ⟨b, hu, hb⟩ := hy.str_inv
    split at h
    · rename_i l hh hl hr
      split at h
      · rename_i hc
        obtain ⟨h0, hlh, hle⟩ := hc
        simp only [Option.some.injEq] at h; subst h
        have hsz : b.size = s.length := by
          have : b.data.toList.length = s.length := by rw [hb]
          simpa using this
        have hb' := run_sliceBounds (P := P) (w := w) (b := false) (len := b.size) (cap := b.size) (boundA_spec hl hlo) (by rw [← hsz] at hr; exact boundA_spec hr hhi) h0 hlh (by omega)
        refine ⟨.string (b.extract l.toNat hh.toNat), ?_, .str _ _ (by rw [extract_toList, hb])⟩
        simp [execOp, ho, Instr.sliceAt, run_underlying' hd, Instr.slice, hu, hb']
      · cases h
    · cases h
  · rename_i el ag sz by' sz' xs e1 e2
    rw [e2] at hy
    obtain ⟨d, hd, rfl, hs, _⟩ := tyk_spec e1
    rcases hy.list_inv with ⟨rfl, hu | ⟨a0, cap, hu⟩⟩ | ⟨b, c, cap, cs, hu, hcap, hln, hc1, hc2⟩
    rotate_left
    · split at h
      · rename_i l hh hl hr
        split at h
        · rename_i hc
          obtain ⟨rfl, h0, hlh, hle⟩ := hc
          simp only [List.length_nil, Int.natCast_zero] at hr hle
          obtain rfl : l = 0 := by omega
          obtain rfl : hh = 0 := by omega
          simp only [Option.some.injEq] at h; subst h
          have hb' := run_sliceBounds (P := P) (w := w) (b := true) (len := 0) (cap := cap) (boundA_spec hl hlo) (boundA_spec hr hhi) (Int.le_refl _) (Int.le_refl _) (by omega)
          refine ⟨.slice (some a0) 0 cap, ?_, .listAny _ _ _⟩
          simp [execOp, ho, Instr.sliceAt, run_underlying' hd, Instr.slice, hu, hb', run_sizeOf hs, Addr.add]
        · cases h
      · cases h
    rotate_left
    · split at h
      · rename_i l hh hl hr
        split at h
        · rename_i hc
          obtain ⟨rfl, h0, hlh, hle⟩ := hc
          simp only [List.length_nil, Int.natCast_zero] at hr hle
          obtain rfl : l = 0 := by omega
          obtain rfl : hh = 0 := by omega
          simp only [Option.some.injEq] at h; subst h
          have hb' := run_sliceBounds (P := P) (w := w) (b := true) (len := 0) (cap := 0) (boundA_spec hl hlo) (boundA_spec hr hhi) (Int.le_refl _) (Int.le_refl _) (by omega)
          refine ⟨.slice none 0 0, ?_, .listNil _⟩
          simp [execOp, ho, Instr.sliceAt, run_underlying' hd, Instr.slice, hu, hb', run_sizeOf hs]
        · cases h
      · cases h
    split at h
    · rename_i l hh hl hr
      split at h
      · rename_i hc
        obtain ⟨rfl, h0, hlh, hle⟩ := hc
        simp only [Option.some.injEq] at h; subst h
        have hb' := run_sliceBounds (P := P) (w := w) (b := true) (len := xs.length) (cap := cap) (boundA_spec hl hlo) (boundA_spec hr hhi) h0 hlh (by omega)
        have hlen : ((xs.take hh.toNat).drop l.toNat).length = hh.toNat - l.toNat := by simp; omega
        have hget : ∀ i, i < hh.toNat - l.toNat → ((xs.take hh.toNat).drop l.toNat).getD i .undef = xs.getD (l.toNat + i) .undef := fun i hi => by
          rw [getD_drop, getD_take _ _ _ _ (by omega)]
        have key : VR g (.list sz' ((xs.take hh.toNat).drop l.toNat)) (.slice (some ⟨b, c + l.toNat * sz', none⟩) (hh.toNat - l.toNat) (cap - l.toNat)) := by
          have := VR.list (g := g) sz' ((xs.take hh.toNat).drop l.toNat) b (c + l.toNat * sz') (cap - l.toNat) (fun i j => cs (l.toNat + i) j) (by omega)
            (fun i hi => by rw [hlen] at hi; rw [hget i hi]; exact hln _ (by omega))
            (fun i j hi hj => by
              rw [hlen] at hi
              have := hc1 (l.toNat + i) j (by omega) hj
              rw [Nat.add_mul, ← Nat.add_assoc] at this; exact this)
            (fun i j hi hj => by rw [hlen] at hi; rw [hget i hi]; exact hc2 _ _ (by omega) hj)
          rwa [hlen] at this
        have run : (execOp a.eval o).run P w = .ok (.value (.slice (if cap = l.toNat then some ⟨b, c, none⟩ else some ⟨b, c + l.toNat * sz', none⟩) (hh.toNat - l.toNat) (cap - l.toNat))) w := by
          simp [execOp, ho, Instr.sliceAt, run_underlying' hd, Instr.slice, hu, hb', run_sizeOf hs, addr_add]
        refine ⟨_, run, ?_⟩
        by_cases e : cap = l.toNat
        · rw [if_pos e]
          have hz : hh.toNat - l.toNat = 0 := by omega
          have hnil : (xs.take hh.toNat).drop l.toNat = [] := List.eq_nil_of_length_eq_zero (by omega)
          rw [hnil, hz, e, Nat.sub_self]
          exact VR.list sz' [] b c 0 (fun _ _ => undef) (Nat.le_refl _) (fun i hi => absurd hi (Nat.not_lt_zero _)) (fun i j hi => absurd hi (Nat.not_lt_zero _)) (fun i j hi => absurd hi (Nat.not_lt_zero _))
        · rw [if_neg e]; exact key
      · cases h
    · cases h
  · rename_i el ag sz by' id sz' len e1 e2
    rw [e2] at hy
    obtain ⟨d, hd, rfl, hs, _⟩ := tyk_spec e1
    rcases hy.sl_inv' with ⟨rfl, hu, hb⟩ | ⟨b, cap, hu, hb, hcap, hrw⟩
    · split at h
      · rename_i l hh hl hr
        split at h
        · rename_i hc
          obtain ⟨rfl, h0, hle⟩ := hc
          simp only [Int.natCast_zero] at hr hle
          obtain rfl : hh = 0 := by omega
          simp only [Option.some.injEq] at h; subst h
          have hb' := run_sliceBounds (P := P) (w := w) (b := true) (len := 0) (cap := 0) (boundA_spec hl hlo) (boundA_spec hr hhi) (Int.le_refl _) (Int.le_refl _) (by omega)
          refine ⟨.slice none 0 0, ?_, .slNil _ _ hb⟩
          simp [execOp, ho, Instr.sliceAt, run_underlying' hd, Instr.slice, hu, hb', run_sizeOf hs]
        · cases h
      · cases h
    split at h
    · rename_i l hh hl hr
      split at h
      · rename_i hc
        obtain ⟨rfl, h0, hle⟩ := hc
        simp only [Option.some.injEq] at h; subst h
        have hb' := run_sliceBounds (P := P) (w := w) (b := true) (len := len) (cap := cap) (boundA_spec hl hlo) (boundA_spec hr hhi) (Int.le_refl _) h0 (by omega)
        refine ⟨.slice (some ⟨b, 0, none⟩) hh.toNat cap, ?_, .sl _ _ _ _ _ hb (by omega) hrw⟩
        have e0 : Addr.add ⟨b, 0, none⟩ 0 = ⟨b, 0, none⟩ := by simp [Addr.add]
        simp [execOp, ho, Instr.sliceAt, run_underlying' hd, Instr.slice, hu, hb', run_sizeOf hs, e0]
      · cases h
    · cases h
  · rename_i el ag sz by' e1 e2
    rw [e2] at hy
    obtain ⟨d, hd, rfl, hs, _⟩ := tyk_spec e1
    have hu := hy.nilSl_inv
    split at h
    · rename_i l hh hl hr
      split at h
      · rename_i hc
        obtain ⟨rfl, rfl⟩ := hc
        simp only [Option.some.injEq] at h; subst h
        have hb' := run_sliceBounds (P := P) (w := w) (b := true) (len := 0) (cap := 0) (boundA_spec hl hlo) (boundA_spec hr hhi) (Int.le_refl _) (Int.le_refl _) (by omega)
        refine ⟨.slice none 0 0, ?_, .nilSl⟩
        simp [execOp, ho, Instr.sliceAt, run_underlying' hd, Instr.slice, hu, hb', run_sizeOf hs]
      · cases h
    · cases h
  · cases h

/-! ### lengths -/
def lenA (m : Mem) (k : Option TyK) (x : AV) : OpR :=
  match k, x with
  | some .str, .str s => pureR (.int .i64 s.length)
  | some (.slice ..), .list _ xs => pureR (.int .i64 xs.length)
  | some (.slice ..), .sl _ _ n => pureR (.int .i64 n)
  | some (.slice ..), .nilSl => pureR (.int .i64 0)
  | some (.map ..), .nilMap => pureR (.int .i64 0)
  | some (.map ..), .map id => match m id with
    | some (.map ks ag es clock) => .eff ⟨[(id, .map ks ag es clock)], .int .i64 es.length, []⟩
    | _ => .no
  | some (.arr n ..), _ => pureR (.int .i64 n)
  | _, _ => .no
theorem run_builtin {a : Act} {w w' : World} {b : Builtin} {args : Array Operand} {ats : Array TypeId} {r : Value} (ho : o.op = .call ⟨.builtin b, args, ats⟩)
    (h : (builtin b ats o.type (args.map fun | .const _ => true | _ => false) (args.map a.eval)).run P w = .ok (.value r) w') : (execOp a.eval o).run P w = .ok (.value r) w' := by
  simp only [execOp, ho, resolve, Sem.run_bind, Sem.run_pure, Result.andThen_ok, invoke]
  exact h
theorem eff_len {y : Operand} {t : TypeId} {m0 : Mem} {e : Eff} (ho : o.op = .call ⟨.builtin .len, #[y], #[t]⟩) (h : lenA m0 (tyk P t) (ρ y) = .eff e) : EffOK P o ρ sp e ∧ ∀ q, q ∈ e.need → m0 q.1 = some q.2 := by
  have run : ∀ {a : Act} {w : World} {r : Value}, (Builtin.len_ #[t] o.type #[a.eval y]).run P w = .ok r w → (execOp a.eval o).run P w = .ok (.value r) w := fun h =>
    run_builtin ho (by simp [builtin, h])
  have plain : ∀ {val : AV}, e = ⟨[], val, []⟩ → (∀ (g : Gh) (a : Act) (w : World), VR g (ρ y) (a.eval y) → ∃ v, (Builtin.len_ #[t] o.type #[a.eval y]).run P w = .ok v w ∧ VR g val v) → EffOK P o ρ sp e ∧ ∀ q, q ∈ e.need → m0 q.1 = some q.2 := by
    rintro val rfl hh
    refine ⟨EffOK.plain fun g a w hop => ?_, fun q hq => by cases hq⟩
    obtain ⟨v, h1, h2⟩ := hh g a w (hop y (by simp [Op.operands, Call.operands, ho]))
    exact ⟨v, run h1, h2⟩
  unfold lenA pureR at h
  split at h
  · rename_i s e1 e2
    obtain ⟨d, hd, rfl⟩ := tyk_spec e1
    simp only [OpR.eff.injEq] at h
    refine plain h.symm fun g a w hv => ?_
    rw [e2] at hv
    obtain ⟨b, hu, hb⟩ := hv.str_inv
    refine ⟨.int .i64 s.length, ?_, .int _ _⟩
    have : b.size = s.length := by rw [← hb]; simp
    simp [Builtin.len_, run_underlying' hd, hu, goInt, this]
  · rename_i el ag sz by' sz' xs e1 e2
    obtain ⟨d, hd, rfl, hs, _⟩ := tyk_spec e1
    simp only [OpR.eff.injEq] at h
    refine plain h.symm fun g a w hv => ?_
    rw [e2] at hv
    rcases hv.list_inv with ⟨rfl, hu | ⟨a0, cap, hu⟩⟩ | ⟨b, c, cap, cs, hu, _⟩
    · exact ⟨.int .i64 0, by simp [Builtin.len_, run_underlying' hd, hu, goInt], .int _ _⟩
    · exact ⟨.int .i64 0, by simp [Builtin.len_, run_underlying' hd, hu, goInt], .int _ _⟩
    exact ⟨.int .i64 xs.length, by simp [Builtin.len_, run_underlying' hd, hu, goInt], .int _ _⟩
  · rename_i el ag sz by' id sz' n e1 e2
    obtain ⟨d, hd, rfl, hs, _⟩ := tyk_spec e1
    simp only [OpR.eff.injEq] at h
    refine plain h.symm fun g a w hv => ?_
    rw [e2] at hv
    rcases hv.sl_inv' with ⟨rfl, hu, _⟩ | ⟨b, cap, hu, _⟩
    · exact ⟨.int .i64 0, by simp [Builtin.len_, run_underlying' hd, hu, goInt], .int _ _⟩
    exact ⟨.int .i64 n, by simp [Builtin.len_, run_underlying' hd, hu, goInt], .int _ _⟩
  · rename_i el ag sz by' e1 e2
    obtain ⟨d, hd, rfl, hs, _⟩ := tyk_spec e1
    simp only [OpR.eff.injEq] at h
    refine plain h.symm fun g a w hv => ?_
    rw [e2] at hv
    exact ⟨.int .i64 0, by simp [Builtin.len_, run_underlying' hd, hv.nilSl_inv, goInt], .int _ _⟩
  · rename_i k el e1 e2
    obtain ⟨d, hd, rfl⟩ := tyk_spec e1
    simp only [OpR.eff.injEq] at h
    refine plain h.symm fun g a w hv => ?_
    rw [e2] at hv
    exact ⟨.int .i64 0, by simp [Builtin.len_, run_underlying' hd, hv.nilMap_inv, goInt], .int _ _⟩
  · rename_i k el id e1 e2
    obtain ⟨d, hd, rfl⟩ := tyk_spec e1
    split at h
    · rename_i ks ag es clock hm0
      simp only [OpR.eff.injEq] at h; subst h
      refine ⟨EffOK.of fun x g a w m hm hnd hop _ => ?_, fun q hq => by simp only [List.mem_singleton] at hq; subst hq; exact hm0⟩
      have hv := hop y (by simp [Op.operands, Call.operands, ho])
      rw [e2] at hv
      obtain ⟨b, hu, hb⟩ := hv.map_inv
      obtain ⟨b', h1, h2, h3, h4⟩ := hm.obj id _ (hnd (id, .map ks ag es clock) (by simp))
      rw [hb] at h1; simp only [Option.some.injEq] at h1; subst h1
      obtain ⟨⟨ents, c1, c2⟩, _⟩ := h4
      refine ⟨g, .value (.int .i64 es.length), _, w, run ?_, .inl rfl, Gh.le_refl g, fun _ _ => rfl, .int _ _, hm⟩
      have c3 : ents.size = es.length := by rw [← Array.length_toList]; exact c2.length
      simp [Builtin.len_, run_underlying' hd, hu, getObj, Sem.run, c1, goInt, c3]
    · cases h
  · rename_i n el ag sz e1
    obtain ⟨d, hd, rfl, hs⟩ := tyk_spec e1
    simp only [OpR.eff.injEq] at h
    refine plain h.symm fun g a w hv => ?_
    exact ⟨.int .i64 n, by simp [Builtin.len_, run_underlying' hd, goInt], .int _ _⟩
  · cases h

/-! ### max, min of two numbers -/
def maxA (x y : AV) : Option AV := match x, y with
  | .int k a, .int k' b => if k = k' then some (.int k (if b > a then b else a)) else none
  | _, _ => none
def minA (x y : AV) : Option AV := match x, y with
  | .int k a, .int k' b => if k = k' then some (.int k (if b < a then b else a)) else none
  | _, _ => none
theorem eff_max {y z : Operand} {ts : Array TypeId} {v : AV} (ho : o.op = .call ⟨.builtin .max, #[y, z], ts⟩) (h : maxA (ρ y) (ρ z) = some v) : EffOK P o ρ sp ⟨[], v, []⟩ := by
  refine EffOK.plain fun g a w hop => ?_
  have hy := hop y (by simp [Op.operands, Call.operands, ho])
  have hz := hop z (by simp [Op.operands, Call.operands, ho])
  unfold maxA at h
  split at h
  · rename_i k a' k' b' e1 e2
    rw [e1] at hy; rw [e2] at hz
    split at h
    · rename_i hk; subst hk
      simp only [Option.some.injEq] at h; subst h
      refine ⟨_, run_builtin ho ?_, .int _ _⟩
      simp [builtin, Builtin.max_, Builtin.max2, hy.int_inv, hz.int_inv]
    · cases h
  · cases h
theorem eff_min {y z : Operand} {ts : Array TypeId} {v : AV} (ho : o.op = .call ⟨.builtin .min, #[y, z], ts⟩) (h : minA (ρ y) (ρ z) = some v) : EffOK P o ρ sp ⟨[], v, []⟩ := by
  refine EffOK.plain fun g a w hop => ?_
  have hy := hop y (by simp [Op.operands, Call.operands, ho])
  have hz := hop z (by simp [Op.operands, Call.operands, ho])
  unfold minA at h
  split at h
  · rename_i k a' k' b' e1 e2
    rw [e1] at hy; rw [e2] at hz
    split at h
    · rename_i hk; subst hk
      simp only [Option.some.injEq] at h; subst h
      refine ⟨_, run_builtin ho ?_, .int _ _⟩
      simp [builtin, Builtin.min_, Builtin.min2, hy.int_inv, hz.int_inv]
    · cases h
  · cases h
end
end Go.Ab
