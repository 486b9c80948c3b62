/- What single operations do: not, minus; conversions of numbers; nil checks; fields, elements, parts of strings and slices; tuples; functions and interfaces. -/
import Derived.Test.YtpdmiojenhodlaaFw9
set_option linter.unusedVariables false
set_option linter.unusedSimpArgs false
namespace Go.Ab
section
variable {P : Program} {o : Oper} {ρ : Operand → AV} {sp : Oid → Prop}

/-! ### one operand -/
def unA (op : UnOp) (x : AV) : Option AV :=
  match op, x with
  | .not, .bool b => some (.bool (!b))
  | .neg, .int k n => some (.int k (k.wrap (0 - n)))
  | .xor, .int k n => some (.int k (k.wrap (BitVec.ofInt k.bits (if k.signed then -1 else k.max) ^^^ BitVec.ofInt k.bits n).toNat))
  | _, _ => none
theorem eff_un {t : TypeId} {y : Operand} {op : UnOp} {v : AV} (ho : o.op = .unOp op t y) (h : unA op (ρ y) = some v) : EffOK P o ρ sp ⟨[], v, []⟩ := by
  refine EffOK.plain fun g a w hop => ?_
  have hy := hop y (by simp [Op.operands, ho])
  unfold unA at h
  split at h
  · rename_i b e; rw [e] at hy; simp only [Option.some.injEq] at h; subst h
    exact ⟨.bool (!b), by simp [execOp, ho, hy.bool_inv, Op.unary], .bool _⟩
  · rename_i k n e; rw [e] at hy; simp only [Option.some.injEq] at h; subst h
    exact ⟨.int k (k.wrap (0 - n)), by simp [execOp, ho, hy.int_inv, Op.unary, Op.intArith], .int _ _⟩
  · rename_i k n e; rw [e] at hy; simp only [Option.some.injEq] at h; subst h
    refine ⟨_, ?_, .int _ _⟩; simp [execOp, ho, hy.int_inv, Op.unary, Op.intBits]
  · cases h

/-! ### numbers to numbers -/
def convA (P : Program) (src dst : TypeId) (x : AV) : Option AV :=
  match tyk P src, tyk P dst, x with
  | some (.int _), some (.int k), .int _ n => some (.int k (k.wrap n))
  | some .str, some .str, .str s => some (.str s)
  | _, _, _ => none
theorem eff_conv {s d : TypeId} {y : Operand} {v : AV} (ho : o.op = .convert s d y) (h : convA P s d (ρ y) = some v) : EffOK P o ρ sp ⟨[], v, []⟩ := by
  refine EffOK.plain fun g a w hop => ?_
  have hy := hop y (by simp [Op.operands, ho])
  unfold convA at h
  split at h
  · rename_i k' k k'' n e1 e2 e3
    rw [e3] at hy; simp only [Option.some.injEq] at h; subst h
    obtain ⟨_, h1, rfl⟩ := tyk_spec e1
    obtain ⟨_, h2, rfl⟩ := tyk_spec e2
    refine ⟨_, ?_, .int _ _⟩
    simp [execOp, ho, hy.int_inv, convert, run_underlying' h1, run_underlying' h2, Conv.intToInt]
  · rename_i l e1 e2 e3
    rw [e3] at hy; simp only [Option.some.injEq] at h; subst h
    obtain ⟨b, hb, _⟩ := hy.str_inv
    obtain ⟨_, h1, rfl⟩ := tyk_spec e1
    obtain ⟨_, h2, rfl⟩ := tyk_spec e2
    refine ⟨a.eval y, ?_, hy⟩
    simp [execOp, ho, hb, convert, run_underlying' h1, run_underlying' h2]
  · cases h

/-! ### nil checks -/
def isFuncF : Fn → Bool
  | .func _ => true
  | _ => false
def nonNil : AV → Bool
  | .ptr .. | .aptr .. | .eptr .. => true
  | .fn f _ _ => isFuncF f
  | _ => false
theorem eff_nilCheck {y : Operand} (ho : o.op = .nilCheck y) (h : nonNil (ρ y) = true) : EffOK P o ρ sp ⟨[], ρ y, []⟩ := by
  refine EffOK.plain fun g a w hop => ⟨a.eval y, ?_, hop y (by simp [Op.operands, ho])⟩
  have hy := hop y (by simp [Op.operands, ho])
  simp only [execOp, ho]
  cases hv : ρ y <;> rw [hv] at h hy <;> simp only [nonNil] at h <;> try (cases h; done)
  · obtain ⟨b, hb, _⟩ := hy.ptr_inv; rw [hb]; rfl
  · obtain ⟨b, hb, _⟩ := hy.aptr_inv; rw [hb]; rfl
  · obtain ⟨b, k, cs, hb, _⟩ := hy.eptr_inv; rw [hb]; rfl
  · rename_i f xs ys
    obtain ⟨b, k, hb, _⟩ := hy.fn_inv; rw [hb]
    cases f <;> first | rfl | (cases h; done)

/-! ### fields -/
def fldOf (P : Program) (t : TypeId) (k : Nat) : Option (Nat × Bool × Nat) :=
  match tyk P t with
  | some (.struct l) => l[k]?
  | _ => none
theorem fldOf_spec {t : TypeId} {k off : Nat} {ag : Bool} {n : Nat} (h : fldOf P t k = some (off, ag, n)) : ∃ (fs : Array Field) (f : Field), P.underlying t = some (.struct fs) ∧ fs[k]? = some f ∧ f.offset = off ∧ shp P f.type = some (ag, n) := by
  unfold fldOf at h
  split at h
  · rename_i l hl
    obtain ⟨d, hd, fs, rfl, hm⟩ := tyk_spec hl
    refine ⟨fs, ?_⟩
    have key : ∀ (fs : List Field) (l : List (Nat × Bool × Nat)), fs.mapM (fun (f : Field) => (shp P f.type).map fun q => (f.offset, q.1, q.2)) = some l → ∀ k : Nat, l[k]? = some (off, ag, n) → ∃ f : Field, fs[k]? = some f ∧ f.offset = off ∧ shp P f.type = some (ag, n) := by
      intro fs
      induction fs with
      | nil => intro l hl k hk; simp at hl; subst hl; simp at hk
      | cons f fs ih =>
        intro l hl k hk
        simp only [List.mapM_cons, Option.bind_eq_bind, Option.bind_eq_some_iff, Option.map_eq_some_iff, Option.pure_def, Option.some.injEq] at hl
        obtain ⟨q, ⟨q', hq', rfl⟩, rest, hrest, rfl⟩ := hl
        cases k with
        | zero =>
          simp only [List.getElem?_cons_zero, Option.some.injEq, Prod.mk.injEq] at hk
          obtain ⟨h1, h2, h3⟩ := hk
          exact ⟨f, rfl, h1, by rw [hq', ← h2, ← h3]⟩
        | succ k => simpa using ih rest hrest k (by simpa using hk)
    obtain ⟨f, h1, h2, h3⟩ := key fs.toList l hm k h
    exact ⟨f, hd, by simpa using h1, h2, h3⟩
  · cases h

def partA (ag : Bool) (l : List AV) (off n : Nat) : AV := if ag then .agg ((l.drop off).take n) else l.getD off .undef
def fieldAddrA (q : Option (Nat × Bool × Nat)) (x : AV) : Option AV :=
  match q with
  | some (off, ag, n) => if n = 0 then none else match x with
    | .ptr id k => some (.ptr id (k + off))
    | .aptr id sz i k => some (.aptr id sz i (k + off))
    | .eptr v => if off + n ≤ v.cells.length ∧ (ag = true ∨ n = 1 ∧ (v.cells.getD off .undef).one = true) then some (.eptr (partA ag v.cells off n)) else none
    | _ => none
  | none => none
theorem one_cells {v : AV} (h : v.one = true) : v.cells = [v] := by cases v <;> first | rfl | (cases h; done)
theorem eff_fieldAddr {t : TypeId} {y : Operand} {k : Nat} {v : AV} (ho : o.op = .fieldAddr t y k) (h : fieldAddrA (fldOf P t k) (ρ y) = some v) : EffOK P o ρ sp ⟨[], v, []⟩ := by
  refine EffOK.plain fun g a w hop => ?_
  have hy := hop y (by simp [Op.operands, ho])
  unfold fieldAddrA at h
  split at h
  · rename_i off ag n hq
    obtain ⟨fs, f, h1, h2, h3, h4⟩ := fldOf_spec hq
    split at h
    · cases h
    · rename_i hn
      have run : ∀ (b c : Nat), a.eval y = .pointer (some ⟨b, c, none⟩) → (execOp a.eval o).run P w = .ok (.value (.pointer (some ⟨b, c + off, none⟩))) w := by
        intro b c hu
        simp [execOp, ho, Instr.fieldAt, run_underlying' h1, h2, hu, Instr.sureAddr, fieldPlace, run_sizeOf h4, hn, addr_add, h3]
      split at h
      · rename_i id c e; rw [e] at hy; simp only [Option.some.injEq] at h; subst h
        obtain ⟨b, hu, hb⟩ := hy.ptr_inv
        exact ⟨_, run _ _ hu, .ptr _ _ _ hb⟩
      · rename_i id sz i c e; rw [e] at hy; simp only [Option.some.injEq] at h; subst h
        obtain ⟨b, hu, hb⟩ := hy.aptr_inv
        refine ⟨_, run _ _ hu, ?_⟩
        rw [Nat.add_assoc]; exact .aptr _ _ _ _ _ hb
      · rename_i u e; rw [e] at hy
        split at h
        · rename_i hc
          obtain ⟨hle, hag⟩ := hc
          simp only [Option.some.injEq] at h; subst h
          obtain ⟨b, c, cs, hu, hc1, hc2⟩ := hy.eptr_inv
          refine ⟨_, run _ _ hu, ?_⟩
          cases ag with
          | true =>
            refine .eptr _ b (c + off) (fun j => cs (off + j)) (fun j hj => ?_) (fun j hj => ?_)
            · simp only [partA, if_true, AV.cells, List.length_take, List.length_drop] at hj
              rw [Nat.add_assoc]; exact hc1 (off + j) (by omega)
            · simp only [partA, if_true, AV.cells, List.length_take, List.length_drop] at hj ⊢
              have e1 : ((u.cells.drop off).take n).getD j .undef = u.cells.getD (off + j) .undef := by rw [getD_take _ _ _ _ (by omega), getD_drop]
              have := hc2 (off + j) (by omega)
              rw [← e1] at this; exact this
          | false =>
            simp only [Bool.false_eq_true, false_or] at hag
            obtain ⟨rfl, hone⟩ := hag
            simp only [partA, Bool.false_eq_true, if_false]
            refine .eptr _ b (c + off) (fun _ => cs off) (fun j hj => ?_) (fun j hj => ?_)
            · rw [one_cells hone] at hj; simp only [List.length_cons, List.length_nil] at hj
              have : j = 0 := by omega
              subst this; exact hc1 off (by omega)
            · rw [one_cells hone] at hj ⊢; simp only [List.length_cons, List.length_nil] at hj
              have : j = 0 := by omega
              subst this; exact hc2 off (by omega)
        · cases h
      · cases h
  · cases h

def fieldA (q : Option (Nat × Bool × Nat)) (x : AV) : Option AV :=
  match q, x with
  | some (off, ag, n), .agg cs => if off + n ≤ cs.length ∧ (ag = true ∨ n = 1) then some (partA ag cs off n) else none
  | _, _ => none
theorem eff_field {t : TypeId} {y : Operand} {k : Nat} {v : AV} (ho : o.op = .field t y k) (h : fieldA (fldOf P t k) (ρ y) = some v) : EffOK P o ρ sp ⟨[], v, []⟩ := by
  refine EffOK.plain fun g a w hop => ?_
  have hy := hop y (by simp [Op.operands, ho])
  unfold fieldA at h
  split at h
  · rename_i off ag n cs hq e
    obtain ⟨fs, f, h1, h2, h3, h4⟩ := fldOf_spec hq
    rw [e] at hy
    split at h
    · rename_i hc
      obtain ⟨hle, hag⟩ := hc
      simp only [Option.some.injEq] at h; subst h
      obtain ⟨u, hu, hsz, hv⟩ := hy.agg_inv
      obtain ⟨r, hr, hm⟩ := run_part (P := P) h4 (fun h => by rcases hag with h' | h'; rw [h] at h'; cases h'; exact h') hsz hv off hle w
      refine ⟨r, by simp [execOp, ho, Instr.field, run_underlying' h1, h2, hu, asAgg, h3, hr], ?_⟩
      cases ag with
      | true =>
        simp only [Made, if_true] at hm
        obtain ⟨arr, rfl, m1, m2⟩ := hm
        exact .agg _ _ m1 m2
      | false =>
        simp only [Made, Bool.false_eq_true, if_false] at hm
        simp only [partA, Bool.false_eq_true, if_false]
        have h1n : n = 1 := by rcases hag with h' | h'; cases h'; exact h'
        have := hm.2
        rw [getD_take _ _ _ _ (by omega), getD_drop] at this
        exact this
    · cases h
  · cases h

/-! ### elements -/
def indexAddrA (k : Option TyK) (x i : AV) : Option AV :=
  match k, x, i with
  | some (.slice _ _ sz _), .list sz' xs, .int _ n => if sz' = sz ∧ 0 ≤ n ∧ n < xs.length then some (.eptr (xs.getD n.toNat .undef)) else none
  | some (.slice _ _ sz _), .sl id sz' len, .int _ n => if sz' = sz ∧ 0 ≤ n ∧ n < len then some (.aptr id sz n.toNat 0) else none
  | some (.arr len _ _ sz), .ptr id off, .int _ n => if 0 ≤ n ∧ n < len then some (.ptr id (off + n.toNat * sz)) else none
  | _, _, _ => none
theorem eff_indexAddr {t : TypeId} {y z : Operand} {v : AV} (ho : o.op = .indexAddr t y z) (h : indexAddrA (tyk P t) (ρ y) (ρ z) = some v) : EffOK P o ρ sp ⟨[], v, []⟩ := by
  refine EffOK.plain fun g a w hop => ?_
  have hy := hop y (by simp [Op.operands, ho])
  have hz := hop z (by simp [Op.operands, ho])
  unfold indexAddrA at h
  split at h
  · rename_i el ag sz by' sz' xs k n e1 e2 e3
    rw [e2] at hy; rw [e3] at hz
    split at h
    · rename_i hc
      obtain ⟨rfl, h0, hlt⟩ := hc
      simp only [Option.some.injEq] at h; subst h
      obtain ⟨d, hd, rfl, hs, _⟩ := tyk_spec e1
      have hn : n.toNat < xs.length := by omega
      rcases hy.list_inv with ⟨rfl, _⟩ | ⟨b, c, cap, cs, hu, hcap, hl, hc1, hc2⟩
      · exact absurd hn (Nat.not_lt_zero _)
      refine ⟨.pointer (some ⟨b, c + n.toNat * sz', none⟩), ?_, .eptr _ b _ (cs n.toNat) (fun j hj => hc1 _ _ hn (by rw [hl _ hn] at hj; exact hj)) (fun j hj => hc2 _ _ hn (by rw [hl _ hn] at hj; exact hj))⟩
      simp [execOp, ho, Instr.indexAt, hz.int_inv, hu, asIntOf, run_underlying' hd, run_sizeOf hs, h0, hlt, addr_add]
    · cases h
  · rename_i el ag sz by' id sz' len k n e1 e2 e3
    rw [e2] at hy; rw [e3] at hz
    split at h
    · rename_i hc
      obtain ⟨rfl, h0, hlt⟩ := hc
      simp only [Option.some.injEq] at h; subst h
      obtain ⟨d, hd, rfl, hs, _⟩ := tyk_spec e1
      obtain ⟨b, cap, hu, hb, hcap, hrw⟩ := hy.sl_inv'.resolve_left (fun h => by omega)
      refine ⟨.pointer (some ⟨b, n.toNat * sz' + 0, none⟩), ?_, .aptr _ _ _ _ _ hb⟩
      simp [execOp, ho, Instr.indexAt, hz.int_inv, hu, asIntOf, run_underlying' hd, run_sizeOf hs, h0, hlt, addr_add]
    · cases h
  · rename_i len el ag sz id off k n e1 e2 e3
    rw [e2] at hy; rw [e3] at hz
    split at h
    · rename_i hc
      obtain ⟨h0, hlt⟩ := hc
      simp only [Option.some.injEq] at h; subst h
      obtain ⟨d, hd, rfl, hs⟩ := tyk_spec e1
      obtain ⟨b, hu, hb⟩ := hy.ptr_inv
      refine ⟨.pointer (some ⟨b, off + n.toNat * sz, none⟩), ?_, .ptr _ _ _ hb⟩
      simp [execOp, ho, Instr.indexAt, hz.int_inv, hu, asIntOf, run_underlying' hd, run_sizeOf hs, h0, hlt, addr_add, Instr.sureAddr]
    · cases h
  · cases h

def indexA (k : Option TyK) (x i : AV) : Option AV :=
  match k, x, i with
  | some .str, .str s, .int _ n => if 0 ≤ n ∧ n < s.length then some (.int .u8 (s.getD n.toNat 0).toNat) else none
  | _, _, _ => none
theorem eff_index {t : TypeId} {y z : Operand} {v : AV} (ho : o.op = .index t y z) (h : indexA (tyk P t) (ρ y) (ρ z) = some v) : EffOK P o ρ sp ⟨[], v, []⟩ := by
  refine EffOK.plain fun g a w hop => ?_
  have hy := hop y (by simp [Op.operands, ho])
  have hz := hop z (by simp [Op.operands, ho])
  unfold indexA at h
  split at h
  · rename_i s k n e1 e2 e3
    rw [e2] at hy; rw [e3] at hz
    split at h
    · rename_i hc
      obtain ⟨h0, hlt⟩ := hc
      simp only [Option.some.injEq] at h; subst h
      obtain ⟨d, hd, rfl⟩ := tyk_spec e1
      obtain ⟨b, hu, hb⟩ := hy.str_inv
      have hsz : n.toNat < b.size := by
        have : b.data.toList.length = s.length := by rw [hb]
        simp only [Array.length_toList] at this
        have e : b.data.size = b.size := rfl
        omega
      have hget : b[n.toNat]? = some b[n.toNat] := by simp [hsz]
      have hval : b[n.toNat] = s.getD n.toNat 0 := by
        subst hb
        have : b[n.toNat] = b.data[n.toNat]'hsz := rfl
        rw [this]
        have h3 : n.toNat < b.data.size := hsz
        simp [List.getD_eq_getElem?_getD, Array.getElem?_eq_getElem h3]
      refine ⟨.int .u8 (b[n.toNat]).toNat, ?_, by rw [hval]; exact .int _ _⟩
      simp [execOp, ho, Instr.index, hz.int_inv, hu, asIntOf, run_underlying' hd, h0, hget]
    · cases h
  · cases h

/-! ### tuples -/
def extractA (x : AV) (i : Nat) : Option AV := match x with
  | .tuple vs => vs[i]?
  | _ => none
theorem eff_extract {y : Operand} {i : Nat} {v : AV} (ho : o.op = .extract y i) (h : extractA (ρ y) i = some v) : EffOK P o ρ sp ⟨[], v, []⟩ := by
  refine EffOK.plain fun g a w hop => ?_
  have hy := hop y (by simp [Op.operands, ho])
  unfold extractA at h
  split at h
  · rename_i vs e
    rw [e] at hy
    obtain ⟨arr, hu, hsz, hv⟩ := hy.tuple_inv
    have hi : i < vs.length := by
      rcases Nat.lt_or_ge i vs.length with h' | h'
      · exact h'
      · simp [List.getElem?_eq_none h'] at h
    have := hv i hi
    rw [List.getD_eq_getElem?_getD, h] at this
    have hia : i < arr.size := by omega
    refine ⟨arr[i], by simp [execOp, ho, Instr.extract, hu, hia], ?_⟩
    simpa [hia] using this
  · cases h

/-! ### functions, interface values -/
theorem vrs_map {g : Gh} {a : Act} {l : List Operand} (h : ∀ t, t ∈ l → VR g (ρ t) (a.eval t)) : ∀ j, j < (l.map ρ).length → VR g ((l.map ρ).getD j .undef) ((l.map a.eval).toArray.getD j undef) := by
  intro j hj
  simp only [List.length_map] at hj
  have := h l[j] (List.getElem_mem hj)
  simpa [List.getD_eq_getElem?_getD, hj] using this
theorem eff_makeFunc {f : Fn} {xs ys : Array Operand} (ho : o.op = .makeFunc f xs ys) : EffOK P o ρ sp ⟨[], .fn f (xs.toList.map ρ) (ys.toList.map ρ), []⟩ := by
  refine EffOK.plain fun g a w hop => ⟨.func f (xs.map a.eval) (ys.map a.eval), by simp [execOp, ho, Instr.makeFunc], ?_⟩
  have h1 : ∀ t, t ∈ xs.toList → VR g (ρ t) (a.eval t) := fun t ht => hop t (by have : t ∈ xs ∨ t ∈ ys := .inl (by simpa using ht); simpa [Op.operands, ho] using this)
  have h2 : ∀ t, t ∈ ys.toList → VR g (ρ t) (a.eval t) := fun t ht => hop t (by have : t ∈ xs ∨ t ∈ ys := .inr (by simpa using ht); simpa [Op.operands, ho] using this)
  have e1 : xs.map a.eval = (xs.toList.map a.eval).toArray := by apply Array.ext'; simp only [Array.toList_map]
  have e2 : ys.map a.eval = (ys.toList.map a.eval).toArray := by apply Array.ext'; simp only [Array.toList_map]
  rw [e1, e2]
  exact .fn _ _ _ _ _ (by simp) (by simp) (vrs_map h1) (vrs_map h2)

def ifaceA (k : Option TyK) (t : TypeId) (x : AV) : Option AV := match k with
  | some (.iface _) => none
  | none => none
  | _ => some (.iface t x)
theorem eff_makeInterface {t : TypeId} {y : Operand} {v : AV} (ho : o.op = .makeInterface t y) (h : ifaceA (tyk P t) t (ρ y) = some v) : EffOK P o ρ sp ⟨[], v, []⟩ := by
  refine EffOK.plain fun g a w hop => ?_
  have hy := hop y (by simp [Op.operands, ho])
  refine ⟨.iface t (a.eval y), ?_, ?_⟩
  · simp only [execOp, ho, Instr.makeInterface]
    unfold tyk at h
    cases hd : P.underlying t with
    | none => rw [hd] at h; cases h
    | some d =>
      rw [hd] at h
      cases d <;> simp [run_underlying' hd]
      simp [ifaceA] at h
  · unfold ifaceA at h
    split at h
    · cases h
    · cases h
    · simp only [Option.some.injEq] at h; subst h; exact .iface _ _ _ hy
end
end Go.Ab
