/- What single operations do, one by one: arithmetic, comparisons, addresses, slices of strings. -/
import Derived.Test.YtpdmiojenhodlaaFw7
set_option linter.unusedVariables false
set_option linter.unusedSimpArgs false
namespace Go.Ab

section
variable {P : Program} {o : Oper} {ρ : Operand → AV} {sp : Oid → Prop}

/-! ### binary operations -/
def intA (op : BinOp) (k : IntKind) (a b : Int) : Option AV :=
  match op with
  | .add => some (.int k (k.wrap (a + b)))
  | .sub => some (.int k (k.wrap (a - b)))
  | .mul => some (.int k (k.wrap (a * b)))
  | .quo => if b ≠ 0 then some (.int k (k.wrap (a.tdiv b))) else none
  | .rem => if b ≠ 0 then some (.int k (a.tmod b)) else none
  | .and => some (.int k (k.wrap (BitVec.ofInt k.bits a &&& BitVec.ofInt k.bits b).toNat))
  | .or => some (.int k (k.wrap (BitVec.ofInt k.bits a ||| BitVec.ofInt k.bits b).toNat))
  | .xor => some (.int k (k.wrap (BitVec.ofInt k.bits a ^^^ BitVec.ofInt k.bits b).toNat))
  | .andNot => some (.int k (k.wrap (BitVec.ofInt k.bits a &&& ~~~ BitVec.ofInt k.bits b).toNat))
  | .eql => some (.bool (a == b))
  | .neq => some (.bool (a != b))
  | .lss => some (.bool (decide (a < b)))
  | .leq => some (.bool (decide (a ≤ b)))
  | .gtr => some (.bool (decide (b < a)))
  | .geq => some (.bool (decide (b ≤ a)))
  | _ => none
def shiftA (op : BinOp) (k : IntKind) (a b : Int) : Option AV :=
  if b < 0 then none else
  match op with
  | .shl => some (.int k (k.wrap (a * 2 ^ (min b.toNat k.bits))))
  | .shr => some (.int k (a.fdiv (2 ^ (min b.toNat k.bits))))
  | _ => none
def strA (op : BinOp) (a b : List UInt8) : Option AV :=
  match op with
  | .add => if (a.length + b.length : Nat) ≤ 9223372036854775807 then some (.str (a ++ b)) else none
  | .eql => some (.bool (a == b))
  | .neq => some (.bool (a != b))
  | .lss => some (.bool (Op.bytesLess a b))
  | .leq => some (.bool (Op.bytesLess a b || a == b))
  | .gtr => some (.bool (!(Op.bytesLess a b || a == b)))
  | .geq => some (.bool (!Op.bytesLess a b))
  | _ => none
def isNilA : AV → Option Bool
  | .nilPtr | .nilSl | .nilMap | .nilFn | .nilIface => some true
  | .ptr .. | .aptr .. | .eptr .. | .list _ (_ :: _) | .sl _ _ (_ + 1) | .map .. | .fn .. | .iface .. => some false
  | _ => none

def binA (op : BinOp) (x y : AV) : Option AV :=
  match x, y with
  | .int k a, .int k' b =>
    match op with
    | .shl => shiftA .shl k a b
    | .shr => shiftA .shr k a b
    | op => if k = k' then intA op k a b else none
  | .str a, .str b => strA op a b
  | _, _ => none

theorem run_bin {t t' : TypeId} {p q : Operand} {op : BinOp} {a : Act} {w : World} {r : Value} (ho : o.op = .binOp op t p q t') (h1 : (eqGuard op t p q (a.eval p) (a.eval q)).run P w = .ok () w)
    (h2 : (binOp op t (a.eval p) (a.eval q)).run P w = .ok r w) : (execOp a.eval o).run P w = .ok (.value r) w := by
  simp [execOp, ho, h1, h2]

theorem eqGuard_int (op : BinOp) (t : TypeId) (p q : Operand) (k k' : IntKind) (a b : Int) (w : World) : (eqGuard op t p q (.int k a) (.int k' b)).run P w = .ok () w := by
  cases op <;> rfl
theorem eqGuard_string (op : BinOp) (t : TypeId) (p q : Operand) (a b : ByteArray) (w : World) : (eqGuard op t p q (.string a) (.string b)).run P w = .ok () w := by
  cases op <;> rfl

theorem intA_run {op : BinOp} {k : IntKind} {a b : Int} {v : AV} (h : intA op k a b = some v) (t : TypeId) (g : Gh) (w : World) : ∃ r, (binOp op t (.int k a) (.int k b)).run P w = .ok r w ∧ VR g v r := by
  cases op <;> simp only [intA] at h <;> first | (cases h; done) | skip
  case quo =>
    split at h
    · rename_i hb; simp only [Option.some.injEq] at h; subst h; refine ⟨_, ?_, .int _ _⟩; simp [binOp, Op.intDiv, hb]
    · cases h
  case rem =>
    split at h
    · rename_i hb; simp only [Option.some.injEq] at h; subst h; refine ⟨_, ?_, .int _ _⟩; simp [binOp, Op.intDiv, hb]
    · cases h
  all_goals (simp only [Option.some.injEq] at h; subst h)
  all_goals first | (refine ⟨_, ?_, .int _ _⟩; simp [binOp, Op.intArith, Op.intBits]; done) | (refine ⟨_, ?_, .bool _⟩; simp [binOp, Op.intCmp]; done)

theorem shiftA_run {op : BinOp} {k k' : IntKind} {a b : Int} {v : AV} (h : shiftA op k a b = some v) (t : TypeId) (g : Gh) (w : World) : ∃ r, (binOp op t (.int k a) (.int k' b)).run P w = .ok r w ∧ VR g v r := by
  unfold shiftA at h
  split at h
  · cases h
  · rename_i hb
    cases op <;> simp only at h <;> first | (cases h; done) | skip
    all_goals (simp only [Option.some.injEq] at h; subst h; refine ⟨_, ?_, .int _ _⟩; simp [binOp, Op.shift, hb])

theorem strA_run {op : BinOp} {x y : ByteArray} {v : AV} (h : strA op x.data.toList y.data.toList = some v) (t : TypeId) (g : Gh) (w : World) : ∃ r, (binOp op t (.string x) (.string y)).run P w = .ok r w ∧ VR g v r := by
  cases op <;> simp only [strA] at h <;> first | (cases h; done) | skip
  case add =>
    split at h
    · rename_i hl
      simp only [Option.some.injEq] at h; subst h
      refine ⟨.string (x ++ y), ?_, .str _ _ (by simp)⟩
      have hl' : ¬ ((x.size + y.size : Nat) : Int) > IntKind.i64.max := by
        simp only [Array.length_toList] at hl
        have e1 : x.data.size = x.size := rfl
        have e2 : y.data.size = y.size := rfl
        have e3 : IntKind.i64.max = 9223372036854775807 := by decide
        rw [e3]; omega
      simp only [binOp, Op.stringOp, if_neg hl', Sem.run_pure]
    · cases h
  all_goals (simp only [Option.some.injEq] at h; subst h; refine ⟨_, ?_, .bool _⟩; simp [binOp, Op.stringOp, ByteArray.toList_eq, bne])

theorem eff_bin {t t' : TypeId} {p q : Operand} {op : BinOp} {v : AV} (ho : o.op = .binOp op t p q t') (h : binA op (ρ p) (ρ q) = some v) : EffOK P o ρ sp ⟨[], v, []⟩ := by
  refine EffOK.plain fun g a w hop => ?_
  have hp := hop p (by simp [Op.operands, ho])
  have hq := hop q (by simp [Op.operands, ho])
  unfold binA at h
  split at h
  · rename_i k a' k' b' e1 e2
    rw [e1] at hp; rw [e2] at hq
    have ep := hp.int_inv; have eq := hq.int_inv
    have fin : (∃ r, (binOp op t (.int k a') (.int k' b')).run P w = .ok r w ∧ VR g v r) → ∃ r, (execOp a.eval o).run P w = .ok (.value r) w ∧ VR g v r := by
      rintro ⟨r, h1, h2⟩
      exact ⟨r, run_bin ho (by rw [ep, eq]; exact eqGuard_int ..) (by rw [ep, eq]; exact h1), h2⟩
    split at h
    · exact fin (shiftA_run h t g w)
    · exact fin (shiftA_run h t g w)
    · split at h
      · rename_i hk; subst hk; exact fin (intA_run h t g w)
      · cases h
  · rename_i a' b' e1 e2
    rw [e1] at hp; rw [e2] at hq
    obtain ⟨x, ex, rfl⟩ := hp.str_inv
    obtain ⟨y, ey, rfl⟩ := hq.str_inv
    obtain ⟨r, h1, h2⟩ := strA_run h t g w
    exact ⟨r, run_bin ho (by rw [ex, ey]; exact eqGuard_string ..) (by rw [ex, ey]; exact h1), h2⟩
  · cases h

/-! ### bools, nil -/
def boolA (P : Program) (op : BinOp) (t : TypeId) (x y : AV) : Option AV :=
  match tyk P t, op, x, y with
  | some .bool, .eql, .bool a, .bool b => some (.bool (a == b))
  | some .bool, .neq, .bool a, .bool b => some (.bool (a != b))
  | _, _, _, _ => none
theorem eff_bool {t t' : TypeId} {p q : Operand} {op : BinOp} {v : AV} (ho : o.op = .binOp op t p q t') (h : boolA P op t (ρ p) (ρ q) = some v) : EffOK P o ρ sp ⟨[], v, []⟩ := by
  refine EffOK.plain fun g a w hop => ?_
  have hp := hop p (by simp [Op.operands, ho])
  have hq := hop q (by simp [Op.operands, ho])
  have ht : tyk P t = some .bool → P.underlying t = some .bool := by
    intro h; unfold tyk at h
    split at h <;> first | assumption | (simp at h; done) | (split at h <;> simp at h; done)
  unfold boolA at h
  split at h
  · rename_i a' b' e0 e1 e2
    rw [e1] at hp; rw [e2] at hq
    have ep := hp.bool_inv; have eq := hq.bool_inv
    simp only [Option.some.injEq] at h; subst h
    exact ⟨.bool (a' == b'), run_bin ho (by rw [ep, eq]; rfl) (by rw [ep, eq]; simp only [binOp, Op.equal, Op.maxDepth, Sem.run_bind, run_equalIn_bool w 9999 t a' b' (ht e0), Result.andThen_ok, Sem.run_pure]), .bool _⟩
  · rename_i a' b' e0 e1 e2
    rw [e1] at hp; rw [e2] at hq
    have ep := hp.bool_inv; have eq := hq.bool_inv
    simp only [Option.some.injEq] at h; subst h
    exact ⟨.bool (a' != b'), run_bin ho (by rw [ep, eq]; rfl) (by rw [ep, eq]; simp only [binOp, Op.equal, Op.maxDepth, Sem.run_bind, run_equalIn_bool w 9999 t a' b' (ht e0), Result.andThen_ok, Sem.run_pure, bne]), .bool _⟩
  · cases h
end
end Go.Ab
