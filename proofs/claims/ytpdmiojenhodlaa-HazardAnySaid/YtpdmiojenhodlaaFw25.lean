/- What the walk lays open: conditions that are owed, memory as a list, names. -/
import Derived.Test.YtpdmiojenhodlaaFw24
set_option linter.unusedVariables false
set_option linter.unusedSimpArgs false
namespace Go.Ab

/-! ### what is owed -/
def gd (p : Prop) [Decidable p] (v : Option AV) : Option AV := if p then v else none
theorem gd_pos {p : Prop} [Decidable p] {v : Option AV} (h : p) : gd p v = v := if_pos h
def gdR (p : Prop) [Decidable p] (v : OpR) : OpR := if p then v else .no
theorem gdR_pos {p : Prop} [Decidable p] {v : OpR} (h : p) : gdR p v = v := if_pos h

theorem indexA_str (s : List UInt8) (k : IntKind) (n : Int) : indexA (some .str) (.str s) (.int k n) = gd (0 ≤ n ∧ n < s.length) (some (.int .u8 (s.getD n.toNat 0).toNat)) := rfl
theorem indexAddrA_list (el : TypeId) (ag : Bool) (sz by' sz' : Nat) (xs : List AV) (k : IntKind) (n : Int) : indexAddrA (some (.slice el ag sz by')) (.list sz' xs) (.int k n) = gd (sz' = sz ∧ 0 ≤ n ∧ n < xs.length) (some (.eptr (xs.getD n.toNat .undef))) := rfl
theorem indexAddrA_sl (el : TypeId) (ag : Bool) (sz by' sz' len : Nat) (id : Oid) (k : IntKind) (n : Int) : indexAddrA (some (.slice el ag sz by')) (.sl id sz' len) (.int k n) = gd (sz' = sz ∧ 0 ≤ n ∧ n < len) (some (.aptr id sz n.toNat 0)) := rfl
theorem indexAddrA_arr (el : TypeId) (ag : Bool) (sz len off : Nat) (id : Oid) (k : IntKind) (n : Int) : indexAddrA (some (.arr len el ag sz)) (.ptr id off) (.int k n) = gd (0 ≤ n ∧ n < len) (some (.ptr id (off + n.toNat * sz))) := rfl
theorem pieceA_str (s : List UInt8) (lo hi : Option AV) {l h : Int} (hl : boundA 0 lo = some l) (hh : boundA s.length hi = some h) : pieceA (some .str) (.str s) lo hi = gd (0 ≤ l ∧ l ≤ h ∧ h ≤ s.length) (some (.str ((s.take h.toNat).drop l.toNat))) := by
  simp only [pieceA, hl, hh, gd]
theorem pieceA_str0 (s : List UInt8) : pieceA (some .str) (.str s) none none = some (.str s) := by
  simp [pieceA, boundA]
theorem pieceA_strL (s : List UInt8) (k : IntKind) (l : Int) : pieceA (some .str) (.str s) (some (.int k l)) none = gd (0 ≤ l ∧ l ≤ s.length) (some (.str (s.drop l.toNat))) := by
  simp only [pieceA, boundA, gd]
  by_cases h : 0 ≤ l ∧ l ≤ s.length
  · rw [if_pos h, if_pos ⟨h.1, h.2, Int.le_refl _⟩]; simp
  · rw [if_neg h, if_neg (fun h' => h ⟨h'.1, h'.2.1⟩)]
theorem pieceA_strH (s : List UInt8) (k : IntKind) (h : Int) : pieceA (some .str) (.str s) none (some (.int k h)) = gd (0 ≤ h ∧ h ≤ s.length) (some (.str (s.take h.toNat))) := by
  simp only [pieceA, boundA, gd]
  by_cases hc : 0 ≤ h ∧ h ≤ s.length
  · rw [if_pos hc, if_pos ⟨Int.le_refl _, hc.1, hc.2⟩]; simp
  · rw [if_neg hc, if_neg (fun h' => hc ⟨h'.2.1, h'.2.2⟩)]
theorem pieceA_strB (s : List UInt8) (k k' : IntKind) (l h : Int) : pieceA (some .str) (.str s) (some (.int k l)) (some (.int k' h)) = gd (0 ≤ l ∧ l ≤ h ∧ h ≤ s.length) (some (.str ((s.take h.toNat).drop l.toNat))) := rfl
theorem pieceA_listL (el : TypeId) (ag : Bool) (sz by' sz' : Nat) (xs : List AV) (k : IntKind) (l : Int) : pieceA (some (.slice el ag sz by')) (.list sz' xs) (some (.int k l)) none = gd (sz' = sz ∧ 0 ≤ l ∧ l ≤ xs.length) (some (.list sz (xs.drop l.toNat))) := by
  simp only [pieceA, boundA, gd]
  by_cases h : sz' = sz ∧ 0 ≤ l ∧ l ≤ xs.length
  · rw [if_pos h, if_pos ⟨h.1, h.2.1, h.2.2, Int.le_refl _⟩]; simp
  · rw [if_neg h, if_neg (fun h' => h ⟨h'.1, h'.2.1, h'.2.2.1⟩)]
theorem pieceA_listH (el : TypeId) (ag : Bool) (sz by' sz' : Nat) (xs : List AV) (k : IntKind) (h : Int) : pieceA (some (.slice el ag sz by')) (.list sz' xs) none (some (.int k h)) = gd (sz' = sz ∧ 0 ≤ h ∧ h ≤ xs.length) (some (.list sz (xs.take h.toNat))) := by
  simp only [pieceA, boundA, gd]
  by_cases hc : sz' = sz ∧ 0 ≤ h ∧ h ≤ xs.length
  · rw [if_pos hc, if_pos ⟨hc.1, Int.le_refl _, hc.2.1, hc.2.2⟩]; simp
  · rw [if_neg hc, if_neg (fun h' => hc ⟨h'.1, h'.2.2.1, h'.2.2.2⟩)]
theorem pieceA_list0 (el : TypeId) (ag : Bool) (sz by' : Nat) (xs : List AV) : pieceA (some (.slice el ag sz by')) (.list sz xs) none none = some (.list sz xs) := by
  simp [pieceA, boundA]
theorem pieceA_listB (el : TypeId) (ag : Bool) (sz by' sz' : Nat) (xs : List AV) (k k' : IntKind) (l h : Int) : pieceA (some (.slice el ag sz by')) (.list sz' xs) (some (.int k l)) (some (.int k' h)) = gd (sz' = sz ∧ 0 ≤ l ∧ l ≤ h ∧ h ≤ xs.length) (some (.list sz ((xs.take h.toNat).drop l.toNat))) := rfl
theorem pieceA_slH (el : TypeId) (ag : Bool) (sz by' sz' len : Nat) (id : Oid) (k : IntKind) (h : Int) : pieceA (some (.slice el ag sz by')) (.sl id sz' len) none (some (.int k h)) = gd (0 ≤ h ∧ h ≤ len) (some (.sl id sz' h.toNat)) := by
  simp only [pieceA, boundA, gd, true_and]
theorem pieceA_sl0 (el : TypeId) (ag : Bool) (sz by' sz' len : Nat) (id : Oid) : pieceA (some (.slice el ag sz by')) (.sl id sz' len) none none = some (.sl id sz' len) := by
  simp [pieceA, boundA]
theorem pieceA_nil0 (el : TypeId) (ag : Bool) (sz by' : Nat) : pieceA (some (.slice el ag sz by')) .nilSl none none = some .nilSl := by
  simp [pieceA, boundA]
theorem pieceA_nilB (el : TypeId) (ag : Bool) (sz by' : Nat) (lo hi : Option AV) {l h : Int} (hl : boundA 0 lo = some l) (hh : boundA 0 hi = some h) : pieceA (some (.slice el ag sz by')) .nilSl lo hi = gd (l = 0 ∧ h = 0) (some .nilSl) := by
  simp only [pieceA, hl, hh, gd]

theorem intA_add (k : IntKind) (a b : Int) : intA .add k a b = some (.int k (k.wrap (a + b))) := rfl
theorem intA_sub (k : IntKind) (a b : Int) : intA .sub k a b = some (.int k (k.wrap (a - b))) := rfl
theorem intA_mul (k : IntKind) (a b : Int) : intA .mul k a b = some (.int k (k.wrap (a * b))) := rfl
theorem intA_quo (k : IntKind) (a b : Int) : intA .quo k a b = gd (b ≠ 0) (some (.int k (k.wrap (a.tdiv b)))) := rfl
theorem intA_rem (k : IntKind) (a b : Int) : intA .rem k a b = gd (b ≠ 0) (some (.int k (a.tmod b))) := rfl
theorem intA_and (k : IntKind) (a b : Int) : intA .and k a b = some (.int k (k.wrap (BitVec.ofInt k.bits a &&& BitVec.ofInt k.bits b).toNat)) := rfl
theorem intA_or (k : IntKind) (a b : Int) : intA .or k a b = some (.int k (k.wrap (BitVec.ofInt k.bits a ||| BitVec.ofInt k.bits b).toNat)) := rfl
theorem intA_xor (k : IntKind) (a b : Int) : intA .xor k a b = some (.int k (k.wrap (BitVec.ofInt k.bits a ^^^ BitVec.ofInt k.bits b).toNat)) := rfl
theorem intA_andNot (k : IntKind) (a b : Int) : intA .andNot k a b = some (.int k (k.wrap (BitVec.ofInt k.bits a &&& ~~~ BitVec.ofInt k.bits b).toNat)) := rfl
theorem beq_dec {α : Type} [BEq α] [LawfulBEq α] [DecidableEq α] (a b : α) : (a == b) = decide (a = b) := by
  rw [Bool.eq_iff_iff]; simp
theorem bne_dec {α : Type} [BEq α] [LawfulBEq α] [DecidableEq α] (a b : α) : (a != b) = decide (a ≠ b) := by
  rw [Bool.eq_iff_iff]; simp
theorem intA_eql (k : IntKind) (a b : Int) : intA .eql k a b = some (.bool (decide (a = b))) := by
  simp only [intA, beq_dec]
theorem intA_neq (k : IntKind) (a b : Int) : intA .neq k a b = some (.bool (decide (a ≠ b))) := by
  simp only [intA, bne_dec]
theorem intA_lss (k : IntKind) (a b : Int) : intA .lss k a b = some (.bool (decide (a < b))) := rfl
theorem intA_leq (k : IntKind) (a b : Int) : intA .leq k a b = some (.bool (decide (a ≤ b))) := rfl
theorem intA_gtr (k : IntKind) (a b : Int) : intA .gtr k a b = some (.bool (decide (b < a))) := rfl
theorem intA_geq (k : IntKind) (a b : Int) : intA .geq k a b = some (.bool (decide (b ≤ a))) := rfl
theorem shiftA_shl (k : IntKind) (a b : Int) : shiftA .shl k a b = gd (0 ≤ b) (some (.int k (k.wrap (a * 2 ^ (min b.toNat k.bits))))) := by
  unfold shiftA gd
  by_cases h : 0 ≤ b
  · rw [if_neg (by omega), if_pos h]
  · rw [if_pos (by omega), if_neg h]
theorem shiftA_shr (k : IntKind) (a b : Int) : shiftA .shr k a b = gd (0 ≤ b) (some (.int k (a.fdiv (2 ^ (min b.toNat k.bits))))) := by
  unfold shiftA gd
  by_cases h : 0 ≤ b
  · rw [if_neg (by omega), if_pos h]
  · rw [if_pos (by omega), if_neg h]
theorem strA_add (a b : List UInt8) : strA .add a b = gd (a.length + b.length ≤ 9223372036854775807) (some (.str (a ++ b))) := rfl
theorem strA_eql (a b : List UInt8) : strA .eql a b = some (.bool (decide (a = b))) := by
  simp only [strA, beq_dec]
theorem strA_neq (a b : List UInt8) : strA .neq a b = some (.bool (decide (a ≠ b))) := by
  simp only [strA, bne_dec]
/-- The order of texts. -/
def ltS (a b : List UInt8) : Bool := Op.bytesLess a b
theorem strA_lss (a b : List UInt8) : strA .lss a b = some (.bool (ltS a b)) := rfl
theorem strA_leq (a b : List UInt8) : strA .leq a b = some (.bool (ltS a b || decide (a = b))) := by
  simp only [strA, ltS, beq_dec]
theorem strA_gtr (a b : List UInt8) : strA .gtr a b = some (.bool (!(ltS a b || decide (a = b)))) := by
  simp only [strA, ltS, beq_dec]
theorem strA_geq (a b : List UInt8) : strA .geq a b = some (.bool (!ltS a b)) := rfl

def appS (P : Program) (m : Mem) (nid : Oid) (k : Option TyK) (s : AV) (x : Option (List (Oid × AObj) × List AV)) : OpR :=
  match k, s, x with
  | some (.slice el _ sz by'), .nilSl, some (nd, ys) => gdR (zerOK P el sz = true ∧ 0 < by' ∧ ys.length * by' ≤ 140737488355328) (.eff ⟨nd, .sl nid sz ys.length, [(nid, some (.arr sz ys))]⟩)
  | some (.slice el _ sz by'), .sl id sz' len, some (nd, ys) => match m id with
    | some (.arr s' xs) => gdR (zerOK P el sz = true ∧ sz' = sz ∧ s' = sz ∧ xs.length = len ∧ 0 < by' ∧ (len + ys.length) * by' ≤ 140737488355328)
          (.eff ⟨(id, .arr s' xs) :: nd, .sl nid sz (len + ys.length), [(id, none), (nid, some (.arr sz (xs ++ ys)))]⟩)
    | _ => .no
  | _, _, _ => .no
def tykSz : Option TyK → Nat
  | some (.slice _ _ sz _) => sz
  | _ => 0
theorem appA_eq (P : Program) (m : Mem) (nid : Oid) (t : TypeId) (s x : AV) : appA P m nid t s x = appS P m nid (tyk P t) s (srcA m (tykSz (tyk P t)) x) := by
  unfold appA appS
  cases tyk P t with
  | none => rfl
  | some k =>
    cases k <;> try rfl
    simp only [tykSz]
    generalize srcA m _ x = r
    cases r with
    | none => cases s <;> rfl
    | some r =>
      obtain ⟨nd, ys⟩ := r
      cases s <;> rfl
def litS (P : Program) (k : Option TyK) (n : Nat) (ps : List (Nat × AV)) : Option (Nat × List AV) :=
  match k with
  | some (.slice el _ sz _) => if (zer P el).isSome = true ∧ ps.length = n ∧ inOrder 0 ps = true ∧ n * sz ≤ 16777216 ∧ 0 < sz ∧ (ps.all fun q => q.2.cells.all AV.one && q.2.cells.length == sz) = true then some (sz, ps.map (·.2)) else none
  | _ => none

/-! ### memory as a list -/
def putL (i : Oid) (x : Option AObj) : List (Oid × AObj) → List (Oid × AObj)
  | [] => match x with
    | some o => [(i, o)]
    | none => []
  | q :: l => if i = q.1 then (match x with
      | some o => (i, o) :: l
      | none => putL i none l) else q :: putL i x l
def putLs : List (Oid × Option AObj) → List (Oid × AObj) → List (Oid × AObj)
  | [], l => l
  | q :: u, l => putLs u (putL q.1 q.2 l)
theorem Mem.of_putL (i : Oid) (x : Option AObj) : ∀ l, (Mem.of l).set i x = Mem.of (putL i x l)
  | [] => by cases x <;> (funext k; simp [Mem.of, Mem.set, putL, Mem.emp])
  | q :: l => by
    have ih := fun x => Mem.of_putL i x l
    simp only [putL]
    by_cases h : i = q.1
    · rw [if_pos h]
      cases x with
      | some o => funext k; simp only [Mem.of, Mem.set]; subst h; split <;> rfl
      | none => rw [← ih]; funext k; simp only [Mem.of, Mem.set]; subst h; split <;> rfl
    · rw [if_neg h]; funext k; simp only [Mem.of]; rw [← ih]; simp only [Mem.set]
      by_cases h1 : k = i
      · rw [if_pos h1, if_pos h1, if_neg (fun h2 => h (h1.symm.trans h2))]
      · rw [if_neg h1, if_neg h1]
theorem Mem.of_upds : ∀ (u : List (Oid × Option AObj)) (l : List (Oid × AObj)), (Mem.of l).upds u = Mem.of (putLs u l)
  | [], _ => rfl
  | q :: u, l => by
    show ((Mem.of l).set q.1 q.2).upds u = _
    rw [Mem.of_putL, Mem.of_upds u]; rfl
theorem Mem.emp_of : Mem.emp = Mem.of [] := rfl
theorem Mem.of_nil_at (i : Oid) : Mem.of [] i = none := rfl
theorem Mem.of_cons_at (q : Oid × AObj) (l : List (Oid × AObj)) (i : Oid) : Mem.of (q :: l) i = if i = q.1 then some q.2 else Mem.of l i := rfl
theorem mem_end {L L' : List (Oid × AObj)} (h : ∀ q, q ∈ L → Mem.of L' q.1 = some q.2) : ∀ i o, Mem.of L i = some o → Mem.of L' i = some o := by
  induction L with
  | nil => intro i o h; cases h
  | cons q l ih =>
    intro i o hi
    simp only [Mem.of_cons_at] at hi
    split at hi
    · rename_i e; simp only [Option.some.injEq] at hi; subst hi; subst e; exact h q List.mem_cons_self
    · exact ih (fun q hq => h q (List.mem_cons_of_mem _ hq)) i o hi
theorem fa_nil {α : Type} (p : α → Prop) : (∀ q, q ∈ ([] : List α) → p q) = True := by simp
theorem fa_cons {α : Type} (p : α → Prop) (a : α) (l : List α) : (∀ q, q ∈ (a :: l) → p q) = (p a ∧ ∀ q, q ∈ l → p q) := by simp

/-! ### names -/
theorem Oid.sub_ne_self (c i : Nat) (p : Oid) : (Oid.sub c i p = p) = False := by
  apply eq_false
  intro h
  have : (Oid.sub c i p).depth = p.depth := by rw [h]
  simp only [Oid.depth] at this; omega
theorem Oid.self_ne_sub (c i : Nat) (p : Oid) : (p = Oid.sub c i p) = False := by
  apply eq_false
  intro h
  have : p.depth = (Oid.sub c i p).depth := by rw [← h]
  simp only [Oid.depth] at this; omega
theorem Oid.sub_ne {c c' i i' : Nat} {p p' : Oid} (h : c ≠ c') : (Oid.sub c i p = Oid.sub c' i' p') = False := by
  apply eq_false; intro e; injection e with h1 _ _; exact h h1
theorem Oid.not_under_sub {p q : Oid} (h : ¬ Oid.under p q) (c i : Nat) : (q = Oid.sub c i p) = False := by
  apply eq_false; intro e; subst e; exact h (Oid.under_sub (Oid.under_refl _))
theorem Oid.sub_not_under {p q : Oid} (h : ¬ Oid.under p q) (c i : Nat) : (Oid.sub c i p = q) = False := by
  apply eq_false; intro e; subst e; exact h (Oid.under_sub (Oid.under_refl _))
theorem Oid.not_under_self {p q : Oid} (h : ¬ Oid.under p q) : (q = p) = False := by
  apply eq_false; intro e; subst e; exact h (Oid.under_refl _)
theorem Oid.self_not_under {p q : Oid} (h : ¬ Oid.under p q) : (p = q) = False := by
  apply eq_false; intro e; subst e; exact h (Oid.under_refl _)
theorem Oid.ne_false {p q : Oid} (h : p ≠ q) : (p = q) = False := eq_false h
theorem Oid.ne_false' {p q : Oid} (h : q ≠ p) : (p = q) = False := eq_false h.symm

/-! ### lists of values -/
theorem getD_map_in {α : Type} [Inhabited α] (f : α → AV) {l : List α} {i : Nat} (h : i < l.length) (d : AV) : (l.map f).getD i d = f (l.getD i default) := by
  simp [List.getD_eq_getElem?_getD, List.getElem?_map, List.getElem?_eq_getElem h]
theorem getElem?_map_in {α : Type} [Inhabited α] (f : α → AV) {l : List α} {i : Nat} (h : i < l.length) : (l.map f)[i]? = some (f (l.getD i default)) := by
  simp [List.getD_eq_getElem?_getD, List.getElem?_map, List.getElem?_eq_getElem h]

attribute [go_sem] gd_pos gdR_pos indexA_str indexAddrA_list indexAddrA_sl indexAddrA_arr pieceA_str0 pieceA_strL pieceA_strH pieceA_strB pieceA_listL pieceA_listH pieceA_list0 pieceA_listB pieceA_slH pieceA_sl0 pieceA_nil0
  intA_add intA_sub intA_mul intA_quo intA_rem intA_and intA_or intA_xor intA_andNot intA_eql intA_neq intA_lss intA_leq intA_gtr intA_geq shiftA_shl shiftA_shr strA_add strA_eql strA_neq strA_lss strA_leq strA_gtr strA_geq
  appA_eq appS tykSz litOK zerOK ev_nil ev_one ev_guard evR_eff evR_call evR_no evG_true evG_false logE leOf fsts opL prs wantL lookN light lights dynN disjN putL putLs Mem.of_upds Mem.emp_of Mem.of_nil_at Mem.of_cons_at Oid.sub_ne Oid.not_under_sub Oid.sub_not_under Oid.not_under_self Oid.self_not_under Oid.sub_ne_self Oid.self_ne_sub Oid.sub.injEq
  getD_map_in w64 Option.isSome_some Option.isSome_none beq_self_eq_true Option.bind_some Option.bind_none Option.map_some Option.map_none Int.toNat_natCast List.length_map List.length_take List.length_drop List.length_append List.length_cons List.length_nil List.map_cons List.map_nil List.getD_cons_zero List.getD_cons_succ List.getD_nil
  List.take_succ_cons List.take_zero List.take_nil List.drop_succ_cons List.drop_zero List.drop_nil List.cons_append List.nil_append List.all_cons List.all_nil Bool.and_true Bool.true_and Bool.and_false Bool.false_and Bool.or_true Bool.true_or Bool.or_false Bool.false_or Bool.not_true Bool.not_false
  true_and and_true and_self or_true true_or or_false false_or false_and and_false eq_self List.getElem?_cons_zero List.getElem?_cons_succ List.getElem?_toArray fa_nil fa_cons resM retM tupA resOKs

theorem bt1 (b : Bool) : (b == true) = b := by cases b <;> rfl
theorem bt2 (b : Bool) : (b == false) = !b := by cases b <;> rfl
attribute [go_sem] frz frzV Mem.of_putL
attribute [go_sem] bt1 bt2 decide_true decide_false
attribute [go_sem] decide_eq_true_eq decide_eq_false_iff_not Bool.and_eq_true Bool.or_eq_true Bool.not_eq_true' Bool.not_eq_false'
/-- No literal is memory. -/
def nmd : Nat → Bool := fun _ => false
theorem nmd_at (d : Nat) : nmd d = false := rfl
/-- These literals are memory. -/
def mdl (l : List Nat) : Nat → Bool := fun d => l.contains d
attribute [go_sem] nmd_at mdl List.contains_cons List.contains_nil

theorem ik_beq (k : IntKind) : (k == k) = true := by cases k <;> rfl
attribute [go_sem] ik_beq
/-! ### bytes -/
theorem getD_in {α : Type} {l : List α} {i : Nat} (h : i < l.length) (d : α) : l.getD i d = l[i] := by
  simp [List.getD_eq_getElem?_getD, List.getElem?_eq_getElem h]
theorem u8_lit {x : UInt8} {n : Nat} (hn : n < 256) : ((x.toNat : Int) = (n : Int)) ↔ x = UInt8.ofNat n := by
  constructor
  · intro h
    apply UInt8.toNat_inj.1
    rw [UInt8.toNat_ofNat', Nat.mod_eq_of_lt (by omega)]; omega
  · rintro rfl
    rw [UInt8.toNat_ofNat', Nat.mod_eq_of_lt (by omega)]
theorem u8_eq {x y : UInt8} : ((x.toNat : Int) = (y.toNat : Int)) ↔ x = y := by
  rw [← UInt8.toNat_inj]; omega
theorem u8_le {x y : UInt8} : ((x.toNat : Int) ≤ (y.toNat : Int)) ↔ x ≤ y := by
  rw [UInt8.le_iff_toNat_le]; omega
theorem u8_lt {x y : UInt8} : ((x.toNat : Int) < (y.toNat : Int)) ↔ x < y := by
  rw [UInt8.lt_iff_toNat_lt]; omega
theorem drop_cons {α : Type} [Inhabited α] {l : List α} {i : Nat} (h : i < l.length) : l.drop i = l.getD i default :: l.drop (i + 1) := by
  rw [List.drop_eq_getElem_cons h, getD_in h]

theorem take_map_snoc {α β : Type} [Inhabited α] (f : α → β) {l : List α} {i : Nat} (h : i < l.length) : (l.take (i + 1)).map f = (l.take i).map f ++ [f (l.getD i default)] := by
  rw [List.take_succ_eq_append_getElem h, List.map_append, getD_in h]; rfl
theorem w64_u8 (x : UInt8) : IntKind.i64.wrap (x.toNat : Int) = x.toNat := by
  have := x.toNat_lt; exact w64 (by omega) (by omega)
theorem w8_u8 (x : UInt8) : IntKind.u8.wrap (x.toNat : Int) = x.toNat := by
  have := x.toNat_lt
  simp [IntKind.wrap, IntKind.bits, IntKind.signed]; omega
attribute [go_sem] w64_u8 w8_u8
theorem tmod_nat (a b : Nat) : (a : Int).tmod b = ((a % b : Nat) : Int) := by
  rw [Int.tmod_eq_emod_of_nonneg (by omega)]; rfl
theorem tdiv_nat (a b : Nat) : (a : Int).tdiv b = ((a / b : Nat) : Int) := by
  rw [Int.tdiv_eq_ediv_of_nonneg (by omega)]; rfl
theorem w8 {n : Int} (h1 : 0 ≤ n) (h2 : n ≤ 255) : IntKind.u8.wrap n = n := by
  simp [IntKind.wrap, IntKind.bits, IntKind.signed]; omega
end Go.Ab
