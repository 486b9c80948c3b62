/- Maps as lists: the entries of a map whose keys are encoded values. -/
import Derived.Test.YtpdmiojenhodlaaFw25
set_option linter.unusedVariables false
set_option linter.unusedSimpArgs false
namespace Go.Ab
variable {α : Type} [DecidableEq α]
/-- Entries in the order of their birth. -/
def esA (enc : α → AV) : List (α × AV) → Nat → List ME
  | [], _ => []
  | q :: L, i => ⟨enc q.1, q.2, i⟩ :: esA enc L (i + 1)
def hasA (L : List (α × AV)) (a : α) : Bool := L.any fun q => decide (a = q.1)
def getA (a : α) (z : AV) : List (α × AV) → AV
  | [] => z
  | q :: L => if a = q.1 then q.2 else getA a z L
def putA (a : α) (v : AV) : List (α × AV) → List (α × AV)
  | [] => [(a, v)]
  | q :: L => if a = q.1 then (q.1, v) :: L else q :: putA a v L
/-- A key's encoding tells the key. -/
def EncOK (enc : α → AV) : Prop := ∀ a b, sameK (enc a) (enc b) = decide (a = b)
variable {enc : α → AV}
omit [DecidableEq α] in
theorem esA_length : ∀ (L : List (α × AV)) i, (esA enc L i).length = L.length
  | [], _ => rfl
  | q :: L, i => by simp only [esA, List.length_cons, esA_length L (i + 1)]
theorem putA_length (a : α) (v : AV) : ∀ L : List (α × AV), (putA a v L).length = if hasA L a then L.length else L.length + 1
  | [] => rfl
  | q :: L => by
    have ih := putA_length a v L
    simp only [putA, hasA, List.any_cons] at *
    by_cases h : a = q.1
    · simp [h]
    · simp only [h, if_false, decide_false, Bool.false_or, List.length_cons, ih]; split <;> simp [*]
theorem hasE_esA (he : EncOK enc) (a : α) : ∀ (L : List (α × AV)) i, hasE (enc a) (esA enc L i) = hasA L a
  | [], _ => rfl
  | q :: L, i => by
    have ih := hasE_esA he a L (i + 1)
    simp only [hasE, lookE, esA, hasA, List.any_cons, he a] at ih ⊢
    by_cases h : a = q.1
    · simp [h]
    · simp only [h, decide_false, Bool.false_or]; exact ih
theorem valE_esA (he : EncOK enc) (a : α) (z : AV) : ∀ (L : List (α × AV)) i, valE (enc a) z (esA enc L i) = getA a z L
  | [], _ => rfl
  | q :: L, i => by
    have ih := valE_esA he a z L (i + 1)
    simp only [valE, lookE, esA, getA, he a] at ih ⊢
    by_cases h : a = q.1
    · simp [h]
    · simp only [h, decide_false, if_false]; exact ih
theorem setE_esA (he : EncOK enc) (a : α) (v : AV) : ∀ (L : List (α × AV)) (i n : Nat), n = i + L.length → setE (enc a) v n (esA enc L i) = esA enc (putA a v L) i
  | [], i, n, h => by subst h; rfl
  | q :: L, i, n, hn => by
    simp only [esA, setE, putA, he a, decide_eq_true_eq]
    by_cases h : a = q.1
    · simp [h, esA]
    · simp only [h, if_false, esA, setE_esA he a v L (i + 1) n (by rw [hn, List.length_cons]; omega)]
theorem bornOf_cons (he : EncOK enc) (a : α) (n : Nat) (q : α × AV) (L : List (α × AV)) (i : Nat) : bornOf (enc a) n (esA enc (q :: L) i) = if a = q.1 then i else bornOf (enc a) n (esA enc L (i + 1)) := by
  simp only [bornOf, lookE, esA, he a, decide_eq_true_eq]
  by_cases h : a = q.1
  · rw [if_pos h, if_pos h]
  · rw [if_neg h, if_neg h]
theorem bornOf_ge (he : EncOK enc) (a : α) (n : Nat) : ∀ (L : List (α × AV)) (i : Nat), n = i + L.length → i ≤ bornOf (enc a) n (esA enc L i)
  | [], i, h => by subst h; exact Nat.le_refl _
  | q :: L, i, h => by
    have ih := bornOf_ge he a n L (i + 1) (by rw [h, List.length_cons]; omega)
    rw [bornOf_cons he]; split
    · exact Nat.le_refl _
    · exact Nat.le_trans (Nat.le_succ _) ih
/-- The entry's place, taken for an update, is written. -/
theorem bornE_esA (he : EncOK enc) (a : α) (v u : AV) : ∀ (L : List (α × AV)) (i n : Nat), n = i + L.length → bornE (bornOf (enc a) n (esA enc L i)) u (esA enc (putA a v L) i) = esA enc (putA a u L) i
  | [], i, n, h => by subst h; simp [bornOf, lookE, esA, putA, bornE]
  | q :: L, i, n, hn => by
    have ih := bornE_esA he a v u L (i + 1) n (by rw [hn, List.length_cons]; omega)
    have hg := bornOf_ge he a n L (i + 1) (by rw [hn, List.length_cons]; omega)
    rw [bornOf_cons he]
    simp only [putA]
    by_cases h : a = q.1
    · rw [if_pos h, if_pos h, if_pos h]; simp only [esA, bornE, if_true]
    · rw [if_neg h, if_neg h, if_neg h]
      simp only [esA, bornE]
      rw [if_neg (by omega), ih]
theorem any_born (he : EncOK enc) (a : α) (v : AV) : ∀ (L : List (α × AV)) (i n : Nat), n = i + L.length → (esA enc (putA a v L) i).any (fun e => e.born == bornOf (enc a) n (esA enc L i)) = true
  | [], i, n, h => by subst h; simp [bornOf, lookE, esA, putA]
  | q :: L, i, n, hn => by
    have ih := any_born he a v L (i + 1) n (by rw [hn, List.length_cons]; omega)
    rw [bornOf_cons he]
    simp only [putA]
    by_cases h : a = q.1
    · rw [if_pos h, if_pos h]; simp [esA]
    · rw [if_neg h, if_neg h]; simp only [esA, List.any_cons, ih, Bool.or_true]
theorem getA_putA (a : α) (z v : AV) : ∀ L : List (α × AV), getA a z (putA a v L) = v
  | [] => by simp [putA, getA]
  | q :: L => by
    simp only [putA]
    by_cases h : a = q.1
    · simp [h, getA]
    · simp [h, getA, getA_putA a z v L]
end Go.Ab
