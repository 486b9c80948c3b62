/- A region that draws its order: the effects of the text's order serve every order, where what no edge orders does not meet. -/
import Derived.Test.YtpdmiojenhodlaaFw3
set_option linter.unusedVariables false
set_option linter.unusedSimpArgs false
namespace Go.Ab

/-! ### Which operations stand ahead of which, by edges -/
def bits (acc : List Nat) (o : Oper) : Nat :=
  o.after.toList.foldr (fun e s => if Region.binds .any e then s ||| (2 ^ e.on ||| acc.getD e.on 0) else s) 0
def befs : List Oper → List Nat → List Nat
  | [], acc => acc
  | o :: l, acc => befs l (acc ++ [bits acc o])

theorem bits_spec (acc : List Nat) (o : Oper) (k : Nat) (h : (bits acc o).testBit k = true) :
    ∃ e, e ∈ o.after ∧ Region.binds .any e = true ∧ (k = e.on ∨ (acc.getD e.on 0).testBit k = true) := by
  unfold bits at h
  have key : ∀ (l : List Edge), (l.foldr (fun e s => if Region.binds .any e then s ||| (2 ^ e.on ||| acc.getD e.on 0) else s) 0).testBit k = true →
      ∃ e, e ∈ l ∧ Region.binds .any e = true ∧ (k = e.on ∨ (acc.getD e.on 0).testBit k = true) := by
    intro l
    induction l with
    | nil => intro h; simp at h
    | cons e l ih =>
      intro h
      simp only [List.foldr_cons] at h
      split at h
      · rename_i hb
        simp only [Nat.testBit_or, Bool.or_eq_true, Nat.testBit_two_pow, decide_eq_true_eq] at h
        rcases h with h | h | h
        · obtain ⟨e', he, hb', hk⟩ := ih h; exact ⟨e', List.mem_cons_of_mem _ he, hb', hk⟩
        · exact ⟨e, List.mem_cons_self, hb, .inl h.symm⟩
        · exact ⟨e, List.mem_cons_self, hb, .inr h⟩
      · obtain ⟨e', he, hb', hk⟩ := ih h; exact ⟨e', List.mem_cons_of_mem _ he, hb', hk⟩
  obtain ⟨e, he, hb, hk⟩ := key _ h
  exact ⟨e, Array.mem_toList_iff.1 he, hb, hk⟩

theorem befs_old : ∀ (l : List Oper) (acc : List Nat) (j : Nat), j < acc.length → (befs l acc).getD j 0 = acc.getD j 0
  | [], _, _, _ => rfl
  | o :: l, acc, j, h => by
    rw [befs, befs_old l _ j (by simp; omega)]
    simp [List.getD_eq_getElem?_getD, List.getElem?_append_left h]

theorem befs_at : ∀ (l : List Oper) (acc : List Nat) (k : Nat) (o : Oper), l[k]? = some o →
    ∃ acc', acc'.length = acc.length + k ∧ (befs l acc).getD (acc.length + k) 0 = bits acc' o ∧ ∀ j, j < acc.length + k → acc'.getD j 0 = (befs l acc).getD j 0
  | [], _, _, _, h => by simp at h
  | o :: l, acc, 0, o', h => by
    simp only [List.getElem?_cons_zero, Option.some.injEq] at h
    subst h
    refine ⟨acc, rfl, ?_, fun j hj => ?_⟩
    · rw [befs, befs_old l _ _ (by simp)]; simp [List.getD_eq_getElem?_getD]
    · exact (befs_old _ _ j (by simpa using hj)).symm
  | o :: l, acc, k + 1, o', h => by
    obtain ⟨acc', h1, h2, h3⟩ := befs_at l (acc ++ [bits acc o]) k o' (by simpa using h)
    simp only [List.length_append, List.length_cons, List.length_nil] at h1 h2 h3
    have e : acc.length + (0 + 1) + k = acc.length + (k + 1) := by omega
    rw [e] at h1 h2 h3
    exact ⟨acc', h1, by rw [befs]; exact h2, fun j hj => by rw [befs]; exact h3 j hj⟩

/-- Every edge that binds leads back. -/
def backOK (ops : Array Oper) : Bool := (List.range ops.size).all fun i => match ops[i]? with
  | some o => o.after.all fun e => !Region.binds .any e || e.on < i
  | none => true
/-- Where no edges order two operations, neither names the slot that the other one writes. -/
def apartOK (ops : Array Oper) (B : List Nat) : Bool := (List.range ops.size).all fun j => (List.range j).all fun i => (B.getD j 0).testBit i || match ops[i]?, ops[j]? with
  | some x, some y => x.apart ops y
  | _, _ => true
def drawOK (ops : Array Oper) : Bool := backOK ops && apartOK ops (befs ops.toList [])

/-! ### States by the operations that have been carried out -/
section
variable (dst : Nat → Option Nat) (val : Nat → AV) (upd : Nat → List (Oid × Option AObj))
def slotK (L : Nat → Bool) (f0 : Nat → AV) : Nat → Nat → AV
  | 0 => f0
  | k + 1 => if L k then upd1 (dst k) (val k) (slotK L f0 k) else slotK L f0 k
def memK (L : Nat → Bool) (m0 : Mem) : Nat → Mem
  | 0 => m0
  | k + 1 => if L k then (memK L m0 k).upds (upd k) else memK L m0 k

variable {dst val upd}
theorem slotK_agree {L L' : Nat → Bool} {f0 : Nat → AV} {t : Nat} : ∀ k, (∀ j, j < k → dst j = some t → L j = L' j) → slotK dst val L f0 k t = slotK dst val L' f0 k t
  | 0, _ => rfl
  | k + 1, h => by
    have ih := slotK_agree (f0 := f0) k (fun j hj => h j (by omega))
    simp only [slotK]
    by_cases hd : dst k = some t
    · rw [h k (by omega) hd]; split <;> simp [upd1, hd, ih]
    · split <;> split <;> simp [upd1, hd, ih]
theorem slotK_tail {L : Nat → Bool} {f0 : Nat → AV} {t i : Nat} : ∀ k, i ≤ k → (∀ j, i ≤ j → j < k → L j = true → dst j ≠ some t) → slotK dst val L f0 k t = slotK dst val L f0 i t
  | 0, hi, _ => by have : i = 0 := by omega
                   subst this; rfl
  | k + 1, hi, h => by
    by_cases hk : i = k + 1
    · subst hk; rfl
    · rw [← slotK_tail (f0 := f0) k (by omega) (fun j h1 h2 => h j h1 (by omega))]
      simp only [slotK]
      split
      · rename_i hl; have := h k (by omega) (by omega) hl; simp [upd1, this]
      · rfl

theorem upds_nokey {l : List (Oid × Option AObj)} {id : Oid} : ∀ {m : Mem}, (∀ q, q ∈ l → q.1 ≠ id) → (m.upds l) id = m id := by
  induction l with
  | nil => intro m _; rfl
  | cons q l ih =>
    intro m h
    rw [Mem.upds, ih (fun q' hq => h q' (List.mem_cons_of_mem _ hq))]
    simp only [Mem.set]
    rw [if_neg (fun e => h q List.mem_cons_self e.symm)]
theorem upds_key {l : List (Oid × Option AObj)} {id : Oid} : ∀ {m m' : Mem}, (∃ q, q ∈ l ∧ q.1 = id) → (m.upds l) id = (m'.upds l) id := by
  induction l with
  | nil => intro m m' ⟨q, hq, _⟩; cases hq
  | cons q l ih =>
    intro m m' h
    simp only [Mem.upds]
    by_cases h' : ∃ q', q' ∈ l ∧ q'.1 = id
    · exact ih h'
    · rw [upds_nokey (fun q' hq e => h' ⟨q', hq, e⟩), upds_nokey (fun q' hq e => h' ⟨q', hq, e⟩)]
      obtain ⟨q', hq', e⟩ := h
      rcases List.mem_cons.1 hq' with rfl | hq'
      · simp [Mem.set, e]
      · exact absurd ⟨q', hq', e⟩ h'
theorem upds_congr {l : List (Oid × Option AObj)} {id : Oid} {m m' : Mem} (h : m id = m' id) : (m.upds l) id = (m'.upds l) id := by
  by_cases h' : ∃ q, q ∈ l ∧ q.1 = id
  · exact upds_key h'
  · rw [upds_nokey (fun q hq e => h' ⟨q, hq, e⟩), upds_nokey (fun q hq e => h' ⟨q, hq, e⟩), h]

theorem memK_agree {L L' : Nat → Bool} {m0 : Mem} {id : Oid} : ∀ k, (∀ j, j < k → (∃ q, q ∈ upd j ∧ q.1 = id) → L j = L' j) → memK upd L m0 k id = memK upd L' m0 k id
  | 0, _ => rfl
  | k + 1, h => by
    have ih := memK_agree (m0 := m0) k (fun j hj => h j (by omega))
    simp only [memK]
    by_cases hd : ∃ q, q ∈ upd k ∧ q.1 = id
    · rw [h k (by omega) hd]; split
      · exact upds_key hd
      · exact ih
    · have hn : ∀ q, q ∈ upd k → q.1 ≠ id := fun q hq e => hd ⟨q, hq, e⟩
      split <;> split <;> simp [upds_nokey hn, ih]
theorem memK_tail {L : Nat → Bool} {m0 : Mem} {id : Oid} {i : Nat} : ∀ k, i ≤ k → (∀ j, i ≤ j → j < k → L j = true → ∀ q, q ∈ upd j → q.1 ≠ id) → memK upd L m0 k id = memK upd L m0 i id
  | 0, hi, _ => by have : i = 0 := by omega
                   subst this; rfl
  | k + 1, hi, h => by
    by_cases hk : i = k + 1
    · subst hk; rfl
    · rw [← memK_tail (m0 := m0) k (by omega) (fun j h1 h2 => h j h1 (by omega))]
      simp only [memK]
      split
      · rename_i hl; exact upds_nokey (h k (by omega) (by omega) hl)
      · rfl

/-- One more is carried out: at the end as at its place. -/
theorem slotK_add {L L' : Nat → Bool} {f0 : Nat → AV} {n i : Nat} (hi : i < n) (hL : L i = false) (hL' : ∀ j, L' j = (L j || (j == i)))
    (h : ∀ j d, i < j → j < n → L j = true → dst i = some d → dst j ≠ some d) : slotK dst val L' f0 n = upd1 (dst i) (val i) (slotK dst val L f0 n) := by
  funext t
  simp only [upd1]
  by_cases hd : dst i = some t
  · rw [if_pos hd, slotK_tail (i := i + 1) n (by omega) (fun j h1 h2 hl => ?_)]
    · simp [slotK, hL', upd1, hd]
    · have hji : (j == i) = false := by simp; omega
      rw [hL' j, hji, Bool.or_false] at hl
      exact h j t (by omega) h2 hl hd
  · rw [if_neg hd]
    refine slotK_agree n fun j _ hj => ?_
    have hji : (j == i) = false := by
      simp only [beq_eq_false_iff_ne, ne_eq]; intro e; subst e; exact hd hj
    rw [hL' j, hji, Bool.or_false]
theorem memK_add {L L' : Nat → Bool} {m0 : Mem} {n i : Nat} (hi : i < n) (hL : L i = false) (hL' : ∀ j, L' j = (L j || (j == i)))
    (h : ∀ j, i < j → j < n → L j = true → ∀ q, q ∈ upd i → ∀ q', q' ∈ upd j → q.1 ≠ q'.1) : memK upd L' m0 n = (memK upd L m0 n).upds (upd i) := by
  funext id
  by_cases hd : ∃ q, q ∈ upd i ∧ q.1 = id
  · obtain ⟨q0, hq0, e0⟩ := hd
    rw [memK_tail (i := i + 1) n (by omega) (fun j h1 h2 hl q hq => ?_)]
    · have : L' i = true := by simp [hL']
      simp only [memK, this, if_true]
      exact upds_key ⟨q0, hq0, e0⟩
    · have hji : (j == i) = false := by simp; omega
      rw [hL' j, hji, Bool.or_false] at hl
      rw [← e0]; exact (h j (by omega) h2 hl q0 hq0 q hq).symm
  · rw [upds_nokey (fun q hq e => hd ⟨q, hq, e⟩)]
    refine memK_agree n fun j _ hj => ?_
    have hji : (j == i) = false := by
      simp only [beq_eq_false_iff_ne, ne_eq]; intro e; subst e; exact hd hj
    rw [hL' j, hji, Bool.or_false]
end
end Go.Ab
