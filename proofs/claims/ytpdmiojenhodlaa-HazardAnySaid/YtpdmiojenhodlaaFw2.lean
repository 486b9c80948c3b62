/- The triple's rules for the code's shapes. -/
import Derived.Test.YtpdmiojenhodlaaFw1
set_option linter.unusedVariables false
set_option linter.unusedSimpArgs false
namespace Go.Ab
section
variable {P : Program} {x : Ctx} {n : Nat} {s : AS} {Q : AX → AS → Prop}

theorem T_mono {c : Code} {Q' : AX → AS → Prop} (h : T P x n c s Q) (hq : ∀ e s, Q e s → Q' e s) : T P x n c s Q' :=
  fun g a w hr => wpIn_mono (h g a w hr) fun _ _ _ ⟨g', ex, s', h1, h2, h3⟩ => ⟨g', ex, s', h1, h2, hq _ _ h3⟩

theorem T_skip (h : Q .normal s) : T P x n .skip s Q := fun g _ _ hr => wpIn_skip ⟨g, .normal, s, hr, trivial, h⟩
theorem T_exit {id : Nat} (h : Q (.exit id) s) : T P x n (.exit id) s Q := fun g _ _ hr => wpIn_exit ⟨g, .exit id, s, hr, rfl, h⟩
theorem T_ret (h : Q .ret s) : T P x n .ret s Q := fun g _ _ hr => wpIn_ret ⟨g, .ret, s, hr, trivial, h⟩

/-- What follows where the first part ends as usual; else its exit. -/
def Then (k : AS → Prop) (Q : AX → AS → Prop) : AX → AS → Prop
  | .normal, s => k s
  | e, s => Q e s

theorem T_seq {c d : Code} (h : T P x n c s (Then (fun s' => T P x n d s' Q) Q)) : T P x n (.seq c d) s Q := by
  intro g a w hr
  refine wpIn_seq (wpIn_mono (h g a w hr) fun e a' w' ⟨g', ex, s', h1, h2, h3⟩ => ?_)
  cases ex with
  | normal => cases e <;> simp only [AX.fits] at h2; exact h3 g' a' w' h1
  | exit i => cases e <;> simp only [AX.fits] at h2; exact ⟨g', .exit i, s', h1, h2, h3⟩
  | ret => cases e <;> simp only [AX.fits] at h2; exact ⟨g', .ret, s', h1, trivial, h3⟩
  | panic v => cases e <;> simp only [AX.fits] at h2; exact ⟨g', .panic v, s', h1, h2, h3⟩

theorem T_cond {t : Operand} {c d : Code} {b : Bool} (v : AV) (hv : (match t with | .tmp i => if i < n then F s.fr i else .undef | .const (.bool b) => .bool b | _ => .undef) = v) (hb : v = .bool b)
    (h : T P x n (if b then c else d) s Q) : T P x n (.cond t c d) s Q := by
  intro g a w hr
  refine wpIn_cond (t := b) ?_ (h g a w hr)
  subst hb
  cases t with
  | tmp i =>
    simp only at hv
    split at hv
    · rename_i hi
      have := hr.fr i hi
      rw [hv] at this
      exact this.bool_inv
    · cases hv
  | const u => cases u <;> simp at hv; subst hv; rfl
  | global g => cases hv
  | func f => cases hv

def AX.inBlock (id : Nat) (Q : AX → AS → Prop) : AX → AS → Prop
  | .exit i, s => if i = id then Q .normal s else Q (.exit i) s
  | e, s => Q e s

theorem T_block {id : Nat} {c : Code} (h : T P x n c s (AX.inBlock id Q)) : T P x n (.block id c) s Q := by
  intro g a w hr
  refine wpIn_block (wpIn_mono (h g a w hr) fun e a' w' ⟨g', ex, s', h1, h2, h3⟩ => ?_)
  cases ex with
  | normal => cases e <;> simp only [AX.fits] at h2; exact ⟨g', .normal, s', h1, trivial, h3⟩
  | exit i =>
    cases e <;> simp only [AX.fits] at h2
    subst h2
    simp only [Exit.inBlock, AX.inBlock] at h3 ⊢
    split
    · rename_i hi; simp only [hi, if_true] at h3; exact ⟨g', .normal, s', h1, trivial, h3⟩
    · rename_i hi; simp only [hi, if_false] at h3; exact ⟨g', .exit i, s', h1, rfl, h3⟩
  | ret => cases e <;> simp only [AX.fits] at h2; exact ⟨g', .ret, s', h1, trivial, h3⟩
  | panic v => cases e <;> simp only [AX.fits] at h2; exact ⟨g', .panic v, s', h1, h2, h3⟩

theorem least (p : Nat → Prop) (h : ∃ k, p k) : ∃ k, p k ∧ ∀ j, p j → k ≤ j := by
  obtain ⟨k, hk⟩ := h
  induction k using Nat.strongRecOn with
  | _ k ih =>
    by_cases h : ∃ j, j < k ∧ p j
    · obtain ⟨j, hj, hp⟩ := h; exact ih j hj hp
    · exact ⟨k, hk, fun j hj => by
        rcases Nat.lt_or_ge j k with h' | h'
        · exact absurd ⟨j, h', hj⟩ h
        · exact h'⟩

/-- A loop: an invariant, a measure that every round lowers. -/
theorem T_loop {c : Code} (I : Nat → AS → Prop) (k : Nat) (h0 : I k s)
    (round : ∀ k s, I k s → T P x n c s (Then (fun s' => ∃ k', k' < k ∧ I k' s') Q)) : T P x n (.loop c) s Q := by
  intro g a w hr
  let J : Act → World → Nat → Prop := fun a w k => ∃ g s, Rel x n g s a w ∧ I k s
  have hm : ∀ a w, ∃ k, (∃ k, J a w k) → (J a w k ∧ ∀ j, J a w j → k ≤ j) := fun a w => by
    by_cases h : ∃ k, J a w k
    · obtain ⟨k, hk⟩ := least (J a w) h; exact ⟨k, fun _ => hk⟩
    · exact ⟨0, fun h' => absurd h' h⟩
  refine wpIn_loop (fun a w => ∃ k, J a w k) (fun a w => Classical.choose (hm a w)) ⟨k, g, s, hr, h0⟩ ?_
  intro a w hI
  have hk := Classical.choose_spec (hm a w) hI
  revert hk
  generalize Classical.choose (hm a w) = k
  rintro ⟨⟨g, s, hr, hi⟩, _⟩
  refine wpIn_mono (round k s hi g a w hr) fun e a' w' ⟨g', ex, s', h1, h2, h3⟩ => ?_
  cases ex with
  | normal =>
    cases e <;> simp only [AX.fits] at h2
    obtain ⟨k', hlt, hi'⟩ := h3
    have hJ : J a' w' k' := ⟨g', s', h1, hi'⟩
    exact ⟨⟨k', hJ⟩, Nat.lt_of_le_of_lt ((Classical.choose_spec (hm a' w') ⟨k', hJ⟩).2 k' hJ) hlt⟩
  | exit i => cases e <;> simp only [AX.fits] at h2; exact ⟨g', .exit i, s', h1, h2, h3⟩
  | ret => cases e <;> simp only [AX.fits] at h2; exact ⟨g', .ret, s', h1, trivial, h3⟩
  | panic v => cases e <;> simp only [AX.fits] at h2; exact ⟨g', .panic v, s', h1, h2, h3⟩

/-- A step of the ghost alone: what holds of the state holds of another view of it. -/
theorem T_ghost {c : Code} (s' : AS) (hg : ∀ g a w, Rel x n g s a w → ∃ g', Rel x n g' s' a w) (h : T P x n c s' Q) : T P x n c s Q :=
  fun g a w hr => let ⟨g', hr'⟩ := hg g a w hr; h g' a w hr'

/-- Slots are forgotten. -/
theorem Rel.forget {g : Gh} {a : Act} {w : World} (hr : Rel x n g s a w) (fr : List (Nat × AV)) (h : ∀ t, t < n → F fr t = .undef ∨ F fr t = F s.fr t) : Rel x n g { s with fr := fr } a w :=
  ⟨hr.mr, hr.tm, hr.df, fun t ht => by rcases h t ht with h | h <;> simp only [h]; exact .unk _; exact hr.fr t ht, hr.young⟩

/-- Objects are forgotten. -/
theorem MemRel.drop {g : Gh} {m m' : Mem} {w : World} (hr : MemRel x g m w) (h : ∀ i o, m' i = some o → m i = some o) : MemRel x g m' w :=
  ⟨hr.le, hr.locs, hr.glob, hr.coms, fun i o hi => hr.obj0 i o (h i o hi), fun i j o o' b hi hj => hr.inj i j o o' b (h _ _ hi) (h _ _ hj), hr.com, hr.one, hr.rows, hr.os, hr.tape, hr.output, hr.size, hr.kept⟩
theorem Rel.drop {g : Gh} {a : Act} {w : World} (hr : Rel x n g s a w) (m : Mem) (h : ∀ i o, m i = some o → s.mem i = some o) : Rel x n g { s with mem := m } a w :=
  ⟨hr.mr.drop h, hr.tm, hr.df, hr.fr, hr.young⟩
theorem Rel.later {g : Gh} {a : Act} {w : World} (hr : Rel x n g s a w) {c : Nat} (h : s.c ≤ c) : Rel x n g { s with c := c } a w :=
  ⟨hr.mr, hr.tm, hr.df, hr.fr, fun i hi => hr.young i (hi.mono h)⟩

theorem T_forget {c : Code} (fr : List (Nat × AV)) (h : ∀ t, t < n → F fr t = .undef ∨ F fr t = F s.fr t) (hT : T P x n c { s with fr := fr } Q) : T P x n c s Q :=
  T_ghost _ (fun g _ _ hr => ⟨g, hr.forget fr h⟩) hT
theorem T_drop {c : Code} (m : Mem) (h : ∀ i o, m i = some o → s.mem i = some o) (hT : T P x n c { s with mem := m } Q) : T P x n c s Q :=
  T_ghost _ (fun g _ _ hr => ⟨g, hr.drop m h⟩) hT
end
end Go.Ab
