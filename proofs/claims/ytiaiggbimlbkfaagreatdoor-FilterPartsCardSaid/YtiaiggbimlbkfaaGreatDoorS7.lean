/- The plain law of numerals: what Atoi and Itoa take for a number is what the reference's loop takes for one. -/
import Derived.Test.YtiaiggbimlbkfaaGreatDoorS6a
import Derived.Lib.AtoiTie
set_option linter.unusedVariables false
set_option linter.unusedSimpArgs false
namespace Go.Proofs.YtiaiggbimlbkfaaGreatDoor
open Go Go.Ab
theorem dec_snoc (b : UInt8) : ∀ (t : Str) (a : Nat), Lib.decFrom a (t ++ [b]) = (Lib.decFrom a t).bind fun v => (Lib.digitVal b).map fun d => v * 10 + d
  | [], a => by
    simp only [List.nil_append, Lib.decFrom, Option.bind_some]
    cases Lib.digitVal b <;> rfl
  | c :: t, a => by
    simp only [List.cons_append, Lib.decFrom]
    cases Lib.digitVal c with
    | none => rfl
    | some d => exact dec_snoc b t _
theorem digit_of {d : Nat} (h : d < 10) : Lib.digitVal (UInt8.ofNat (48 + d)) = some d := by
  have h1 : (UInt8.ofNat (48 + d)).toNat = 48 + d := by rw [UInt8.toNat_ofNat']; omega
  rw [Lib.digitVal, h1, if_pos (by omega)]; congr 1; omega
theorem digit_inv {b : UInt8} {d : Nat} (h : Lib.digitVal b = some d) : d < 10 ∧ b = UInt8.ofNat (48 + d) := by
  unfold Lib.digitVal at h
  split at h
  · simp only [Option.some.injEq] at h
    refine ⟨by omega, UInt8.toNat_inj.1 ?_⟩
    rw [UInt8.toNat_ofNat']; omega
  · cases h
theorem digits_small {n : Nat} (h : n < 10) : Lib.decDigits n = [UInt8.ofNat (48 + n)] := by rw [Lib.decDigits, dif_pos h]
theorem digits_big {n : Nat} (h : ¬ n < 10) : Lib.decDigits n = Lib.decDigits (n / 10) ++ [UInt8.ofNat (48 + n % 10)] := by rw [Lib.decDigits.eq_def n, dif_neg h]
theorem digits_ne (n : Nat) : ¬ Lib.decDigits n = [] := by
  by_cases h : n < 10
  · rw [digits_small h]; simp
  · rw [digits_big h]; simp
theorem dec_digits (n : Nat) : Lib.decFrom 0 (Lib.decDigits n) = some n := by
  induction n using Nat.strongRecOn with
  | ind n ih =>
    by_cases h : n < 10
    · rw [digits_small h, Lib.decFrom, digit_of h]; simp [Lib.decFrom]
    · rw [digits_big h, dec_snoc, ih _ (by omega), digit_of (by omega)]
      simp only [Option.bind_some, Option.map_some]; congr 1; omega
theorem getD_head {t u : Str} (h : ¬ t = []) : (t ++ u).getD 0 0 = t.getD 0 0 := by
  cases t with
  | nil => exact absurd rfl h
  | cons => rfl
theorem digits_head (n : Nat) : (Lib.decDigits n).getD 0 0 = 48 → n = 0 := by
  induction n using Nat.strongRecOn with
  | ind n ih =>
    intro h
    by_cases hs : n < 10
    · rw [digits_small hs] at h
      have h1 := congrArg UInt8.toNat h
      simp only [List.getD_cons_zero] at h1
      rw [UInt8.toNat_ofNat'] at h1
      have : (48 : UInt8).toNat = 48 := rfl
      omega
    · rw [digits_big hs, getD_head (digits_ne _)] at h
      have := ih (n / 10) (by omega) h
      omega
/-- A canonical numeral is what its value is written as. -/
theorem dec_canon : ∀ (k : Nat) (s : Str) (n : Nat), s.length = k → ¬ s = [] → ¬ (s.getD 0 0 = 48 ∧ 1 < s.length) → Lib.decFrom 0 s = some n → Lib.decDigits n = s := by
  intro k
  induction k with
  | zero => intro s n hk hs; exact absurd (List.eq_nil_of_length_eq_zero hk) hs
  | succ k ih =>
    intro s n hk hs hc hd
    rcases List.eq_nil_or_concat s with rfl | ⟨t, b, rfl⟩
    · exact absurd rfl hs
    rw [List.concat_eq_append] at hk hs hc hd ⊢
    rw [dec_snoc] at hd
    simp only [Option.bind_eq_some_iff, Option.map_eq_some_iff] at hd
    obtain ⟨v, hv, d, hb, rfl⟩ := hd
    obtain ⟨hd10, rfl⟩ := digit_inv hb
    by_cases ht : t = []
    · subst ht
      simp only [Lib.decFrom, Option.some.injEq] at hv
      subst hv
      rw [Nat.zero_mul, Nat.zero_add, digits_small hd10]; rfl
    · rw [getD_head ht] at hc
      simp only [List.length_append, List.length_cons, List.length_nil] at hc hk
      have hlt := List.length_pos_iff.2 ht
      have := ih t v (by omega) ht (fun h => hc ⟨h.1, by omega⟩) hv
      have hv1 : ¬ v = 0 := fun e => by
        subst e
        rw [digits_small (by decide)] at this
        exact hc ⟨by rw [← this]; rfl, by omega⟩
      rw [digits_big (by omega), show (v * 10 + d) / 10 = v by omega, show (v * 10 + d) % 10 = d by omega, this]
def refN (s : Str) : Int := if s = [] ∨ 9 < s.length ∨ s.getD 0 0 = 48 ∧ 1 < s.length then -1 else match Lib.decFrom 0 s with | some n => n | none => -1
theorem num_ref (s : Str) : numG s = decide (0 ≤ refN s) ∧ (numG s = true → atoiN s = refN s) := by
  by_cases hl : s.length ≤ 9
  · have hsh := Lib.atoiAll_short s (by omega)
    by_cases hg : numG s = true
    · have h := hg
      simp only [numG, Bool.and_eq_true, decide_eq_true_eq] at h
      obtain ⟨⟨⟨h1, h2⟩, _⟩, h4⟩ := h
      obtain ⟨n, hn⟩ := Int.eq_ofNat_of_zero_le h2
      rw [hn, Lib.itoa_nonneg] at h4
      have hR : refN s = n := by
        rw [refN, if_neg, ← h4, dec_digits]
        rintro (h | h | ⟨h, h'⟩)
        · exact digits_ne n (h4.trans h)
        · omega
        · rw [← h4] at h h'
          have := digits_head n h
          subst this
          rw [digits_small (by decide)] at h'
          simp at h'
      rw [hg, hR]
      exact ⟨by simp, fun _ => hn⟩
    · refine ⟨?_, fun h => absurd h hg⟩
      have hgf : numG s = false := by simpa using hg
      rw [hgf]
      symm
      rw [decide_eq_false_iff_not]
      intro h0
      apply hg
      unfold refN at h0
      split at h0
      · omega
      · rename_i hc
        split at h0
        · rename_i n hd
          have hs : ¬ s = [] := fun e => hc (.inl e)
          have hcan := dec_canon _ s n rfl hs (fun h => hc (.inr (.inr h))) hd
          have hat : Lib.atoi s = some (n : Int) := by
            cases s with
            | nil => exact absurd rfl hs
            | cons b r =>
              have hb : ∃ d, Lib.digitVal b = some d := by
                simp only [Lib.decFrom] at hd
                split at hd
                · exact ⟨_, by assumption⟩
                · cases hd
              obtain ⟨d, hbd⟩ := hb
              unfold Lib.digitVal at hbd
              split at hbd
              · rename_i hr
                have h45 : (b == 45) = false := by rw [beq_eq_false_iff_ne]; rintro rfl; exact absurd hr.1 (by decide)
                have h43 : (b == 43) = false := by rw [beq_eq_false_iff_ne]; rintro rfl; exact absurd hr.1 (by decide)
                simp only [Lib.atoi, h45, h43, Lib.decNat, List.isEmpty_cons, hd, Bool.false_eq_true, if_false, Option.map_some]
              · cases hbd
          rw [hat] at hsh
          have h1 : Lib.atoiAll s = .ok (n : Int) := hsh
          have h2 : atoiN s = n := by simp only [atoiN, h1]
          simp only [numG, h2, atoiG, h1, Lib.itoa_nonneg, hcan, Bool.and_eq_true, decide_eq_true_eq]
          exact ⟨⟨⟨trivial, by omega⟩, hl⟩, trivial⟩
        · omega
  · have hR : refN s = -1 := by rw [refN, if_pos (.inr (.inl (by omega)))]
    rw [hR, numG_3 hl]
    exact ⟨by decide, fun h => by cases h⟩
end Go.Proofs.YtiaiggbimlbkfaaGreatDoor
