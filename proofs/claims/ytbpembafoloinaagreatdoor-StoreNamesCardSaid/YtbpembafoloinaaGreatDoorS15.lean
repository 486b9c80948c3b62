/- The plain law of writing and reading: what Encode wrote, Decode reads; what Value wrote, Entry reads. -/
import Derived.Test.YtbpembafoloinaaGreatDoorS12
set_option linter.unusedVariables false
set_option linter.unusedSimpArgs false
namespace Go.Proofs.YtbpembafoloinaaGreatDoor
open Go Go.Ab
theorem digits_len : ∀ (k n : Nat), n < 10 ^ (k + 1) → (Lib.decDigits n).length ≤ k + 1
  | 0, n, h => by rw [digits_small (by simpa using h)]; simp
  | k + 1, n, h => by
    by_cases hs : n < 10
    · rw [digits_small hs]; simp
    · rw [digits_big hs, List.length_append]
      have := digits_len k (n / 10) (by rw [Nat.pow_succ] at h; omega)
      simp only [List.length_cons, List.length_nil]; omega
theorem digits_no (n : Nat) : ∀ b, b ∈ Lib.decDigits n → ¬ b = 58 := by
  have one : ∀ d, d < 10 → ¬ UInt8.ofNat (48 + d) = 58 := fun d hd e => by
    have h1 := congrArg UInt8.toNat e
    rw [UInt8.toNat_ofNat'] at h1
    have : (58 : UInt8).toNat = 58 := rfl
    omega
  induction n using Nat.strongRecOn with
  | ind n ih =>
    intro b hb
    by_cases h : n < 10
    · rw [digits_small h, List.mem_singleton] at hb; subst hb; exact one n h
    · rw [digits_big h] at hb
      rcases List.mem_append.1 hb with hb | hb
      · exact ih _ (by omega) b hb
      · rw [List.mem_singleton] at hb; subst hb; exact one _ (by omega)
theorem idx_at (u : Str) : ∀ t : Str, (∀ b, b ∈ t → ¬ b = 58) → Lib.indexByte (t ++ 58 :: u) 58 = t.length
  | [], _ => by simp [Lib.indexByte]
  | b :: t, h => by
    have hb : (b == 58) = false := by simpa using h b (by simp)
    have ih := idx_at u t fun b hb => h b (by simp [hb])
    simp only [List.cons_append, Lib.indexByte, hb, Bool.false_eq_true, if_false, ih, beq_iff_eq]
    rw [if_neg (by omega), List.length_cons]; omega
theorem refN_digits {n : Nat} (h : n < 1000000000) : refN (Lib.decDigits n) = n := by
  have hl := digits_len 8 n h
  rw [refN, if_neg, dec_digits]
  rintro (h | h | ⟨h, h'⟩)
  · exact digits_ne n h
  · omega
  · have := digits_head n h
    subst this
    rw [digits_small (by decide)] at h'
    simp at h'
theorem decT_chunk (s t : Str) (hs : s.length < 1000000000) : decT (chunk s ++ t) = (decT t).map (s :: ·) := by
  have he : chunk s ++ t = Lib.decDigits s.length ++ 58 :: (s ++ 44 :: t) := by
    rw [chunk, Lib.itoa_nonneg]; simp only [List.append_assoc, List.singleton_append, List.cons_append, List.nil_append]
  have hi := idx_at (s ++ 44 :: t) _ (digits_no s.length)
  have hne : ¬ chunk s ++ t = [] := fun e => by rw [he] at e; simp at e
  have hcol : colon (chunk s ++ t) = (Lib.decDigits s.length).length := by rw [colon, he, hi]; rfl
  have hhead : headS (chunk s ++ t) = Lib.decDigits s.length := by rw [headS, hcol, he, List.take_left']; rfl
  have hrest : restS (chunk s ++ t) = s ++ 44 :: t := by
    rw [restS, hcol, he, ← List.drop_drop, List.drop_left']; · rfl
    · rfl
  obtain ⟨n1, n2⟩ := num_ref (headS (chunk s ++ t))
  rw [hhead, refN_digits hs] at n1 n2
  have hg : numG (headS (chunk s ++ t)) = true := by rw [hhead, n1]; simp
  have ha : atoiN (headS (chunk s ++ t)) = s.length := by rw [hhead]; exact n2 (by rw [← hhead]; exact hg)
  have hsz : sizeS (chunk s ++ t) = s.length := by rw [sizeS, ha]; rfl
  have hok : okS (chunk s ++ t) := by
    refine ⟨by rw [he, hi]; omega, hg, by rw [ha, hrest]; simp; omega, ?_⟩
    rw [hsz, hrest]; simp
  rw [decT_some hne hok, hsz, hrest]
  have h1 : (s ++ 44 :: t).take s.length = s := by rw [List.take_left']; rfl
  have h2 : (s ++ 44 :: t).drop (s.length + 1) = t := by
    rw [← List.drop_drop, List.drop_left']; · rfl
    · rfl
  rw [h1, h2]
theorem decT_enc : ∀ l : List Str, (∀ s, s ∈ l → s.length < 1000000000) → decT (encT l) = some l
  | [], _ => rfl
  | s :: l, h => by
    rw [encT, decT_chunk s _ (h s (by simp)), decT_enc l fun s hs => h s (by simp [hs])]; rfl
theorem ent_val (b : Bits) (h1 : 1 ≤ b.k ∧ b.k ≤ 3) (h2 : 0 ≤ b.m ∧ b.m ≤ 7) (h3 : ¬ (b.k = 2 ∧ ¬ b.l = [])) (h4 : b.l.length < 1000000000) : entT (valT b) = (b, 0) := by
  obtain ⟨k, m, l⟩ := b
  simp only at h1 h2 h3 h4
  obtain ⟨k, rfl⟩ := Int.eq_ofNat_of_zero_le (by omega : 0 ≤ k)
  obtain ⟨m, rfl⟩ := Int.eq_ofNat_of_zero_le h2.1
  have hv : valT ⟨k, m, l⟩ = encT [Lib.decDigits k, Lib.decDigits m, l] := by
    rw [valT, if_neg (by simp only; omega), Lib.itoa_nonneg, Lib.itoa_nonneg]
  have hne : ¬ valT ⟨k, m, l⟩ = [] := fun e => by
    rw [hv] at e
    have := congrArg List.length e
    have hc := chunk_len (Lib.decDigits k)
    simp only [encT, List.length_append, List.length_nil] at this
    omega
  have hd : decT (valT ⟨k, m, l⟩) = some [Lib.decDigits k, Lib.decDigits m, l] := by
    rw [hv]
    refine decT_enc _ fun s hs => ?_
    have d1 := digits_len 0 k (by omega)
    have d2 := digits_len 0 m (by omega)
    simp only [List.mem_cons, List.not_mem_nil, or_false] at hs
    rcases hs with rfl | rfl | rfl <;> omega
  have hk := refN_digits (n := k) (by omega)
  have hm := refN_digits (n := m) (by omega)
  have hC : entC (valT ⟨k, m, l⟩) (Lib.decDigits k) (Lib.decDigits m) l = true := entC_ref.2 ⟨by rw [hk]; omega, by rw [hk]; omega, by rw [hm]; omega, by rw [hm]; omega, by rw [hk]; exact h3, by rw [hk, hm]⟩
  rw [entT, if_neg hne, hd]
  simp only
  rw [ent_ref, if_pos hC, hk, hm]
theorem ent_back (m k l : UInt8) : entT (valT (entryB m k l)) = (if (entryB m k l).k = 0 then Bits.no else entryB m k l, 0) := by
  have h4 : m.toNat % 4 < 4 := Nat.mod_lt _ (by decide)
  have h8 : k.toNat % 8 < 8 := Nat.mod_lt _ (by decide)
  by_cases h0 : (entryB m k l).k = 0
  · rw [if_pos h0, valT, if_pos h0]; rfl
  · rw [if_neg h0]
    refine ent_val _ ?_ ?_ ?_ ?_
    · simp only [entryB] at h0 ⊢; omega
    · simp only [entryB]; omega
    · rintro ⟨h1, h2⟩
      apply h2
      simp only [entryB] at h1 ⊢
      rw [if_neg (by omega)]
    · simp only [entryB]
      split
      · simp only [List.length_drop, List.length_cons, List.length_nil]; omega
      · decide
end Go.Proofs.YtbpembafoloinaaGreatDoor
