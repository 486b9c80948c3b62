/- Filter: words of a text: by runes and by bytes. -/
import Derived.Test.YtiaiggbimlbkfaaGreatDoorQ6
import Derived.Laws.RangeAny
set_option linter.unusedVariables false
set_option linter.unusedSimpArgs false
namespace Go.Proofs.YtiaiggbimlbkfaaGreatDoor
open Go Go.Ab
set_option maxRecDepth 20000
set_option maxHeartbeats 2000000
def blankB (b : UInt8) : Bool := decide (b.toNat = 32) || decide (b.toNat = 9) || decide (b.toNat = 10)
/-- How many words begin; was: a blank stood ahead. -/
def wordsB : Bool → Str → Nat
  | _, [] => 0
  | was, b :: s => (if was = true ∧ blankB b = false then 1 else 0) + wordsB (blankB b) s
theorem wordsB_skip : ∀ (j : Nat) (l : Str), j ≤ l.length → (∀ i, i < j → blankB (l.getD i 0) = false) → wordsB false l = wordsB false (l.drop j)
  | 0, _, _, _ => rfl
  | j + 1, [], h, _ => absurd h (by simp)
  | j + 1, b :: l, h, h2 => by
    have h0 : blankB b = false := h2 0 (by omega)
    rw [wordsB, h0, if_neg (by simp), Nat.zero_add, List.drop_succ_cons]
    exact wordsB_skip j l (by simpa using h) fun i hi => by simpa using h2 (i + 1) (by omega)
theorem wordsB_le : ∀ (l : Str) (w : Bool), wordsB w l ≤ l.length
  | [], _ => Nat.le_refl _
  | b :: l, w => by
    have := wordsB_le l (blankB b)
    rw [wordsB, List.length_cons]; split <;> omega
theorem decode_cont (s : ByteArray) (pos : Nat) (h : pos < s.size) : ∀ j, 1 ≤ j → j < (Utf8.decode s pos).2 → pos + j < s.size ∧ 128 ≤ (s.get! (pos + j)).toNat := by
  intro j h1 h2
  simp only [Utf8.decode] at h2
  by_cases c1 : (s.get! (pos + 0)).toNat < 128
  · rw [if_pos c1] at h2; simp only at h2; omega
  · rw [if_neg c1] at h2
    repeat' (split at h2)
    all_goals simp only [Bool.and_eq_true, decide_eq_true_eq, beq_iff_eq] at *
    all_goals first
      | (exfalso; omega)
      | (rcases (show j = 1 ∨ j = 2 ∨ j = 3 by omega) with rfl | rfl | rfl <;> first | (exfalso; omega) | exact ⟨by omega, by omega⟩)
/-- The rune at a place. -/
def runeAt (s : Str) (pos : Nat) : Nat := (Utf8.decode ⟨s.toArray⟩ pos).1
def wideAt (s : Str) (pos : Nat) : Nat := (Utf8.decode ⟨s.toArray⟩ pos).2
def blankN (c : Nat) : Bool := decide (c = 32) || decide (c = 9) || decide (c = 10)
theorem get_ba (s : Str) (i : Nat) : (ByteArray.mk s.toArray).get! i = s.getD i 0 := by
  show s.toArray[i]! = _
  by_cases h : i < s.length
  · simp [List.getD_eq_getElem?_getD, List.getElem?_eq_getElem h, h]
  · simp [List.getD_eq_getElem?_getD, List.getElem?_eq_none (Nat.le_of_not_lt h), h]; rfl
theorem getD_drop0 (s : Str) (i k : Nat) : (s.drop i).getD k 0 = s.getD (i + k) 0 := by
  simp [List.getD_eq_getElem?_getD, List.getElem?_drop]
theorem rune_step (s : Str) (pos : Nat) (h : pos < s.length) (was : Bool) :
    1 ≤ wideAt s pos ∧ pos + wideAt s pos ≤ s.length ∧ wordsB was (s.drop pos) = (if was = true ∧ blankN (runeAt s pos) = false then 1 else 0) + wordsB (blankN (runeAt s pos)) (s.drop (pos + wideAt s pos)) := by
  have hsz : (ByteArray.mk s.toArray).size = s.length := by show s.toArray.size = _; simp
  have hp : pos < (ByteArray.mk s.toArray).size := by rw [hsz]; exact h
  have hg : (ByteArray.mk s.toArray)[pos]'hp = s.getD pos 0 := by rw [← get_at _ pos hp, Nat.add_zero, get_ba]
  have hd : s.drop pos = s.getD pos 0 :: s.drop (pos + 1) := drop_cons0 h
  by_cases ha : (s.getD pos 0).toNat < 128
  · have e := decode_ascii ⟨s.toArray⟩ pos hp (by rw [hg]; exact ha)
    rw [hg] at e
    have e1 : runeAt s pos = (s.getD pos 0).toNat := by unfold runeAt; rw [e]
    have e2 : wideAt s pos = 1 := by unfold wideAt; rw [e]
    rw [e1, e2, hd, wordsB]
    exact ⟨Nat.le_refl _, by omega, rfl⟩
  · have hh := decode_high ⟨s.toArray⟩ pos hp (by rw [hg]; omega)
    have hct := decode_cont ⟨s.toArray⟩ pos hp
    change 128 ≤ runeAt s pos ∧ 1 ≤ wideAt s pos at hh
    change ∀ j, 1 ≤ j → j < wideAt s pos → _ at hct
    have hr : blankN (runeAt s pos) = false := by simp only [blankN, Bool.or_eq_false_iff, decide_eq_false_iff_not]; omega
    have hb : ∀ j, j < wideAt s pos → pos + j < s.length ∧ blankB (s.getD (pos + j) 0) = false := fun j hj => by
      by_cases h0 : j = 0
      · subst h0
        refine ⟨h, ?_⟩
        simp only [blankB, Bool.or_eq_false_iff, decide_eq_false_iff_not, Nat.add_zero]; omega
      · obtain ⟨h5, h6⟩ := hct j (by omega) hj
        rw [hsz] at h5
        rw [get_ba] at h6
        refine ⟨h5, ?_⟩
        simp only [blankB, Bool.or_eq_false_iff, decide_eq_false_iff_not]; omega
    have hw1 := hh.2
    have hend := (hb (wideAt s pos - 1) (by omega)).1
    have hb0 := (hb 0 (by omega)).2
    rw [Nat.add_zero] at hb0
    refine ⟨hw1, by omega, ?_⟩
    rw [hd, wordsB, hb0, hr]
    congr 1
    rw [wordsB_skip (wideAt s pos - 1) (s.drop (pos + 1)) (by rw [List.length_drop]; omega) (fun i hi => by
      rw [getD_drop0, show pos + 1 + i = pos + (i + 1) by omega]; exact (hb (i + 1) (by omega)).2), List.drop_drop]
    congr 2; omega
end Go.Proofs.YtiaiggbimlbkfaaGreatDoor
