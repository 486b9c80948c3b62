/- Filter: fields of a line, and runs of lines that are alike: the plain laws. -/
import Derived.Test.YtiaiggbimlbkfaaGreatDoorQ8
set_option linter.unusedVariables false
set_option linter.unusedSimpArgs false
namespace Go.Proofs.YtiaiggbimlbkfaaGreatDoor
open Go Go.Ab
set_option maxRecDepth 20000
set_option maxHeartbeats 2000000
/-- The field number f of a line, by a byte. -/
def fieldC (c : UInt8) (n : Nat) (s : Str) : Str := if (splitL c s).length = 1 then s else if n ≤ (splitL c s).length then (splitL c s).getD (n - 1) [] else []
/-- What the reference gathers of the rest of a line while it still waits for field f. -/
def cutR (c : UInt8) : Int → Str → Str
  | _, [] => []
  | f, b :: s => if b = c then cutR c (f - 1) s else if f = 1 then b :: cutR c f s else cutR c f s
theorem cutR_field (c : UInt8) : ∀ (s : Str) (f : Int), cutR c f s = if 1 ≤ f then (splitL c s).getD (f - 1).toNat [] else []
  | [], f => by
    rw [cutR, splitL]
    split
    · cases (f - 1).toNat <;> rfl
    · rfl
  | b :: s, f => by
    rw [cutR, splitL]
    by_cases hb : b = c
    · rw [if_pos hb, if_pos hb, cutR_field c s (f - 1)]
      by_cases h1 : 1 ≤ f
      · rw [if_pos h1]
        by_cases h2 : 1 ≤ f - 1
        · rw [if_pos h2, show (f - 1).toNat = (f - 1 - 1).toNat + 1 by omega]; rfl
        · rw [if_neg h2, show (f - 1).toNat = 0 by omega]; rfl
      · rw [if_neg h1, if_neg (by omega)]
    · rw [if_neg hb, if_neg hb, cutR_field c s f]
      cases hs : splitL c s with
      | nil => exact absurd hs (splitL_ne c s)
      | cons l r =>
        by_cases h1 : f = 1
        · subst h1; rfl
        · rw [if_neg h1]
          by_cases h2 : 1 ≤ f
          · rw [if_pos h2, if_pos h2, show (f - 1).toNat = (f - 2).toNat + 1 by omega]; rfl
          · rw [if_neg h2, if_neg h2]
theorem cutR_miss {c : UInt8} : ∀ {s : Str} (f : Int), c ∉ s → cutR c f s = if f = 1 then s else []
  | [], f, _ => by rw [cutR]; split <;> rfl
  | b :: s, f, h => by
    have h1 : ¬ b = c := fun e => h (by simp [e])
    have h2 : c ∉ s := fun e => h (by simp [e])
    rw [cutR, if_neg h1, cutR_miss f h2]
    by_cases h3 : f = 1
    · rw [if_pos h3, if_pos h3, if_pos h3]
    · rw [if_neg h3, if_neg h3, if_neg h3]
/-- The reference's answer for a line. -/
theorem field_ref (c : UInt8) (n : Nat) (hn : 1 ≤ n) (s : Str) : (if c ∈ s then cutR c n s else s) = fieldC c n s := by
  unfold fieldC
  rw [splitL_length]
  by_cases h : c ∈ s
  · have := List.count_pos_iff.2 h
    rw [if_pos h, if_neg (by omega), cutR_field, if_pos (by omega), show ((n : Int) - 1).toNat = n - 1 by omega]
    split
    · rfl
    · rename_i h2
      rw [List.getD_eq_getElem?_getD, List.getElem?_eq_none (by rw [splitL_length]; omega)]; rfl
  · rw [if_neg h, if_pos (by rw [List.count_eq_zero.2 h])]
/-- The runs of texts that are alike, each with its length. -/
def addX (n : Nat) (x : Str) : List (Nat × Str) → List (Nat × Str)
  | [] => [(n, x)]
  | q :: g => if q.2 = x then (q.1 + n, x) :: g else (n, x) :: q :: g
def grp : List Str → List (Nat × Str)
  | [] => []
  | x :: r => addX 1 x (grp r)
theorem addX_add (n m : Nat) (x : Str) (g : List (Nat × Str)) : addX n x (addX m x g) = addX (n + m) x g := by
  cases g with
  | nil => rw [addX, addX, addX, if_pos rfl, Nat.add_comm]
  | cons q g =>
    by_cases he : q.2 = x
    · rw [addX, if_pos he, addX, if_pos rfl, addX, if_pos he, show q.1 + m + n = q.1 + (n + m) by omega]
    · rw [addX, if_neg he, addX, if_pos rfl, addX, if_neg he, Nat.add_comm m n]
/-- The text that is told of runs. -/
def runsT (counts : Bool) : List (Nat × Str) → Str
  | [] => []
  | q :: g => (if counts = true then Lib.decDigits q.1 ++ [32] else []) ++ (q.2 ++ [10]) ++ runsT counts g
theorem addX_new {n : Nat} {x : Str} {l : List Str} (h : ∀ y r, l = y :: r → ¬ y = x) : addX n x (grp l) = (n, x) :: grp l := by
  cases l with
  | nil => rfl
  | cons y r =>
    have hy := h y r rfl
    rw [grp]
    cases grp r with
    | nil => rw [addX, addX, if_neg hy]
    | cons q g =>
      rw [addX]
      split
      · rw [addX, if_neg hy]
      · rw [addX, if_neg hy]
theorem addX_len (n : Nat) (x : Str) (g : List (Nat × Str)) : (addX n x g).length ≤ g.length + 1 := by
  cases g with
  | nil => exact Nat.le_refl _
  | cons q g => rw [addX]; split <;> simp only [List.length_cons] <;> omega
theorem dec_len_le (n : Nat) : (Lib.decDigits n).length ≤ n + 1 := by
  induction n using Nat.strongRecOn with
  | ind n ih =>
    by_cases h : n < 10
    · rw [digits_small h]; simp
    · rw [digits_big h, List.length_append, List.length_singleton]
      have := ih (n / 10) (by omega)
      omega
theorem dec_succ (n m : Nat) (hm : 0 < m) : (Lib.decDigits (m + n)).length ≤ (Lib.decDigits m).length + n := by
  induction n with
  | zero => exact Nat.le_refl _
  | succ n ih =>
    have h1 : ∀ k, (Lib.decDigits (k + 1)).length ≤ (Lib.decDigits k).length + 1 := by
      intro k
      induction k using Nat.strongRecOn with
      | ind k ih =>
        by_cases h : k + 1 < 10
        · rw [digits_small h]; simp
        · rw [digits_big h, List.length_append, List.length_singleton]
          by_cases hk : k < 10
          · have : k = 9 := by omega
            subst this
            rw [digits_small (by decide), digits_small (by decide)]; simp
          · rw [digits_big hk, List.length_append, List.length_singleton]
            by_cases he : (k + 1) / 10 = k / 10
            · rw [he]; omega
            · rw [show (k + 1) / 10 = k / 10 + 1 by omega]
              have := ih (k / 10) (by omega)
              omega
    have := h1 (m + n)
    rw [show m + (n + 1) = m + n + 1 by omega]; omega
theorem runsT_addX (counts : Bool) (x : Str) (g : List (Nat × Str)) (hg : ∀ q ∈ g, 0 < q.1) : (runsT counts (addX 1 x g)).length ≤ (runsT counts g).length + x.length + 3 := by
  have h1 : (Lib.decDigits 1).length = 1 := by rw [digits_small (by decide)]; rfl
  cases g with
  | nil =>
    simp only [addX, runsT, List.append_nil, List.length_append, List.length_singleton, List.length_nil]
    split
    · rw [List.length_append, h1, List.length_singleton]; omega
    · simp only [List.length_nil]; omega
  | cons q g =>
    have hq := hg q List.mem_cons_self
    rw [addX]
    split
    · rename_i he
      have := dec_succ 1 q.1 hq
      simp only [runsT, List.length_append, List.length_singleton]
      rw [he]
      split
      · simp only [List.length_append, List.length_singleton]; omega
      · simp only [List.length_nil]; omega
    · simp only [runsT, List.length_append, List.length_singleton]
      split
      · simp only [List.length_append, List.length_singleton, h1]; omega
      · simp only [List.length_nil]; omega
theorem grp_pos : ∀ (l : List Str), ∀ q ∈ grp l, 0 < q.1
  | [], _, h => by cases h
  | x :: r, q, h => by
    have ih := grp_pos r
    rw [grp] at h
    cases hg : grp r with
    | nil => rw [hg] at h; simp only [addX, List.mem_singleton] at h; rw [h]; exact Nat.one_pos
    | cons p g =>
      rw [hg] at h ih
      rw [addX] at h
      split at h
      · rcases List.mem_cons.1 h with rfl | h
        · exact Nat.succ_pos _
        · exact ih q (List.mem_cons_of_mem _ h)
      · rcases List.mem_cons.1 h with rfl | h
        · exact Nat.one_pos
        · exact ih q h
theorem runsT_len (counts : Bool) : ∀ l : List Str, (runsT counts (grp l)).length ≤ 3 * (joinN l).length
  | [] => Nat.le_refl _
  | x :: r => by
    have ih := runsT_len counts r
    have := runsT_addX counts x (grp r) (grp_pos r)
    rw [grp]
    simp only [joinN, List.length_append, List.length_singleton]
    omega
end Go.Proofs.YtiaiggbimlbkfaaGreatDoor
