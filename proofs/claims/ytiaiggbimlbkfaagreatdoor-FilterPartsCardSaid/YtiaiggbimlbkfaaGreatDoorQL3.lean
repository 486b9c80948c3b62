/- Filter: a text in another one: the plain law. -/
import Derived.Test.YtiaiggbimlbkfaaGreatDoorQ6
import Derived.Lib.IndexMore
set_option linter.unusedVariables false
set_option linter.unusedSimpArgs false
namespace Go.Proofs.YtiaiggbimlbkfaaGreatDoor
open Go Go.Ab
set_option maxRecDepth 20000
set_option maxHeartbeats 2000000
theorem occ_slice (s t : Str) (i : Nat) (h : i + t.length ≤ s.length) : Lib.occAt s t i = decide ((s.take (i + t.length)).drop i = t) := by
  rw [Lib.occAt_iff_take s t i h, List.drop_take, show i + t.length - i = t.length by omega]
  by_cases he : (s.drop i).take t.length = t
  · rw [decide_eq_true he]; simpa using he
  · rw [decide_eq_false he]; simpa using he
/-- The reference has looked at the first i places. -/
theorem has_none {s t : Str} {i : Nat} (h : s.length < i + t.length) (hno : ∀ j, j < i → j + t.length ≤ s.length → ¬ (s.take (j + t.length)).drop j = t) : Lib.contains s t = false := by
  rw [Lib.contains, decide_eq_false_iff_not]
  intro h0
  rcases Lib.index_spec s t with ⟨h1, _⟩ | ⟨k, h1, h2, h3, _⟩
  · omega
  · have hr := Lib.index_room s t h0
    have hk : k + t.length ≤ s.length := by omega
    rw [occ_slice s t k hk, decide_eq_true_eq] at h3
    exact hno k (by omega) hk h3
theorem has_at {s t : Str} {i : Nat} (h : i + t.length ≤ s.length) (he : (s.take (i + t.length)).drop i = t) : Lib.contains s t = true := by
  rw [Lib.contains, decide_eq_true_eq]
  rcases Lib.index_spec s t with ⟨_, h2⟩ | ⟨k, h1, _⟩
  · have := h2 i (by omega)
    rw [occ_slice s t i h, decide_eq_true he] at this; cases this
  · omega
end Go.Proofs.YtiaiggbimlbkfaaGreatDoor
