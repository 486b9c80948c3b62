/- The order of hazards: total, and told apart. -/
import Derived.Test.YtpdmiojenhodlaaH13
import Derived.Test.YtpdmiojenhodlaaFwS
set_option linter.unusedVariables false
set_option linter.unusedSimpArgs false
namespace Go.Proofs.Ytpdmiojenhodlaa
open Go Go.Ab
open Go.Proofs (ltOf)
/-- A comparing function that orders. -/
structure Cmp {α : Type} (c : α → α → Int) : Prop where
  refl : ∀ x, c x x = 0
  sym : ∀ x y, c x y < 0 ↔ 0 < c y x
  t1 : ∀ x y z, c x y < 0 → c y z ≤ 0 → c x z < 0
  t2 : ∀ x y z, c x y ≤ 0 → c y z < 0 → c x z < 0
  t3 : ∀ x y z, c x y = 0 → c y z = 0 → c x z = 0
def lexC {α : Type} (a b : α → α → Int) : α → α → Int := fun x y => if a x y = 0 then b x y else a x y
theorem Cmp.lex {α : Type} {a b : α → α → Int} (ha : Cmp a) (hb : Cmp b) : Cmp (lexC a b) := by
  have zero : ∀ x y, a x y = 0 → a y x = 0 := fun x y h => by
    have h1 := ha.sym x y; have h2 := ha.sym y x; omega
  refine ⟨fun x => by simp [lexC, ha.refl, hb.refl], fun x y => ?_, fun x y z h1 h2 => ?_, fun x y z h1 h2 => ?_, fun x y z h1 h2 => ?_⟩
  · have h1 := ha.sym x y; have h2 := ha.sym y x; have h3 := hb.sym x y
    simp only [lexC]
    split <;> split <;> omega
  · simp only [lexC] at h1 h2 ⊢
    have k1 := ha.t1 x y z; have k2 := ha.t2 x y z; have k3 := ha.t3 x y z; have k4 := hb.t1 x y z
    split at h1 <;> split at h2 <;> split <;> first | omega | (exfalso; omega) | skip
    all_goals (first | (have := k3 ‹_› ‹_›; omega) | (have := k1 (by omega) (by omega); omega) | (have := k2 (by omega) (by omega); omega) | exact k4 h1 h2)
  · simp only [lexC] at h1 h2 ⊢
    have k1 := ha.t1 x y z; have k2 := ha.t2 x y z; have k3 := ha.t3 x y z; have k4 := hb.t2 x y z
    split at h1 <;> split at h2 <;> split <;> first | omega | (exfalso; omega) | skip
    all_goals (first | (have := k3 ‹_› ‹_›; omega) | (have := k1 (by omega) (by omega); omega) | (have := k2 (by omega) (by omega); omega) | exact k4 h1 h2)
  · simp only [lexC] at h1 h2 ⊢
    have k3 := ha.t3 x y z; have k4 := hb.t3 x y z
    split at h1 <;> split at h2 <;> split <;> first | omega | (exfalso; omega) | skip
    all_goals (first | (have := k3 ‹_› ‹_›; omega) | exact k4 h1 h2)
theorem Cmp.int {α : Type} (f : α → Int) : Cmp fun x y => cmpI (f x) (f y) := by
  refine ⟨fun x => ?_, fun x y => ?_, fun x y z => ?_, fun x y z => ?_, fun x y z => ?_⟩ <;> simp only [cmpI] <;> (repeat' split) <;> omega
theorem ltS_cons (a b : UInt8) (x y : Str) : ltS (a :: x) (b :: y) = true ↔ a.toNat < b.toNat ∨ (a.toNat = b.toNat ∧ ltS x y = true) := by
  simp only [ltS, Op.bytesLess, Bool.or_eq_true, Bool.and_eq_true, decide_eq_true_eq, beq_iff_eq, UInt8.lt_iff_toNat_lt, ← UInt8.toNat_inj]
theorem ltS_trans : ∀ a b c : Str, ltS a b = true → ltS b c = true → ltS a c = true
  | [], _, [], _, h => by cases ‹Str› <;> simp [ltS, Op.bytesLess] at h
  | [], _, _ :: _, _, _ => rfl
  | _ :: _, [], _, h, _ => by simp [ltS, Op.bytesLess] at h
  | _ :: _, _ :: _, [], _, h => by simp [ltS, Op.bytesLess] at h
  | a :: x, b :: y, c :: z, h1, h2 => by
    rw [ltS_cons] at h1 h2 ⊢
    rcases h1 with h1 | ⟨h1, h3⟩ <;> rcases h2 with h2 | ⟨h2, h4⟩
    · exact .inl (by omega)
    · exact .inl (by omega)
    · exact .inl (by omega)
    · exact .inr ⟨by omega, ltS_trans x y z h3 h4⟩
theorem ltS_irr : ∀ a : Str, ltS a a = false
  | [] => rfl
  | a :: x => by
    have := ltS_irr x
    rw [Bool.eq_false_iff] at this ⊢
    intro h
    rw [ltS_cons] at h
    rcases h with h | ⟨_, h⟩
    · omega
    · exact this h
theorem ltS_tot : ∀ a b : Str, ltS a b = false → ltS b a = false → a = b
  | [], [], _, _ => rfl
  | [], _ :: _, h, _ => by simp [ltS, Op.bytesLess] at h
  | _ :: _, [], _, h => by simp [ltS, Op.bytesLess] at h
  | a :: x, b :: y, h1, h2 => by
    rw [Bool.eq_false_iff] at h1 h2
    have h3 := fun h => h1 ((ltS_cons a b x y).2 h)
    have h4 := fun h => h2 ((ltS_cons b a y x).2 h)
    have hab : a.toNat = b.toNat := by
      rcases Nat.lt_trichotomy a.toNat b.toNat with h | h | h
      · exact absurd (.inl h) h3
      · exact h
      · exact absurd (.inl h) h4
    have := ltS_tot x y (by rw [Bool.eq_false_iff]; exact fun h => h3 (.inr ⟨hab, h⟩)) (by rw [Bool.eq_false_iff]; exact fun h => h4 (.inr ⟨hab.symm, h⟩))
    rw [this, UInt8.toNat_inj.1 hab]
theorem ltS_asym (a b : Str) (h : ltS a b = true) : ltS b a = false := by
  rw [Bool.eq_false_iff]
  intro h2
  have := ltS_trans a b a h h2
  rw [ltS_irr] at this; cases this
theorem cmpS_lt (a b : Str) : cmpS a b < 0 ↔ ltS a b = true := by
  simp only [cmpS]; split
  · rename_i h; exact ⟨fun _ => h, fun _ => by decide⟩
  · rename_i h
    refine ⟨fun h2 => ?_, fun h2 => absurd h2 h⟩
    split at h2 <;> simp at h2
theorem cmpS_eq (a b : Str) : cmpS a b = 0 ↔ a = b := by
  simp only [cmpS]; split
  · rename_i h
    refine ⟨fun h => by simp at h, fun e => ?_⟩
    subst e; rw [ltS_irr] at h; cases h
  · split
    · rename_i e; exact ⟨fun _ => e, fun _ => rfl⟩
    · rename_i e; exact ⟨fun h => absurd h (by decide), fun h => absurd h e⟩
theorem cmpS_gt (a b : Str) : 0 < cmpS a b ↔ ltS b a = true := by
  have h1 := cmpS_lt a b; have h2 := cmpS_eq a b
  refine ⟨fun h => ?_, fun h => ?_⟩
  · cases h3 : ltS b a with
    | true => rfl
    | false =>
      cases h4 : ltS a b with
      | true => have := h1.2 h4; omega
      | false => have := h2.2 (ltS_tot a b h4 h3); omega
  · have h3 := ltS_asym b a h
    have h4 : ¬ cmpS a b < 0 := fun h => by rw [h1, h3] at h; cases h
    have h5 : ¬ cmpS a b = 0 := fun e => by rw [h2] at e; subst e; rw [ltS_irr] at h; cases h
    omega
theorem Cmp.str {α : Type} (f : α → Str) : Cmp fun x y => cmpS (f x) (f y) := by
  have le : ∀ a b, cmpS a b ≤ 0 ↔ (ltS a b = true ∨ a = b) := fun a b => by
    rw [← cmpS_lt, ← cmpS_eq]; omega
  refine ⟨fun x => (cmpS_eq _ _).2 rfl, fun x y => ?_, fun x y z => ?_, fun x y z => ?_, fun x y z => ?_⟩
  · rw [cmpS_lt, cmpS_gt]
  · simp only [cmpS_lt, le]
    rintro h1 (h2 | h2)
    · exact ltS_trans _ _ _ h1 h2
    · rw [← h2]; exact h1
  · simp only [cmpS_lt, le]
    rintro (h1 | h1) h2
    · exact ltS_trans _ _ _ h1 h2
    · rw [h1]; exact h2
  · simp only [cmpS_eq]
    exact fun h1 h2 => h1.trans h2
theorem order_lex (x y : Hz) : orderF x y = lexC (fun x y : Hz => cmpI x.first y.first) (lexC (fun x y : Hz => cmpI x.second y.second) (lexC (fun x y : Hz => cmpS x.path y.path) (lexC (fun x y : Hz => cmpI (b2i x.names) (b2i y.names)) (fun x y : Hz => cmpI (b2i x.late) (b2i y.late))))) x y := by
  simp only [orderF, orI, lexC]
  by_cases h : cmpI (b2i x.late) (b2i y.late) = 0
  · simp [h]
  · simp [h]
theorem order_cmp : Cmp orderF := by
  have : orderF = _ := funext fun x => funext fun y => order_lex x y
  rw [this]
  exact (Cmp.int fun x : Hz => (x.first : Int)).lex ((Cmp.int fun x : Hz => (x.second : Int)).lex ((Cmp.str fun x : Hz => x.path).lex ((Cmp.int fun x : Hz => b2i x.names).lex (Cmp.int fun x : Hz => b2i x.late))))
theorem order_swo : Go.Sort.SWO (ltOf orderF) := by
  have c := order_cmp
  refine ⟨fun x => ?_, fun x y z h1 h2 => ?_, fun x y z h1 h2 => ?_⟩
  · simp [ltOf, c.refl]
  · simp only [ltOf, decide_eq_true_eq] at *
    exact c.t1 x y z h1 (by omega)
  · simp only [ltOf, decide_eq_false_iff_not] at *
    have h3 := c.sym x z; have h4 := c.sym x y; have h5 := c.sym y z; have h4' := c.sym y x; have h5' := c.sym z y; have h3' := c.sym z x
    have k1 := c.t1 z y x; have k2 := c.t2 z y x; have k3 := c.t3 z y x
    by_cases e1 : orderF z y < 0
    · have := k1 e1 (by omega); omega
    · by_cases e2 : orderF y x < 0
      · have := k2 (by omega) e2; omega
      · have := k3 (by omega) (by omega); omega
theorem cmpI_eq (a b : Int) : cmpI a b = 0 ↔ a = b := by
  simp only [cmpI]; split
  · exact ⟨fun h => by omega, fun h => by omega⟩
  · split <;> omega
theorem order_eq (x y : Hz) : orderF x y = 0 ↔ x = y := by
  constructor
  · intro h
    rw [order_lex] at h
    simp only [lexC] at h
    obtain ⟨p, n, f, s, l⟩ := x
    obtain ⟨p', n', f', s', l'⟩ := y
    simp only at h
    split at h <;> rename_i h1
    · split at h <;> rename_i h2
      · split at h <;> rename_i h3
        · split at h <;> rename_i h4
          · rw [cmpI_eq] at h1 h2 h4 h
            rw [cmpS_eq] at h3
            simp only [Int.ofNat_inj] at h1 h2
            subst h1; subst h2; subst h3
            congr 1
            · revert h4; cases n <;> cases n' <;> simp [b2i]
            · revert h; cases l <;> cases l' <;> simp [b2i]
          · exact absurd h h4
        · exact absurd h h3
      · exact absurd h h2
    · exact absurd h h1
  · rintro rfl; exact order_cmp.refl x
end Go.Proofs.Ytpdmiojenhodlaa
