/- The plain law of the store's map: its entries as a function of the name. -/
import Derived.Test.YtbpembafoloinaaGreatDoorS13
set_option linter.unusedVariables false
set_option linter.unusedSimpArgs false
namespace Go.Proofs.YtbpembafoloinaaGreatDoor
open Go Go.Ab
theorem sameK_str (a b : Str) : sameK (.str a) (.str b) = decide (a = b) := by
  by_cases h : a = b <;> simp [sameK, AV.cells, eqCells, eqS, h]
abbrev Ent := Str × Bits × Nat
def entM (q : Ent) : ME := ⟨.str q.1, q.2.1.av, q.2.2⟩
def getB (n : Str) : List Ent → Bits
  | [] => Bits.no
  | q :: L => if n = q.1 then q.2.1 else getB n L
def setB (n : Str) (b : Bits) (c : Nat) : List Ent → List Ent
  | [] => [(n, b, c)]
  | q :: L => if n = q.1 then (q.1, b, q.2.2) :: L else q :: setB n b c L
def delB (n : Str) : List Ent → List Ent
  | [] => []
  | q :: L => if n = q.1 then L else q :: delB n L
theorem val_get (n : Str) : ∀ L : List Ent, valE (.str n) Bits.no.av (L.map entM) = (getB n L).av
  | [] => rfl
  | q :: L => by
    have ih := val_get n L
    simp only [valE, List.map_cons, lookE, entM, sameK_str, getB] at ih ⊢
    by_cases h : n = q.1
    · simp [h]
    · simp only [h, decide_false, Bool.false_eq_true, if_false]; exact ih
theorem set_map (n : Str) (b : Bits) (c : Nat) : ∀ L : List Ent, setE (.str n) b.av c (L.map entM) = (setB n b c L).map entM
  | [] => rfl
  | q :: L => by
    have ih := set_map n b c L
    simp only [List.map_cons, setE, setB]
    by_cases h : n = q.1
    · simp [h, entM, sameK_str]
    · simp only [h, entM, sameK_str, decide_false, Bool.false_eq_true, if_false, List.map_cons]
      exact congrArg _ ih
theorem del_map (n : Str) : ∀ L : List Ent, delE (.str n) (L.map entM) = (delB n L).map entM
  | [] => rfl
  | q :: L => by
    have ih := del_map n L
    simp only [List.map_cons, delE, delB]
    by_cases h : n = q.1
    · simp [h, entM, sameK_str]
    · simp only [h, entM, sameK_str, decide_false, Bool.false_eq_true, if_false, List.map_cons]
      exact congrArg _ ih
theorem get_set (n n' : Str) (b : Bits) (c : Nat) : ∀ L : List Ent, getB n' (setB n b c L) = if n' = n then b else getB n' L
  | [] => rfl
  | q :: L => by
    have ih := get_set n n' b c L
    simp only [setB]
    by_cases h : n = q.1
    · subst h; simp only [if_true, getB]; split <;> rfl
    · simp only [h, if_false, getB, ih]
      by_cases h' : n' = q.1
      · have : ¬ n' = n := fun e => h (e ▸ h')
        simp [h', this, Ne.symm h, h]
      · simp [h']
theorem get_no {n : Str} : ∀ {L : List Ent}, ¬ n ∈ L.map (·.1) → getB n L = Bits.no
  | [], _ => rfl
  | q :: L, h => by
    simp only [List.map_cons, List.mem_cons, not_or] at h
    rw [getB, if_neg h.1, get_no h.2]
theorem get_del (n n' : Str) : ∀ L : List Ent, (L.map (·.1)).Nodup → getB n' (delB n L) = if n' = n then Bits.no else getB n' L
  | [], _ => by simp [delB, getB]
  | q :: L, hn => by
    simp only [List.map_cons, List.nodup_cons] at hn
    have ih := get_del n n' L hn.2
    simp only [delB]
    by_cases h : n = q.1
    · subst h
      simp only [if_true, getB]
      by_cases h' : n' = q.1
      · subst h'; simp only [if_true]; exact get_no hn.1
      · simp [h']
    · simp only [h, if_false, getB, ih]
      by_cases h' : n' = q.1
      · have : ¬ n' = n := fun e => h (e ▸ h')
        rw [if_pos h', if_neg this, if_pos h']
      · simp [h']
theorem keys_set (n : Str) (b : Bits) (c : Nat) : ∀ L : List Ent, ∀ x, x ∈ (setB n b c L).map (·.1) → x = n ∨ x ∈ L.map (·.1)
  | [], x, h => by simp [setB] at h; exact .inl h
  | q :: L, x, h => by
    have ih := keys_set n b c L x
    simp only [setB] at h
    split at h
    · exact .inr (by simpa using h)
    · simp only [List.map_cons, List.mem_cons] at h ⊢
      rcases h with h | h
      · exact .inr (.inl h)
      · exact (ih h).imp id .inr
theorem nodup_set (n : Str) (b : Bits) (c : Nat) : ∀ L : List Ent, (L.map (·.1)).Nodup → ((setB n b c L).map (·.1)).Nodup
  | [], _ => by simp [setB]
  | q :: L, h => by
    simp only [List.map_cons, List.nodup_cons] at h
    simp only [setB]
    split
    · simp only [List.map_cons, List.nodup_cons]; exact h
    · rename_i hn
      simp only [List.map_cons, List.nodup_cons]
      refine ⟨fun hm => ?_, nodup_set n b c L h.2⟩
      rcases keys_set n b c L _ hm with e | e
      · exact hn e.symm
      · exact h.1 e
theorem del_sub (n : Str) : ∀ L : List Ent, (delB n L).Sublist L
  | [] => .slnil
  | q :: L => by
    simp only [delB]
    split
    · exact (List.Sublist.refl L).cons q
    · exact (del_sub n L).cons_cons q
/-- The entries are this function's. -/
def MapF (es : List ME) (f : Str → Bits) : Prop := ∃ L : List Ent, es = L.map entM ∧ (L.map (·.1)).Nodup ∧ ∀ n, getB n L = f n
def upF (f : Str → Bits) (n : Str) (b : Bits) (n' : Str) : Bits := if n' = n then b else f n'
theorem mapF_new : MapF [] fun _ => Bits.no := ⟨[], rfl, by simp, fun _ => rfl⟩
theorem mapF_val {es : List ME} {f : Str → Bits} (h : MapF es f) (n : Str) : valE (.str n) (.agg [.int .i64 0, .int .i64 0, .str []]) es = (f n).av := by
  obtain ⟨L, rfl, _, h3⟩ := h
  rw [← h3]; exact val_get n L
theorem mapF_set {es : List ME} {f : Str → Bits} (h : MapF es f) (n : Str) (b : Bits) (c : Nat) : MapF (setE (.str n) b.av c es) (upF f n b) := by
  obtain ⟨L, rfl, h2, h3⟩ := h
  exact ⟨_, set_map n b c L, nodup_set n b c L h2, fun n' => by rw [get_set, h3]; rfl⟩
theorem mapF_del {es : List ME} {f : Str → Bits} (h : MapF es f) (n : Str) : MapF (delE (.str n) es) (upF f n Bits.no) := by
  obtain ⟨L, rfl, h2, h3⟩ := h
  exact ⟨_, del_map n L, h2.sublist ((del_sub n L).map _), fun n' => by rw [get_del n n' L h2, h3]; rfl⟩
end Go.Proofs.YtbpembafoloinaaGreatDoor
