/- Filter: lines, the plain laws; the library's Split, TrimSuffix, TrimRight and LastIndexByte. -/
import Derived.Test.YtiaiggbimlbkfaaGreatDoorS8
import Derived.Test.YtiaiggbimlbkfaaGreatDoorFwP
import Derived.Test.YtiaiggbimlbkfaaGreatDoorFwM
set_option linter.unusedVariables false
set_option linter.unusedSimpArgs false
namespace Go.Proofs.YtiaiggbimlbkfaaGreatDoor
open Go Go.Ab Go.RowKit
set_option maxRecDepth 20000
set_option maxHeartbeats 2000000
/-- The pieces between a byte's places. -/
def splitL (c : UInt8) : Str → List Str
  | [] => [[]]
  | b :: s => if b = c then [] :: splitL c s else match splitL c s with | [] => [[b]] | l :: r => (b :: l) :: r
/-- The lines. -/
def linesL : Str → List Str
  | [] => []
  | b :: s => if b = 10 then [] :: linesL s else match linesL s with | [] => [[b]] | l :: r => (b :: l) :: r
theorem splitL_ne (c : UInt8) (s : Str) : splitL c s ≠ [] := by
  cases s with
  | nil => simp [splitL]
  | cons b s => simp only [splitL]; split; · simp
                split <;> simp
theorem splitL_miss {c : UInt8} : ∀ {s : Str}, c ∉ s → splitL c s = [s]
  | [], _ => rfl
  | b :: s, h => by
    have h1 : ¬ b = c := fun e => h (by simp [e])
    have h2 : c ∉ s := fun e => h (by simp [e])
    rw [splitL, if_neg h1, splitL_miss h2]
theorem splitL_hit {c : UInt8} (u : Str) : ∀ {t : Str}, c ∉ t → splitL c (t ++ c :: u) = t :: splitL c u
  | [], _ => by rw [List.nil_append, splitL, if_pos rfl]
  | b :: t, h => by
    have h1 : ¬ b = c := fun e => h (by simp [e])
    have h2 : c ∉ t := fun e => h (by simp [e])
    rw [List.cons_append, splitL, if_neg h1, splitL_hit u h2]
theorem splitL_length (c : UInt8) : ∀ s : Str, (splitL c s).length = s.count c + 1
  | [] => rfl
  | b :: s => by
    have ih := splitL_length c s
    rw [splitL]
    by_cases h : b = c
    · rw [if_pos h, List.length_cons, ih, h, List.count_cons_self]
    · rw [if_neg h, List.count_cons_of_ne h]
      cases hs : splitL c s with
      | nil => exact absurd hs (splitL_ne c s)
      | cons l r => rw [hs] at ih; simpa using ih
theorem cut_first (c : UInt8) : ∀ s : Str, c ∉ s ∨ ∃ t u, c ∉ t ∧ s = t ++ c :: u
  | [] => .inl (by simp)
  | b :: s => by
    by_cases h : b = c
    · exact .inr ⟨[], s, by simp, by rw [h]; rfl⟩
    · rcases cut_first c s with h1 | ⟨t, u, h1, h2⟩
      · exact .inl (by simp only [List.mem_cons, not_or]; exact ⟨fun e => h e.symm, h1⟩)
      · exact .inr ⟨b :: t, u, by simp only [List.mem_cons, not_or]; exact ⟨fun e => h e.symm, h1⟩, by rw [h2]; rfl⟩
theorem index_hit {c : UInt8} (u : Str) : ∀ {t : Str}, c ∉ t → Lib.index (t ++ c :: u) [c] = t.length
  | [], _ => by rw [Lib.index_one, List.nil_append, Lib.indexByte, if_pos (by simp)]; rfl
  | b :: t, h => by
    have h1 : ¬ b = c := fun e => h (by simp [e])
    have h2 : c ∉ t := fun e => h (by simp [e])
    have ih := index_hit u h2
    rw [Lib.index_one] at ih ⊢
    rw [List.cons_append, Lib.indexByte, if_neg (by simpa using h1), ih, if_neg (by simp), List.length_cons]
    rfl
theorem index_miss {c : UInt8} : ∀ {s : Str}, c ∉ s → Lib.index s [c] = -1
  | [], _ => rfl
  | b :: t, h => by
    have h1 : ¬ b = c := fun e => h (by simp [e])
    have h2 : c ∉ t := fun e => h (by simp [e])
    have ih := index_miss h2
    rw [Lib.index_one] at ih ⊢
    rw [Lib.indexByte, if_neg (by simpa using h1), ih, if_pos (by simp)]
theorem splitK_eq (c : UInt8) : ∀ (k : Nat) (s : Str), s.count c = k → Lib.splitK [c] 0 k s = splitL c s
  | 0, s, h => by rw [Lib.splitK, splitL_miss (List.count_eq_zero.1 h)]
  | k + 1, s, h => by
    rcases cut_first c s with h1 | ⟨t, u, h1, rfl⟩
    · rw [List.count_eq_zero.2 h1] at h; cases h
    · rw [Lib.splitK, index_hit u h1, if_neg (by simp), splitL_hit u h1]
      have hc : u.count c = k := by
        rw [List.count_append, List.count_eq_zero.2 h1, List.count_cons_self] at h; omega
      have hd : (t ++ c :: u).drop (t.length + 1) = u := by
        rw [← List.drop_drop, List.drop_left]; rfl
      simp only [Int.toNat_natCast, Nat.add_zero, List.take_left, List.length_singleton, hd]
      rw [splitK_eq c k u hc]
theorem linesL_miss {s : Str} (h0 : ¬ s = []) (h : (10 : UInt8) ∉ s) : linesL s = [s] := by
  induction s with
  | nil => exact absurd rfl h0
  | cons b s ih =>
    have h1 : ¬ b = 10 := fun e => h (by simp [e])
    have h2 : (10 : UInt8) ∉ s := fun e => h (by simp [e])
    rw [linesL, if_neg h1]
    by_cases hs : s = []
    · subst hs; rfl
    · rw [ih hs h2]
theorem linesL_hit (u : Str) : ∀ {t : Str}, (10 : UInt8) ∉ t → linesL (t ++ 10 :: u) = t :: linesL u
  | [], _ => by rw [List.nil_append, linesL, if_pos rfl]
  | b :: t, h => by
    have h1 : ¬ b = 10 := fun e => h (by simp [e])
    have h2 : (10 : UInt8) ∉ t := fun e => h (by simp [e])
    rw [List.cons_append, linesL, if_neg h1, linesL_hit u h2]
/-- A text without its last end. -/
theorem lines_split (s : Str) (h0 : ¬ s = []) : splitL 10 (Lib.trimSuffix s [10]) = linesL s := by
  have hcore : ∀ (n : Nat) (s : Str), s.length = n → (¬ s = [] → splitL 10 s = if [10].isSuffixOf s then linesL s ++ [[]] else linesL s) := by
    intro n
    induction n using Nat.strongRecOn with
    | ind n ih =>
      intro s hn h0
      rcases cut_first 10 s with h1 | ⟨t, u, h1, rfl⟩
      · rw [splitL_miss h1, linesL_miss h0 h1, if_neg]
        intro hs
        obtain ⟨v, rfl⟩ := List.isSuffixOf_iff_suffix.1 hs
        exact h1 (by simp)
      · rw [splitL_hit u h1, linesL_hit u h1]
        by_cases hu : u = []
        · subst hu
          rw [if_pos (List.isSuffixOf_iff_suffix.2 ⟨t, rfl⟩)]; rfl
        · have hi := ih u.length (by rw [← hn]; simp; omega) u rfl hu
          have hsu : [(10 : UInt8)].isSuffixOf (t ++ 10 :: u) = [(10 : UInt8)].isSuffixOf u := by
            rw [Bool.eq_iff_iff, List.isSuffixOf_iff_suffix, List.isSuffixOf_iff_suffix]
            constructor
            · rintro ⟨v, hv⟩
              rcases List.eq_nil_or_concat u with rfl | ⟨u', b, rfl⟩
              · exact absurd rfl hu
              · rw [List.concat_eq_append] at hv ⊢
                have h3 := congrArg List.getLast? hv
                rw [← List.cons_append, ← List.append_assoc] at h3
                simp only [List.getLast?_append, List.getLast?_singleton, Option.some_or, Option.some.injEq] at h3
                exact ⟨u', by rw [h3]⟩
            · rintro ⟨v, rfl⟩
              exact ⟨t ++ 10 :: v, by simp⟩
          rw [hi, hsu]
          split <;> rfl
  by_cases hs : [(10 : UInt8)].isSuffixOf s
  · have h1 := hcore _ s rfl h0
    obtain ⟨v, rfl⟩ := List.isSuffixOf_iff_suffix.1 hs
    rw [Lib.trimSuffix, if_pos (show Lib.hasSuffix _ _ = true from hs)]
    simp only [List.length_append, List.length_singleton, Nat.add_sub_cancel, List.take_left]
    have hsn : ∀ (v : Str), splitL 10 (v ++ [10]) = splitL 10 v ++ [[]] := by
      intro v
      induction v with
      | nil => rfl
      | cons b v ih =>
        rw [List.cons_append, splitL, splitL, ih]
        by_cases hb : b = 10
        · rw [if_pos hb, if_pos hb]; rfl
        · rw [if_neg hb, if_neg hb]
          cases hv : splitL 10 v with
          | nil => exact absurd hv (splitL_ne 10 v)
          | cons l r => rfl
    rw [if_pos hs, hsn] at h1
    exact List.append_cancel_right h1
  · rw [Lib.trimSuffix, if_neg (show ¬ Lib.hasSuffix _ _ = true from hs), hcore _ s rfl h0, if_neg hs]
theorem maxlen {g : Gh} {w : World} (h : TellsW Tryz.prog g w) : ∃ m, w.cell? ⟨0, 0, none⟩ = some (.int .i64 m) := by
  obtain ⟨_, _, _, _, m, h7⟩ := h.facts
  exact ⟨m, h.com _ _ _ h7⟩
theorem str_ba {s : Str} {b : ByteArray} (h : b.data.toList = s) : b = ⟨s.toArray⟩ := by
  cases b; simp only at h; congr 1; rw [← h]
theorem split_ok (s : Str) (c : UInt8) (hl : s.length < 4294967281) (p : Oid) :
    CallOK Tryz.prog 72 [.str s, .str [c]] (Oid.under p) ⟨[], .sl (.sub 0 0 p) 1 (splitL c s).length, [(.sub 0 0 p, some (.arr 1 ((splitL c s).map AV.str)))]⟩ := by
  have hB : Lib.splitB ⟨#[c]⟩ 0 (s.count c) ⟨s.toArray⟩ = (splitL c s).map fun t => ⟨t.toArray⟩ := by
    have h1 := Lib.splitB_data ⟨#[c]⟩ 0 (s.count c) ⟨s.toArray⟩
    have h2 : Lib.splitK [c] 0 (s.count c) s = splitL c s := splitK_eq c _ s rfl
    rw [show (ByteArray.mk #[c]).data.toList = [c] from rfl, show (ByteArray.mk s.toArray).data.toList = s from rfl, h2] at h1
    rw [← h1, List.map_map]
    conv => lhs; rw [← List.map_id (Lib.splitB _ _ _ _)]
    apply List.map_congr_left
    intro b _
    cases b; rfl
  have hc : ((Lib.splitB ⟨#[c]⟩ 0 (s.count c) ⟨s.toArray⟩).map Value.string).toArray = ((splitL c s).map fun t => Value.string ⟨t.toArray⟩).toArray := by rw [hB, List.map_map]; rfl
  have hg : ∀ i, i < (splitL c s).length → ((splitL c s).map AV.str).getD i .undef = .str ((splitL c s).getD i []) := fun i hi => by simp [List.getD_eq_getElem?_getD, List.getElem?_map, List.getElem?_eq_getElem hi]
  have hg2 : ∀ i, i < (splitL c s).length → (((splitL c s).map fun t => Value.string ⟨t.toArray⟩).toArray).getD i undef = Value.string ⟨((splitL c s).getD i []).toArray⟩ := fun i hi => by
    simp [Array.getD_eq_getD_getElem?, List.getD_eq_getElem?_getD, List.getElem?_eq_getElem hi, hi]
  have key := callOK_newRow (P := Tryz.prog) (f := 72) (xs := [.str s, .str [c]]) (p := p) ((splitL c s).map AV.str) ((splitL c s).map fun t => Value.string ⟨t.toArray⟩).toArray 9 (by kernel_rfl) (by simp)
    (fun i hi => by rw [hg i (by simpa using hi)]; rfl) (fun i hi => by rw [hg2 i (by simpa using hi)]; rfl)
    (fun g i hi => by rw [hg i (by simpa using hi), hg2 i (by simpa using hi)]; exact .str _ _ rfl)
    fun g args w ha ht => by
      obtain ⟨v, u, rfl, hv, hu⟩ := ha.two
      obtain ⟨b, rfl, hb⟩ := hv.str_inv
      obtain ⟨d, rfl, hd⟩ := hu.str_inv
      obtain ⟨m, hm⟩ := maxlen ht
      rw [str_ba hb, str_ba hd]
      refine (Tryz.strings_Split ⟨s.toArray⟩ ⟨#[c]⟩ m w (by show s.toArray.size < _; simpa using hl) hm (by show 1 ≤ (#[c] : Array UInt8).size; exact Nat.le_refl _)).mono ?_
      rintro e w' ⟨rfl, rfl⟩
      have hcb : Lib.countB ⟨s.toArray⟩ ⟨#[c]⟩ = s.count c := Lib.count_one c s
      rw [hcb, hc, List.length_map, splitL_length]
      exact ⟨rfl, rfl⟩
  rwa [List.length_map] at key
theorem trimSuffix_ok (s t : Str) (hl : s.length ≤ 9223372036854775807) (sp : Oid → Prop) : CallOK Tryz.prog 86 [.str s, .str t] sp ⟨[], .str (Lib.trimSuffix s t), []⟩ :=
  callOK_same (by kernel_rfl) fun g args w ha _ => by
    obtain ⟨v, u, rfl, hv, hu⟩ := ha.two
    obtain ⟨b, rfl, hb⟩ := hv.str_inv
    obtain ⟨d, rfl, hd⟩ := hu.str_inv
    rw [str_ba hb, str_ba hd]
    refine (Tryz.strings_TrimSuffix ⟨s.toArray⟩ ⟨t.toArray⟩ w (by show s.toArray.size ≤ _; simpa using hl)).mono ?_
    rintro e w' ⟨rfl, rfl⟩
    exact ⟨_, rfl, .str _ _ rfl, rfl⟩
theorem trimRight_ok (s : Str) (hl : s.length ≤ 9223372036854775807) (sp : Oid → Prop) : CallOK Tryz.prog 97 [.str s, .str [47]] sp ⟨[], .str (Lib.trimRightB s 47), []⟩ :=
  callOK_same (by kernel_rfl) fun g args w ha _ => by
    obtain ⟨v, u, rfl, hv, hu⟩ := ha.two
    obtain ⟨b, rfl, hb⟩ := hv.str_inv
    obtain ⟨d, rfl, hd⟩ := hu.str_inv
    rw [str_ba hb, str_ba hd]
    refine (Tryz.strings_TrimRight_one ⟨s.toArray⟩ 47 (by decide) w (by show s.toArray.size ≤ _; simpa using hl)).mono ?_
    rintro e w' ⟨rfl, rfl⟩
    exact ⟨_, rfl, .str _ _ rfl, rfl⟩
end Go.Proofs.YtiaiggbimlbkfaaGreatDoor
