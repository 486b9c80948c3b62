/- A walk over a map: what has been seen. A range's rounds: the memory behind a round. -/
import Derived.Test.YtpdmiojenhodlaaFw26
set_option linter.unusedVariables false
set_option linter.unusedSimpArgs false
namespace Go.Ab

/-! ### numbers below n, each once -/
theorem nodup_le : ∀ (n : Nat) (l : List Nat), l.Nodup → (∀ i ∈ l, i < n) → l.length ≤ n
  | 0, [], _, _ => Nat.le_refl _
  | 0, a :: l, _, h => absurd (h a List.mem_cons_self) (Nat.not_lt_zero _)
  | n + 1, l, hd, h => by
    have h1 := nodup_le n (l.erase n) (hd.erase n) fun i hi => by
      have h2 := h i (List.mem_of_mem_erase hi)
      have h3 : i ≠ n := fun e => by subst e; exact (List.Nodup.not_mem_erase hd) hi
      omega
    have h2 : l.length ≤ (l.erase n).length + 1 := by
      rw [List.length_erase]; split <;> omega
    omega
theorem perm_range {n : Nat} {l : List Nat} (hd : l.Nodup) (h : ∀ i, i ∈ l ↔ i < n) : l.Perm (List.range n) :=
  (List.perm_ext_iff_of_nodup hd List.nodup_range).2 fun a => by rw [h a, List.mem_range]
theorem map_range_getD {α : Type} [Inhabited α] (l : List α) : (List.range l.length).map (fun i => l.getD i default) = l := by
  apply List.ext_getElem
  · simp
  · intro i h1 h2
    simp [List.getD_eq_getElem?_getD, List.getElem?_eq_getElem h2]

/-! ### the entries -/
theorem esA_mem {α : Type} {enc : α → AV} {e : ME} : ∀ {L : List (α × AV)} {k : Nat}, e ∈ esA enc L k → ∃ i q, i < L.length ∧ L[i]? = some q ∧ e = ⟨enc q.1, q.2, k + i⟩
  | [], _, h => by cases h
  | q :: L, k, h => by
    rcases List.mem_cons.1 h with rfl | h
    · exact ⟨0, q, Nat.zero_lt_succ _, rfl, rfl⟩
    · obtain ⟨i, q', h1, h2, h3⟩ := esA_mem h
      exact ⟨i + 1, q', Nat.succ_lt_succ h1, by simpa using h2, by rw [h3]; congr 1; omega⟩
theorem esA_at {α : Type} {enc : α → AV} : ∀ {L : List (α × AV)} {k i : Nat} {q : α × AV}, L[i]? = some q → ⟨enc q.1, q.2, k + i⟩ ∈ esA enc L k
  | [], _, _, _, h => by simp at h
  | a :: L, k, 0, q, h => by simp at h; subst h; exact List.mem_cons_self
  | a :: L, k, i + 1, q, h => by
    have := esA_at (enc := enc) (L := L) (k := k + 1) (i := i) (q := q) (by simpa using h)
    rw [show k + (i + 1) = k + 1 + i by omega]
    exact List.mem_cons_of_mem _ this
theorem esA_find {α : Type} {enc : α → AV} : ∀ {L : List (α × AV)} {k i : Nat} {q : α × AV}, L[i]? = some q → (esA enc L k).find? (fun e => e.born == k + i) = some ⟨enc q.1, q.2, k + i⟩
  | [], _, _, _, h => by simp at h
  | a :: L, k, 0, q, h => by
    simp at h; subst h
    simp [esA]
  | a :: L, k, i + 1, q, h => by
    have := esA_find (enc := enc) (L := L) (k := k + 1) (i := i) (q := q) (by simpa using h)
    rw [show k + 1 + i = k + (i + 1) by omega] at this
    simp only [esA, List.find?_cons]
    rw [show ((k == k + (i + 1)) = false) by simp]
    exact this

/-! ### memory that says what it holds -/
theorem callND_cons {P : Program} {f : FuncId} {xs : List AV} {sp : Oid → Prop} {L : List (Oid × AObj)} {R Rp : AV → List (Oid × Option AObj) → Prop} (he : entersB P f = true)
    (h : (∀ q ∈ L, Mem.of L q.1 = some q.2) → CallND P f xs sp L R Rp) : CallND P f xs sp L R Rp := by
  by_cases hc : ∀ q ∈ L, Mem.of L q.1 = some q.2
  · exact h hc
  · refine ⟨he, fun x g args w m hm hn _ _ _ => absurd (fun q hq => ?_) hc⟩
    obtain ⟨o, ho⟩ := Mem.of_some hq
    obtain ⟨q', h1, h2, h3⟩ := Mem.of_mem ho
    have h4 := hn q hq
    have h5 := hn q' h1
    rw [h2, h4, h3] at h5
    rw [ho]; exact h5.symm
/-- Behind a round: what was not the round's is as it was; what was the round's is what it says. -/
theorem yield_mem {B L L' : List (Oid × AObj)} {m : Mem} {upd : List (Oid × Option AObj)} {sp : Oid → Prop} (hU : UpdOK L sp upd L') (hL : ∀ q ∈ L, m q.1 = some q.2) (hB : ∀ q ∈ B, m q.1 = some q.2)
    (hd : ∀ q ∈ B, (∀ q' ∈ L, ¬ q'.1 = q.1) ∧ ¬ sp q.1) : ∀ q, q ∈ B ++ L' → (m.upds upd) q.1 = some q.2 := by
  intro q hq
  rcases List.mem_append.1 hq with hq | hq
  · rw [upds_nokey fun q' hq' e => ?_]
    · exact hB q hq
    · obtain ⟨h1, h2⟩ := hd q hq
      rcases hU.tou q' hq' with ⟨q2, h3, h4⟩ | h3
      · exact h1 q2 h3 (h4.trans e)
      · exact h2 (e ▸ h3)
  · exact upds_sub hL (hU.got q hq)
/-- What a list says of itself, put behind names of its own. -/
theorem cons_app {B L : List (Oid × AObj)} (hB : ∀ q ∈ B, Mem.of (B ++ L) q.1 = some q.2) (hd : ∀ q ∈ L, ∀ q' ∈ B, ¬ q.1 = q'.1) (hL : ∀ q ∈ L, Mem.of L q.1 = some q.2) : ∀ q ∈ B ++ L, Mem.of (B ++ L) q.1 = some q.2 := by
  intro q hq
  rcases List.mem_append.1 hq with hq | hq
  · exact hB q hq
  · have : ∀ (B : List (Oid × AObj)), (∀ q' ∈ B, ¬ q.1 = q'.1) → Mem.of (B ++ L) q.1 = Mem.of L q.1 := by
      intro B h
      induction B with
      | nil => rfl
      | cons b B ih => rw [List.cons_append, Mem.of_cons_at, if_neg (h b List.mem_cons_self)]; exact ih fun q' hq' => h q' (List.mem_cons_of_mem _ hq')
    rw [this B (hd q hq)]; exact hL q hq
theorem K_mem {P : Program} {x : Ctx} {n : Nat} {a : Code} {Q : AX → AS → Prop} {fr : List (Nat × AV)} {m : Mem} {c : Nat} {ds : List AD} (L : List (Oid × AObj)) (hm : ∀ q, q ∈ L → m q.1 = some q.2) (h : T P x n a ⟨fr, Mem.of L, c, ds⟩ Q) : T P x n a ⟨fr, m, c, ds⟩ Q :=
  K_drop (Mem.of L) (fun i o hi => by obtain ⟨q, h1, rfl, rfl⟩ := Mem.of_mem hi; exact hm q h1) h
theorem mem_sub {L : List (Oid × AObj)} {m : Mem} (hm : ∀ q, q ∈ L → m q.1 = some q.2) : ∀ i o, Mem.of L i = some o → m i = some o := fun i o hi => by
  obtain ⟨q, h1, rfl, rfl⟩ := Mem.of_mem hi; exact hm q h1
theorem of_put_at (i : Oid) (x : Option AObj) (l : List (Oid × AObj)) (j : Oid) : Mem.of (putL i x l) j = if j = i then x else Mem.of l j := by rw [← Mem.of_putL]; rfl
end Go.Ab
