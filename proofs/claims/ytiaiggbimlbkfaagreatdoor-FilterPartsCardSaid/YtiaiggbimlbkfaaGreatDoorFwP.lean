/- The framework: contracts of the shelf that hand back a new row. -/
import Derived.Test.YtiaiggbimlbkfaaGreatDoorFwE
set_option linter.unusedVariables false
set_option linter.unusedSimpArgs false
set_option linter.unusedSectionVars false
namespace Go.Ab
/-- A contract of the shelf that makes a row of one-cell values and hands it back. -/
theorem callOK_newRow {P : Program} [Laid P] {f : FuncId} {xs : List AV} {p : Oid} (vs : List AV) (cs : Array Value) (t : TypeId) (he : entersB P f = true)
    (h1 : cs.size = vs.length) (h2 : ∀ i, i < vs.length → (vs.getD i .undef).cells.length = 1) (h3 : ∀ j, j < vs.length → (cs.getD j undef).oneCell' = true)
    (h4 : ∀ g i, i < vs.length → VR g ((vs.getD i .undef).cells.getD 0 .undef) (cs.getD i undef))
    (h : ∀ (g : Gh) (args : Array Value) (w : World), VRs g xs args → TellsW P g w → Calls P f args w fun en w' => en = .returned (.slice (some ⟨w.heap.size, 0, none⟩) vs.length vs.length) ∧ w' = w.alloc (.cells cs t)) :
    CallOK P f xs (Oid.under p) ⟨[], .sl (.sub 0 0 p) 1 vs.length, [(.sub 0 0 p, some (.arr 1 vs))]⟩ := by
  refine ⟨he, fun x g args w m hm _ ha hs hx => (h g args w ha (hm.told hx)).mono ?_⟩
  rintro en w' ⟨rfl, rfl⟩
  obtain ⟨hl, hu⟩ := hs (.sub 0 0 p) (Oid.under_sub (Oid.under_refl _))
  have hrn : g.row w.heap.size = none := hm.row_new (Nat.le_refl _)
  have hnew := hm.new hl hu (o := .arr 1 vs) (ob := .cells cs t) ⟨cs, t, (0, 0), heap_new w _, by omega, fun j _ hj => by omega, h2, fun j hj => h3 j (by omega), fun i j hi hj => by
    obtain rfl : j = 0 := by omega
    have := h4 (g.bind (.sub 0 0 p) w.heap.size) i hi
    simpa using this⟩ (fun t ht => by cases ht)
  refine ⟨(g.bind (.sub 0 0 p) w.heap.size).measure w.heap.size (vs.length * 1), _, rfl, Gh.le_trans (Gh.le_bind hl) (Gh.le_measure (.inl hrn)), fun j hj => ?_, ?_, hnew.measure ⟨cs, t, (0, 0), heap_new w _, by omega⟩ (.inl hrn)⟩
  · have hne : ¬ j = .sub 0 0 p := fun e => by subst e; exact hj (Oid.under_sub (Oid.under_refl (.sub 0 0 p)))
    simp only [Gh.bind, Gh.measure]; rw [if_neg hne]
  · exact .sl _ _ _ _ _ (by simp [Gh.bind, Gh.measure]) (Nat.le_refl _) (by simp [Gh.measure])
end Go.Ab
