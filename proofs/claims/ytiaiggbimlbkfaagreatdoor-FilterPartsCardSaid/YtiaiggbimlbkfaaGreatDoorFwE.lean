/- The framework, fifth part: contracts that were proved over the model's own worlds, in the words of this memory. -/
import Derived.Test.YtiaiggbimlbkfaaGreatDoorFwD
import Derived.Below
import Derived.Deep.Draws
set_option linter.unusedVariables false
set_option linter.unusedSimpArgs false
set_option linter.unusedSectionVars false
namespace Go.Ab
open Go.RowKit

theorem mono_of_sub {p q : Oid} (h : Oid.under p q) (hq : q.mono = false) : p.mono = false := by
  cases hp : p.mono with
  | false => rfl
  | true => rw [Oid.mono_under h hp] at hq; cases hq
/-- Nothing old has turned: all that is told of the world still holds. -/
theorem MemRel.below {x : Ctx} {g : Gh} {m : Mem} {w w' : World} (h : MemRel x g m w) (hb : Below w.heap.size w w') (hp : x.p.mono = false) : MemRel x g m w' where
  le := h.le
  locs := h.locs
  glob := h.glob
  coms := h.coms
  obj0 i o hi := (h.obj0 i o hi).imp id fun ⟨b, h1, h2, h3, h4⟩ => ⟨b, h1, h2, h3, ObjAt.block (hb.block b h4.lt) h4⟩
  inj := h.inj
  com b o v hv := by
    have h1 := h.com b o v hv
    have hlt : b < w.heap.size := by
      rcases Nat.lt_or_ge b w.heap.size with h2 | h2
      · exact h2
      · simp [World.cell?, Array.getElem?_eq_none h2] at h1
    simp only [World.cell?] at h1 ⊢
    rw [hb.block b hlt]; exact h1
  one := h.one
  rows b r hr := by
    obtain ⟨c, t, fz, h1, h2⟩ := h.rows b r hr
    exact ⟨c, t, fz, by rw [hb.block b (Array.getElem?_eq_some_iff.1 h1).1]; exact h1, h2⟩
  os := hb.os.trans h.os
  tape := hb.tape.trans h.tape
  output := ⟨hb.output.trans h.output.1, fun hm => by rw [hp] at hm; cases hm⟩
  size := Nat.le_trans h.size hb.size
  kept b hlt hm := (hb.block b (Nat.lt_of_lt_of_le hlt h.size)).trans (h.kept b hlt hm)
  typs t q b hl := (h.typs t q b hl).imp fun c ⟨fz, h1⟩ => ⟨fz, by rw [hb.block b (Array.getElem?_eq_some_iff.1 h1).1]; exact h1⟩
/-- What is told of a world: the cells that are for good, the rows' lengths, the program's own facts. -/
structure TellsW (P : Program) [Laid P] (g : Gh) (w : World) : Prop where
  com : ∀ b o v, g.com b o = some v → w.cell? ⟨b, o, none⟩ = some v
  rows : ∀ b r, g.row b = some r → ∃ c t fz, w.heap[b]? = some (.cells c t fz) ∧ c.size = r
  glob : ∀ k, k < P.globals.size → g.loc (.root k) = some (some k)
  facts : Laid.facts P g
theorem MemRel.told {P : Program} [Laid P] {x : Ctx} {g : Gh} {m : Mem} {w : World} (h : MemRel x g m w) (hx : Fit P x) : TellsW P g w :=
  ⟨h.com, h.rows, fun k hk => h.glob k (Nat.lt_of_lt_of_le hk hx.1), Laid.mono h.le hx.2⟩
/-- A contract of the shelf that hands back a value and turns nothing old. -/
theorem callOK_below {P : Program} [Laid P] {f : FuncId} {xs : List AV} {p : Oid} {val : AV} (he : entersB P f = true) (hp : p.mono = false)
    (h : ∀ (g : Gh) (args : Array Value) (w : World), VRs g xs args → TellsW P g w → Calls P f args w fun en w' => ∃ v, en = .returned v ∧ VR g val v ∧ Below w.heap.size w w') : CallOK P f xs (Oid.under p) ⟨[], val, []⟩ :=
  ⟨he, fun x g args w m hm _ ha hs hx => (h g args w ha (hm.told hx)).mono fun _ _ ⟨v, h1, h2, h3⟩ => ⟨g, v, h1, Gh.le_refl g, fun _ _ => rfl, h2, hm.below h3 (mono_of_sub (hs p (Oid.under_refl p)).2 hp)⟩⟩
/-- One whose world is as it was. -/
theorem callOK_same {P : Program} [Laid P] {f : FuncId} {xs : List AV} {sp : Oid → Prop} {val : AV} (he : entersB P f = true)
    (h : ∀ (g : Gh) (args : Array Value) (w : World), VRs g xs args → TellsW P g w → Calls P f args w fun en w' => ∃ v, en = .returned v ∧ VR g val v ∧ w' = w) : CallOK P f xs sp ⟨[], val, []⟩ :=
  ⟨he, fun x g args w m hm _ ha hs hx => (h g args w ha (hm.told hx)).mono fun _ _ ⟨v, h1, h2, h3⟩ => ⟨g, v, h1, Gh.le_refl g, fun _ _ => rfl, h2, by rw [h3]; exact hm⟩⟩
/-- One that only asks the tape. -/
theorem callOK_drew {P : Program} [Laid P] {f : FuncId} {xs : List AV} {sp : Oid → Prop} {val : AV} (he : entersB P f = true)
    (h : ∀ (g : Gh) (args : Array Value) (w : World), VRs g xs args → TellsW P g w → Calls P f args w fun en w' => ∃ v n, en = .returned v ∧ VR g val v ∧ w' = w.drewN n) : CallOK P f xs sp ⟨[], val, []⟩ :=
  ⟨he, fun x g args w m hm _ ha hs hx => (h g args w ha (hm.told hx)).mono fun _ _ ⟨v, n, h1, h2, h3⟩ => ⟨g, v, h1, Gh.le_refl g, fun _ _ => rfl, h2, by rw [h3]; exact hm.drew (w.drawn + n) (Nat.le_add_right _ _)⟩⟩
/-! arguments -/
theorem VRs.one {g : Gh} {x : AV} {args : Array Value} (h : VRs g [x] args) : ∃ v, args = #[v] ∧ VR g x v := by
  obtain ⟨h1, h2⟩ := h
  refine ⟨args.getD 0 undef, ?_, h2 0 (by simp)⟩
  apply Array.ext
  · rw [h1]; rfl
  · intro i hi hj
    obtain rfl : i = 0 := by simp at h1; omega
    simp [Array.getD_eq_getD_getElem?, Array.getElem?_eq_getElem hi]
theorem VRs.two {g : Gh} {x y : AV} {args : Array Value} (h : VRs g [x, y] args) : ∃ v u, args = #[v, u] ∧ VR g x v ∧ VR g y u := by
  obtain ⟨h1, h2⟩ := h
  refine ⟨args.getD 0 undef, args.getD 1 undef, ?_, h2 0 (by simp), h2 1 (by simp)⟩
  apply Array.ext
  · rw [h1]; rfl
  · intro i hi hj
    have : i < 2 := by simpa using hj
    rcases i with _ | _ | i
    · simp [Array.getD_eq_getD_getElem?, Array.getElem?_eq_getElem hi]
    · simp [Array.getD_eq_getD_getElem?, Array.getElem?_eq_getElem hi]
    · omega
end Go.Ab
