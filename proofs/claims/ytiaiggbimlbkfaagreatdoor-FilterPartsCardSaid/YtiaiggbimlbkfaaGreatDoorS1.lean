/- What is laid of this program's variables; strings.Builder and Itoa in the framework's words. -/
import Derived.Test.YtiaiggbimlbkfaaGreatDoorFwE
import Derived.Test.YtiaiggbimlbkfaaGreatDoorTy
import Derived.Test.YtiaiggbimlbkfaaGreatDoorS0
import Derived.Test.YtiaiggbimlbkfaaGreatDoorShelf
import Derived.Lib.LaidTab
set_option linter.unusedVariables false
set_option linter.unusedSimpArgs false
namespace Go.Proofs.YtiaiggbimlbkfaaGreatDoor
open Go Go.Ab Go.RowKit
/-- The tables and the errors that the library's own text laid. -/
instance laidHere : Laid Tryz.prog where
  facts g := g.row 1 = some 20 ∧ (∀ j z, Lib.pow10Tab[j]? = some z → g.com 1 j = some (.int .u64 z)) ∧
    (∃ v, g.com 2 0 = some v ∧ (v = .nilIface ∨ ∃ t p, v = .iface t p)) ∧ (∃ v, g.com 3 0 = some v ∧ (v = .nilIface ∨ ∃ t p, v = .iface t p)) ∧ ∃ m, g.com 0 0 = some (.int .i64 m)
  mono h := fun ⟨h1, h2, ⟨v, h3, h4⟩, ⟨u, h5, h6⟩, m, h7⟩ => ⟨h.2.2 _ _ h1, fun j z hz => h.2.1 _ _ _ (h2 j z hz), ⟨v, h.2.1 _ _ _ h3, h4⟩, ⟨u, h.2.1 _ _ _ h5, h6⟩, m, h.2.1 _ _ _ h7⟩
theorem tab_of {g : Gh} {w : World} (h : TellsW Tryz.prog g w) : Lib.TabIs Tryz.prog w "internal/strconv.uint64pow10" .u64 Lib.pow10Tab := by
  obtain ⟨h1, h2, _⟩ := h.facts
  obtain ⟨c, t, fz, h3, h4⟩ := h.rows 1 20 h1
  have hn : Tryz.prog.globalNamed "internal/strconv.uint64pow10" = some 1 := by kernel_rfl
  simp only [Lib.TabIs, World.var?, hn, Option.bind_some, h3]
  congr 1
  apply Array.ext
  · rw [h4]; rfl
  · intro j h5 h6
    have h7 : j < Lib.pow10Tab.length := by simpa using h6
    have h8 := h.com 1 j _ (h2 j _ (List.getElem?_eq_getElem h7))
    simp only [World.cell?, h3, Option.isSome_none, Bool.false_eq_true, if_false, Array.getElem?_eq_getElem h5, Option.some.injEq] at h8
    simpa using h8
/-- strconv.Itoa. -/
theorem itoa_ok (n : Int) (h0 : -9223372036854775808 ≤ n) (h1 : n ≤ 9223372036854775807) (p : Oid) (hp : p.mono = false) : CallOK Tryz.prog 58 [.int .i64 n] (Oid.under p) ⟨[], .str (Lib.itoa n), []⟩ :=
  callOK_below (by kernel_rfl) hp fun g args w ha ht => by
    obtain ⟨v, rfl, hv⟩ := ha.one
    rw [hv.int_inv]
    refine (Tryz.strconv_Itoa n h0 h1 w (tab_of ht)).mono ?_
    rintro e w' ⟨rfl, k, os, rfl⟩
    exact ⟨_, rfl, .str _ _ rfl, ⟨rfl, rfl, rfl, by simp [Sort.grow, World.drewN], fun b hb => by simp only [Sort.grow, World.drewN]; rw [Array.getElem?_append_left hb]⟩⟩
/-- copyCheck at a fresh builder, at one that was written. -/
theorem cc_fresh (q : Oid) (v : AV) (sp : Oid → Prop) : CallOK Tryz.prog 94 [.ptr (.ty 67 q) 0] sp ⟨[(.ty 67 q, .cells [.nilPtr, v])], .tuple [], [(.ty 67 q, some (.cells [.ptr (.ty 67 q) 0, v]))]⟩ :=
  ⟨by kernel_rfl, fun x g args w m hm hn ha hs hx => by
    obtain ⟨u, rfl, hu⟩ := ha.one
    obtain ⟨b, rfl, hb⟩ := hu.ptr_inv
    have hmid := hn (.ty 67 q, .cells [.nilPtr, v]) (by simp)
    obtain ⟨b', h1, h2, h3, h4⟩ := hm.objL hmid hb
    rw [hb] at h1; simp only [Option.some.injEq] at h1; subst h1
    obtain ⟨c, t, fz, c1, c2, c3, c4⟩ := h4
    obtain ⟨c', fz', h5⟩ := hm.typs 67 q b hb
    rw [c1] at h5; simp only [Option.some.injEq, Obj.cells.injEq] at h5
    obtain ⟨_, rfl, _⟩ := h5
    have hsz : c.size = 2 := c2
    have k0 := c4 0 (by simp)
    have k1 := c4 1 (by simp)
    simp only [List.getD_cons_zero, List.getD_cons_succ] at k0 k1
    have k0' := k0.nilPtr_inv
    have hlt : b < w.heap.size := (Array.getElem?_eq_some_iff.1 c1).1
    have hg0 : c[0]? = some (.pointer none) := by
      rw [Array.getD_eq_getD_getElem?] at k0'
      rw [Array.getElem?_eq_getElem (by omega)] at k0' ⊢
      simpa using k0'
    have hf : ¬ (fz.1 ≤ 0 ∧ 0 < fz.2) := c3 0 (by omega)
    refine (copyCheck_fresh b w (by simp [World.cell?, c1, hg0]) (by simp [World.shape?, c1, hsz]) (by
      obtain ⟨lo, hi⟩ := fz
      simp only [World.frozen?, c1]
      simp only at hf
      by_cases h : lo ≤ 0
      · have : ¬ 0 < hi := fun h' => hf ⟨h, h'⟩
        simp [this]
      · simp [h])).mono ?_
    rintro e w' ⟨rfl, rfl⟩
    have hnew : (w.setCell ⟨b, 0, none⟩ (.pointer (some ⟨b, 0, none⟩))).heap[b]? = some (.cells (c.setIfInBounds 0 (.pointer (some ⟨b, 0, none⟩))) 67 fz) := by simp [World.setCell, Array.getElem?_modify, c1]
    refine ⟨g, _, rfl, Gh.le_refl g, fun _ _ => rfl, .tuple _ _ rfl (fun j hj => absurd hj (Nat.not_lt_zero _)), ?_⟩
    refine hm.turn (o := .cells [.ptr (.ty 67 q) 0, v]) (w' := w.setCell ⟨b, 0, none⟩ (.pointer (some ⟨b, 0, none⟩))) hmid hb rfl rfl ⟨rfl, Nat.le_refl _⟩ (by simp [World.setCell]) (fun k hk _ => Below.heap_setCell w ⟨b, 0, none⟩ _ k hk) (fun r hr => ?_) (fun c9 t9 fz9 h9 => ?_) ?_
    · obtain ⟨c', t', fz', h6, h7⟩ := hm.rows b r hr
      rw [c1] at h6; simp only [Option.some.injEq, Obj.cells.injEq] at h6
      obtain ⟨rfl, rfl, rfl⟩ := h6
      exact ⟨_, _, _, hnew, by simp [h7]⟩
    · rw [c1] at h9; simp only [Option.some.injEq, Obj.cells.injEq] at h9
      obtain ⟨rfl, rfl, rfl⟩ := h9
      exact ⟨_, _, hnew⟩
    · refine ⟨_, _, _, hnew, by simp [hsz], fun j hj => c3 j (by simpa using hj), fun j hj => ?_⟩
      have hj2 : j < 2 := hj
      match j, hj2 with
      | 0, _ =>
        simp only [List.getD_cons_zero, Array.getD_eq_getD_getElem?]
        rw [Array.getElem?_setIfInBounds_self_of_lt (by omega)]
        exact .ptr _ 0 b hb
      | 1, _ =>
        simp only [List.getD_cons_succ, List.getD_cons_zero, Array.getD_eq_getD_getElem?]
        rw [Array.getElem?_setIfInBounds_ne (by omega), ← Array.getD_eq_getD_getElem?]
        exact k1⟩
theorem cc_used (q : Oid) (v : AV) (sp : Oid → Prop) : CallOK Tryz.prog 94 [.ptr q 0] sp ⟨[(q, .cells [.ptr q 0, v])], .tuple [], []⟩ :=
  ⟨by kernel_rfl, fun x g args w m hm hn ha hs hx => by
    obtain ⟨u, rfl, hu⟩ := ha.one
    obtain ⟨b, rfl, hb⟩ := hu.ptr_inv
    have hmid := hn (q, .cells [.ptr q 0, v]) (by simp)
    obtain ⟨b', h1, h2, h3, h4⟩ := hm.objL hmid hb
    rw [hb] at h1; simp only [Option.some.injEq] at h1; subst h1
    obtain ⟨c, t, fz, c1, c2, c3, c4⟩ := h4
    have hsz : c.size = 2 := c2
    have k0 := c4 0 (by simp)
    simp only [List.getD_cons_zero] at k0
    obtain ⟨b2, k0', hb2⟩ := k0.ptr_inv
    rw [hb] at hb2; simp only [Option.some.injEq] at hb2; subst hb2
    have hg0 : c[0]? = some (.pointer (some ⟨b, 0, none⟩)) := by
      rw [Array.getD_eq_getD_getElem?] at k0'
      rw [Array.getElem?_eq_getElem (by omega)] at k0' ⊢
      simpa using k0'
    refine (copyCheck_used b w (by simp [World.cell?, c1, hg0])).mono ?_
    rintro e w' ⟨rfl, rfl⟩
    exact ⟨g, _, rfl, Gh.le_refl g, fun _ _ => rfl, .tuple _ _ rfl (fun j hj => absurd hj (Nat.not_lt_zero _)), hm⟩⟩
end Go.Proofs.YtiaiggbimlbkfaaGreatDoor
