/- The framework, eighth part: what a memory's cells say less of; rows fixed for good within objects; cuts that may fix a row. -/
import Derived.Test.YtbpembafoloinaaGreatDoorFwE
set_option linter.unusedVariables false
set_option linter.unusedSimpArgs false
set_option linter.unusedSectionVars false
namespace Go.Ab
section
variable {P : Program} [Laid P] {x : Ctx} {n : Nat} {Q : AX → AS → Prop} {fr : List (Nat × AV)} {m : Mem} {c : Nat} {ds : List AD} {ks : List Pc}
/-- An object's cells, by what they say less of. -/
theorem MemRel.cells {x : Ctx} {g : Gh} {m : Mem} {w : World} (h : MemRel x g m w) {i : Oid} {vs ws : List AV} (hi : m i = some (.cells vs)) (hw : AVles vs ws) : MemRel x g (m.set i (some (.cells ws))) w := by
  obtain ⟨b, hb, _, _, cc, t, fz, h1, h2, h3, h4⟩ := h.obj i _ hi
  exact h.turn hi hb rfl rfl ⟨rfl, Nat.le_refl _⟩ (Nat.le_refl _) (fun _ _ _ => rfl) (fun r hr => h.rows b r hr) (fun _ t' fz' h9 => ⟨_, _, h9⟩)
    ⟨cc, t, fz, h1, h2.trans hw.length, h3, fun j hj => hw.at j _ _ (h4 j (by rw [hw.length]; exact hj))⟩
/-- What may be said instead, of the same world. -/
def Gho (x : Ctx) (n : Nat) (R : AS → Prop) (s : AS) : Prop := ∀ g a w, Rel x n g s a w → ∃ g' s', Rel x n g' s' a w ∧ R s'
theorem Gho.now {R : AS → Prop} {s : AS} (h : R s) : Gho x n R s := fun g _ _ hr => ⟨g, s, hr, h⟩
theorem Gho.step {R : AS → Prop} {s s' : AS} (hg : ∀ g a w, Rel x n g s a w → ∃ g', Rel x n g' s' a w) (h : Gho x n R s') : Gho x n R s := fun g a w hr => let ⟨g', hr'⟩ := hg g a w hr; h g' a w hr'
theorem T_gho {b : Code} {R : AS → Prop} {s : AS} (h : Gho x n R s) (h2 : ∀ s, R s → T P x n b s Q) : T P x n b s Q := fun g a w hr => let ⟨g', _, hr', hR⟩ := h g a w hr; h2 _ hR g' a w hr'
theorem Rel.cells {g : Gh} {a : Act} {w : World} (hr : Rel x n g ⟨fr, m, c, ds⟩ a w) (i : Oid) (vs ws : List AV) (hi : m i = some (.cells vs)) (hw : AVles vs ws) : ∃ g', Rel x n g' ⟨fr, m.set i (some (.cells ws)), c, ds⟩ a w :=
  ⟨g, hr.mr.cells hi hw, hr.tm, hr.df, hr.fr, hr.young⟩
theorem K_cells {a : Code} (i : Oid) (vs ws : List AV) (hi : m i = some (.cells vs)) (hw : AVles vs ws) (h : T P x n a ⟨fr, m.set i (some (.cells ws)), c, ds⟩ Q) : T P x n a ⟨fr, m, c, ds⟩ Q :=
  T_ghost (s := ⟨fr, m, c, ds⟩) ⟨fr, m.set i (some (.cells ws)), c, ds⟩ (fun _ _ _ hr => hr.cells i vs ws hi hw) h
theorem G_cells {R : AS → Prop} (i : Oid) (vs ws : List AV) (hi : m i = some (.cells vs)) (hw : AVles vs ws) (h : Gho x n R ⟨fr, m.set i (some (.cells ws)), c, ds⟩) : Gho x n R ⟨fr, m, c, ds⟩ :=
  Gho.step (s := ⟨fr, m, c, ds⟩) (s' := ⟨fr, m.set i (some (.cells ws)), c, ds⟩) (fun _ _ _ hr => hr.cells i vs ws hi hw) h
/-- A row is fixed for good. -/
theorem Rel.freeze {g : Gh} {a : Act} {w : World} (hr : Rel x n g ⟨fr, m, c, ds⟩ a w) (i : Oid) (sz : Nat) (xs : List AV) (hi : m i = some (.arr sz xs)) :
    ∃ g', Rel x n g' ⟨frz i sz xs fr, m.set i none, c, ds⟩ a w ∧ g.le g' ∧ g'.loc = g.loc ∧ ∀ v u, VR g v u → VR g' (frzV i sz xs v) u := by
  obtain ⟨g', h1, h2, h3, h4⟩ := hr.mr.freeze hi
  have key : ∀ v u, VR g v u → VR g' (frzV i sz xs v) u := fun v u hv => by
    unfold frzV
    split
    · split
      · rename_i e
        obtain ⟨rfl, rfl, rfl⟩ := e
        have := h4 _ _ hv (Nat.le_refl _)
        rwa [List.take_length] at this
      · exact hv.mono h1
    · exact hv.mono h1
  exact ⟨g', ⟨h3, hr.tm, hr.df.mono h1, fun t ht => by rw [F_frz]; exact key _ _ (hr.fr t ht), fun k hk => by rw [h2]; exact hr.young k hk⟩, h1, by funext k; exact h2 k, key⟩
/-- Cells, some of which say a row that is fixed. -/
inductive Frz (i : Oid) (sz : Nat) (xs : List AV) : List AV → List AV → Prop
  | nil : Frz i sz xs [] []
  | keep {v : AV} {vs ws : List AV} (h : Frz i sz xs vs ws) : Frz i sz xs (v :: vs) (v :: ws)
  | turn {n : Nat} {vs ws : List AV} (hn : n = xs.length) (h : Frz i sz xs vs ws) : Frz i sz xs (.sl i sz n :: vs) (.list sz xs :: ws)
theorem Frz.at {i : Oid} {sz : Nat} {xs vs ws : List AV} (h : Frz i sz xs vs ws) : vs.length = ws.length ∧ ∀ j, ws.getD j .undef = vs.getD j .undef ∨ ws.getD j .undef = frzV i sz xs (vs.getD j .undef) := by
  induction h with
  | nil => exact ⟨rfl, fun _ => .inl rfl⟩
  | keep _ ih =>
    refine ⟨by simp [ih.1], fun j => ?_⟩
    cases j with
    | zero => exact .inl rfl
    | succ j => simpa using ih.2 j
  | turn hn _ ih =>
    refine ⟨by simp [ih.1], fun j => ?_⟩
    cases j with
    | zero => right; simp [frzV, hn]
    | succ j => simpa using ih.2 j
/-- .. and so is what an object says of it. -/
theorem Rel.freezeM {g : Gh} {a : Act} {w : World} (hr : Rel x n g ⟨fr, m, c, ds⟩ a w) (i j : Oid) (sz : Nat) (xs vs ws : List AV) (hi : m i = some (.arr sz xs)) (hj : m j = some (.cells vs)) (hij : ¬ j = i) (hw : Frz i sz xs vs ws) :
    ∃ g', Rel x n g' ⟨frz i sz xs fr, (m.set i none).set j (some (.cells ws)), c, ds⟩ a w := by
  obtain ⟨g', hr', h1, h2, key⟩ := hr.freeze i sz xs hi
  refine ⟨g', ?_, hr'.tm, hr'.df, hr'.fr, hr'.young⟩
  obtain ⟨b', hb, _, _, cc, t, fz, k1, k2, k3, k4⟩ := hr.mr.obj j _ hj
  have hj' : (m.set i none) j = some (.cells vs) := by simp only [Mem.set, if_neg hij]; exact hj
  have h3 := hr'.mr
  refine h3.turn hj' (by rw [h2]; exact hb) rfl rfl ⟨rfl, Nat.le_refl _⟩ (Nat.le_refl _) (fun _ _ _ => rfl) (fun r hr' => h3.rows b' r hr') (fun _ t' fz' h9 => ⟨_, _, h9⟩)
    ⟨cc, t, fz, k1, k2.trans hw.at.1, k3, fun q hq => ?_⟩
  have k5 := k4 q (by rw [hw.at.1]; exact hq)
  rcases hw.at.2 q with e | e <;> rw [e]
  · exact k5.mono h1
  · exact key _ _ k5
theorem K_freezeM {a : Code} (i j : Oid) (sz : Nat) (xs vs ws : List AV) (hi : m i = some (.arr sz xs)) (hj : m j = some (.cells vs)) (hij : ¬ j = i) (hw : Frz i sz xs vs ws) (h : T P x n a ⟨frz i sz xs fr, (m.set i none).set j (some (.cells ws)), c, ds⟩ Q) : T P x n a ⟨fr, m, c, ds⟩ Q :=
  T_ghost (s := ⟨fr, m, c, ds⟩) ⟨frz i sz xs fr, (m.set i none).set j (some (.cells ws)), c, ds⟩ (fun _ _ _ hr => hr.freezeM i j sz xs vs ws hi hj hij hw) h
theorem G_freezeM {R : AS → Prop} (i j : Oid) (sz : Nat) (xs vs ws : List AV) (hi : m i = some (.arr sz xs)) (hj : m j = some (.cells vs)) (hij : ¬ j = i) (hw : Frz i sz xs vs ws) (h : Gho x n R ⟨frz i sz xs fr, (m.set i none).set j (some (.cells ws)), c, ds⟩) : Gho x n R ⟨fr, m, c, ds⟩ :=
  Gho.step (s := ⟨fr, m, c, ds⟩) (s' := ⟨frz i sz xs fr, (m.set i none).set j (some (.cells ws)), c, ds⟩) (fun _ _ _ hr => hr.freezeM i j sz xs vs ws hi hj hij hw) h
theorem G_freeze {R : AS → Prop} (i : Oid) (sz : Nat) (xs : List AV) (hi : m i = some (.arr sz xs)) (h : Gho x n R ⟨frz i sz xs fr, m.set i none, c, ds⟩) : Gho x n R ⟨fr, m, c, ds⟩ :=
  Gho.step (s := ⟨fr, m, c, ds⟩) (s' := ⟨frz i sz xs fr, m.set i none, c, ds⟩) (fun _ _ _ hr => let ⟨g', h', _⟩ := hr.freeze i sz xs hi; ⟨g', h'⟩) h
/-- A cut behind a piece; before it a row may be fixed. -/
def CutG (P : Program) (x : Ctx) (n : Nat) (Q : AX → AS → Prop) (ks : List Pc) (ts : List Nat) (R : AS → Prop) : AX → AS → Prop
  | .normal, s => Gho x n (fun s => ∃ m', (∀ i o, m' i = some o → s.mem i = some o) ∧ R ⟨keepF ts s.fr, m', s.c, s.ds⟩) s
  | e, s => after P x n Q ks e s
theorem K_cutG {a b : Code} {s : AS} (ts : List Nat) (R : AS → Prop) (h : T P x n a s (after P x n (CutG P x n Q ks ts R) [])) (h2 : ∀ s, R s → T P x n b s (after P x n Q ks)) : T P x n a s (after P x n Q (.code b :: ks)) :=
  T_mono h fun e s h => by
    cases e with
    | normal =>
      refine T_gho h fun s ⟨m', h1, h3⟩ => ?_
      obtain ⟨fr', m1, c', ds'⟩ := s
      refine T_forget (s := ⟨fr', m1, c', ds'⟩) (keepF ts fr') (fun t _ => F_keepF ts fr' t) ?_
      exact T_drop (s := ⟨keepF ts fr', m1, c', ds'⟩) m' h1 (h2 _ h3)
    | _ => exact h
theorem K_cutGN {ts : List Nat} {R : AS → Prop} (h : Gho x n (fun s => ∃ m', (∀ i o, m' i = some o → s.mem i = some o) ∧ R ⟨keepF ts s.fr, m', s.c, s.ds⟩) ⟨fr, m, c, ds⟩) : after P x n (CutG P x n Q ks ts R) [] .normal ⟨fr, m, c, ds⟩ := h
theorem G_now {ts : List Nat} {R : AS → Prop} (h : R ⟨keepF ts fr, m, c, ds⟩) : Gho x n (fun s => ∃ m', (∀ i o, m' i = some o → s.mem i = some o) ∧ R ⟨keepF ts s.fr, m', s.c, s.ds⟩) ⟨fr, m, c, ds⟩ := .now ⟨m, fun _ _ h => h, h⟩
theorem G_nowM {ts : List Nat} {R : AS → Prop} (m' : Mem) (hm : ∀ i o, m' i = some o → m i = some o) (h : R ⟨keepF ts fr, m', c, ds⟩) : Gho x n (fun s => ∃ m', (∀ i o, m' i = some o → s.mem i = some o) ∧ R ⟨keepF ts s.fr, m', s.c, s.ds⟩) ⟨fr, m, c, ds⟩ := .now ⟨m', hm, h⟩
theorem CutG_ret {ts : List Nat} {R : AS → Prop} {s : AS} (h : Q .ret s) : CutG P x n Q ks ts R .ret s := after_ret h
theorem CutG_exit {ts : List Nat} {R : AS → Prop} {s : AS} {i : Nat} (h : after P x n Q ks (.exit i) s) : after P x n (CutG P x n Q ks ts R) [] (.exit i) s := h
/-- A body's end before which a row may be fixed. -/
def GEnd (x : Ctx) (n : Nat) (Q : AX → AS → Prop) : AX → AS → Prop
  | .panic v, s => Q (.panic v) s
  | e, s => Gho x n (Q e) s
theorem T_gend {a : Code} {s : AS} (h : T P x n a s (after P x n (GEnd x n Q) [])) : T P x n a s (after P x n Q []) := fun g b w hr =>
  wpIn_mono (h g b w hr) fun e b' w' ⟨g', ex, s', h1, h2, h3⟩ => by
    cases ex with
    | panic v => exact ⟨g', .panic v, s', h1, h2, h3⟩
    | normal => obtain ⟨g2, s2, k1, k2⟩ := h3 g' b' w' h1; exact ⟨g2, .normal, s2, k1, (by cases e <;> exact h2), k2⟩
    | ret => obtain ⟨g2, s2, k1, k2⟩ := h3 g' b' w' h1; exact ⟨g2, .ret, s2, k1, (by cases e <;> exact h2), k2⟩
    | exit i => obtain ⟨g2, s2, k1, k2⟩ := h3 g' b' w' h1; exact ⟨g2, .exit i, s2, k1, (by cases e <;> exact h2), k2⟩
end
theorem AVle.nilList (sz : Nat) : AVle .nilSl (.list sz []) := fun _ _ h => by rw [h.nilSl_inv]; exact .listNil _
theorem AVles.refl : ∀ l : List AV, AVles l l
  | [] => .nil
  | _ :: l => .cons (.refl _) (AVles.refl l)
end Go.Ab
