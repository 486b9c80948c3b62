/- The ends of bodies: results that lie in cells, the marks of ranges over functions; contracts with more than one outcome. -/
import Derived.Test.YtpdmiojenhodlaaFw19
set_option linter.unusedVariables false
set_option linter.unusedSimpArgs false
namespace Go.Ab

/-- A load's run, off the operation. -/
theorem run_loadVar {P : Program} {x : Ctx} {g : Gh} {m : Mem} {w : World} {t : TypeId} {v : AV} {u : Value} {e : Eff} (hm : MemRel x g m w) (h : loadA (shp P t) m v = .eff e) (hv : VR g v u) :
    ∃ r, (do loadVar t (← asAddr u) : Sem Value).run P w = .ok r w ∧ VR g e.val r := by
  unfold loadA at h
  split at h
  · rename_i s v n nd l hs hc
    split at h
    · rename_i hn
      simp only [OpR.eff.injEq] at h; subst h
      obtain ⟨b, k, hu, f, hf⟩ := cellsAt_spec hm hv hc (cellsAt_need hc)
      have hl := run_loadCells (P := P) w ⟨b, k, none⟩ n f (fun j hj => by rw [addr_add]; exact (hf j (by omega)).1)
      refine ⟨.agg ((List.range n).map f).toArray, by simp [hu, asAddr, loadVar, run_isAgg hs, run_sizeOf hs, hl], ?_⟩
      refine .agg _ _ (by simp; omega) fun j hj => ?_
      have hj' : j < n := by simp at hj; omega
      rw [getD_take _ _ _ _ hj']
      have := (hf j (by omega)).2
      simpa [hj'] using this
    · cases h
  · rename_i s v n nd l hs hc
    split at h
    · rename_i hn
      simp only [OpR.eff.injEq] at h; subst h
      obtain ⟨b, k, hu, f, hf⟩ := cellsAt_spec hm hv hc (cellsAt_need hc)
      have := (hf 0 hn).1
      simp only [Nat.add_zero] at this
      exact ⟨f 0, by simp [hu, asAddr, loadVar, run_isAgg hs, this], (hf 0 hn).2⟩
    · cases h
  · cases h

/-- The results, read off the slots and the cells. -/
def resM (P : Program) (m : Mem) (fr : List (Nat × AV)) : List ResultVar → Option (List AV)
  | [] => some []
  | .tmp t :: r => match resM P m fr r with
    | some l => some (F fr t :: l)
    | none => none
  | .cell a t :: r => match loadA (shp P t) m (F fr a), resM P m fr r with
    | .eff e, some l => some (e.val :: l)
    | _, _ => none
def resOKs (n : Nat) : List ResultVar → Bool
  | [] => true
  | .tmp t :: r => decide (t < n) && resOKs n r
  | .cell a _ :: r => decide (a < n) && resOKs n r
def tupA : List AV → AV
  | [v] => v
  | vs => .tuple vs
def retM (P : Program) (m : Mem) (fr : List (Nat × AV)) (rs : List ResultVar) : Option AV := match resM P m fr rs with
  | some vs => some (tupA vs)
  | none => none
theorem rvF_cell (tmps : Array Value) (a : Nat) (t : TypeId) : rvF tmps (.cell a t) = (do loadVar t (← asAddr (tmps.getD a undef)) : Sem Value) := rfl

theorem resultsM_spec {P : Program} {fn : Func} {x : Ctx} {g : Gh} {m : Mem} {fr : List (Nat × AV)} {n : Nat} {tmps : Array Value} {y : AV} {w : World} (hm : MemRel x g m w) (hok : resOKs n fn.results.toList = true) (h : retM P m fr fn.results.toList = some y)
    (hf : ∀ t, t < n → VR g (F fr t) (tmps.getD t undef)) : ∃ v, (results fn tmps).run P w = .ok v w ∧ VR g y v := by
  have key : ∀ (rs : List ResultVar) (vs : List AV), resOKs n rs = true → resM P m fr rs = some vs →
      ∃ us : List Value, (rs.mapM (rvF tmps)).run P w = .ok us w ∧ us.length = vs.length ∧ ∀ j, j < vs.length → VR g (vs.getD j .undef) (us.getD j undef) := by
    intro rs
    induction rs with
    | nil => intro vs _ hv; simp only [resM, Option.some.injEq] at hv; subst hv; exact ⟨[], by simp, rfl, fun j hj => absurd hj (Nat.not_lt_zero _)⟩
    | cons r rs ih =>
      intro vs ha hv
      cases r with
      | cell a t =>
        simp only [resOKs, Bool.and_eq_true, decide_eq_true_eq] at ha
        simp only [resM] at hv
        split at hv
        · rename_i e l he hl
          simp only [Option.some.injEq] at hv; subst hv
          obtain ⟨us, h1, h2, h3⟩ := ih l ha.2 hl
          obtain ⟨r, h4, h5⟩ := run_loadVar hm he (hf a ha.1)
          refine ⟨r :: us, ?_, by simp [h2], fun j hj => ?_⟩
          · rw [List.mapM_cons, rvF_cell]
            rw [Sem.run_bind, h4]
            simp only [Sem.run_bind, Result.andThen_ok, h1, Sem.run_pure]
          · cases j with
            | zero => simpa using h5
            | succ j => simpa using h3 j (by simpa using hj)
        · cases hv
      | tmp t =>
        simp only [resOKs, Bool.and_eq_true, decide_eq_true_eq] at ha
        simp only [resM] at hv
        split at hv
        · rename_i l hl
          simp only [Option.some.injEq] at hv; subst hv
          obtain ⟨us, h1, h2, h3⟩ := ih l ha.2 hl
          refine ⟨tmps.getD t undef :: us, ?_, by simp [h2], fun j hj => ?_⟩
          · rw [List.mapM_cons]
            simp only [Sem.run_bind, rvF_tmp, Result.andThen_ok, h1, Sem.run_pure]
          · cases j with
            | zero => simpa using hf t ha.1
            | succ j => simpa using h3 j (by simpa using hj)
        · cases hv
  unfold retM at h
  split at h
  · rename_i vs hr
    simp only [Option.some.injEq] at h
    obtain ⟨us, h1, h2, h3⟩ := key _ vs hok hr
    have hrun : (results fn tmps).run P w = .ok (if h : us.toArray.size = 1 then us.toArray[0] else .tuple us.toArray) w := by
      rw [results_rvF, Array.mapM_eq_mapM_toList]
      simp only [Sem.run_bind, Sem.run_map, h1, Result.andThen_ok, Sem.run_pure]
    refine ⟨_, hrun, ?_⟩
    match vs, us, h, h2, h3 with
    | [], [], h, _, _ => subst h; exact .tuple _ _ rfl (fun j hj => absurd hj (Nat.not_lt_zero _))
    | [a], [b], h, _, h3 => subst h; simpa [tupA] using h3 0 (by simp)
    | a :: b :: l, c :: d :: l', h, h2, h3 =>
      subst h
      have : ¬ (c :: d :: l').toArray.size = 1 := by simp
      rw [dif_neg this]
      exact .tuple _ _ (by simpa using h2) (fun j hj => by simpa using h3 j hj)
  · cases h

/-- An object's block turns into anything: the object is forgotten. -/
theorem MemRel.spoil {x : Ctx} {g : Gh} {m : Mem} {w : World} (h : MemRel x g m w) {i : Oid} {o0 : AObj} {b : Nat} {ob : Obj} (hi : m i = some o0) (hb : g.loc i = some (some b)) (hr : g.row b = none) : MemRel x g (m.set i none) (w.putObj b ob) := by
  obtain ⟨b0, hb0, hcom, hmay, hobj⟩ := h.objL hi hb
  rw [hb] at hb0; simp only [Option.some.injEq] at hb0; subst hb0
  have hother : ∀ k, k ≠ b → (w.putObj b ob).heap[k]? = w.heap[k]? := fun k hk => World.putObj_heap_other hk
  have key : ∀ j o', (m.set i none) j = some o' → m j = some o' ∧ j ≠ i := fun j o' hj => by
    simp only [Mem.set] at hj
    split at hj
    · cases hj
    · exact ⟨hj, ‹_›⟩
  refine ⟨h.le, h.locs, h.glob, h.coms, fun j o' hj => ?_, fun j j' o1 o2 c h1 h2 h3 h4 => h.inj j j' o1 o2 c (key j o1 h1).1 (key j' o2 h2).1 h3 h4, fun c k v hv => ?_, h.one, fun c r hcr => ?_, h.os, h.tape, h.output, ?_, fun c hc hm => ?_⟩
  · obtain ⟨k1, k2⟩ := key j o' hj
    rcases h.obj0 j o' k1 with hv | ⟨c, h1, h2, h3, h4⟩
    · exact .inl hv
    exact .inr ⟨c, h1, h2, h3, ObjAt.block (hother c (fun e => k2 (by subst e; exact h.inj j i o' o0 c k1 hi h1 hb))) h4⟩
  · have hcell := h.com c k v hv
    have hne : c ≠ b := fun e => by subst e; rw [hcom k] at hv; cases hv
    simp only [World.cell?] at hcell ⊢
    rw [hother c hne]; exact hcell
  · have hne : c ≠ b := fun e => by subst e; rw [hr] at hcr; cases hcr
    rw [hother c hne]; exact h.rows c r hcr
  · simp only [World.putObj, Array.size_setIfInBounds]; exact h.size
  · have hne : c ≠ b := fun e => by
      subst e
      rcases hmay with h' | h'
      · exact hm h'
      · omega
    rw [hother c hne]; exact h.kept c hc hm

/-- Deferred calls on the way out: marks. -/
def LeaveA (m : Mem) (K : Mem → Prop) : List AD → Prop
  | [] => K m
  | .coll id :: ds => m id = some .dfr ∧ LeaveA (m.set id none) K ds
  | .call .. :: _ => False
theorem leave_marks {P : Program} {fn : Func} {tmps : Array Value} {R : Ending → World → Prop} {x : Ctx} {g : Gh} {u : FrameMode} (hu : u ≠ .run) {K : Mem → Prop}
    (hK : ∀ m w, MemRel x g m w → K m → LeavesIn (Fc none) 0 P fn tmps R [] u w) : ∀ (ds : List AD) (dl : List Deferred) (m : Mem) (w : World), MemRel x g m w → DRs g ds dl → LeaveA m K ds → LeavesInM (Fc none) 0 P fn tmps R dl u w
  | [], _, m, w, hm, hd, h => by cases hd; exact hK m w hm h
  | a :: ds, _, m, w, hm, hd, h => by
    cases hd with
    | cons h1 t =>
      cases h1 with
      | coll id b hb =>
        obtain ⟨h2, h3⟩ := h
        obtain ⟨b', k1, k2, k3, k4⟩ := hm.obj id _ h2
        rw [hb] at k1; simp only [Option.some.injEq] at k1; subst k1
        have k4' : w.heap[b]? = some (.deferred (some [])) := k4
        have hr : g.row b = none := by
          cases hc : g.row b with
          | none => rfl
          | some r => obtain ⟨c, t, fz, h1, _⟩ := hm.rows b r hc; rw [k4'] at h1; cases h1
        exact ⟨hu, .inl ⟨b, _, rfl, run_takeDeferred k4', leave_marks hu hK ds _ _ _ (hm.spoil h2 hb hr) t h3⟩⟩
      | call => exact h.elim

/-- What a body's end has to show, where it has more than one outcome. -/
def DoneN (P : Program) (rs : List ResultVar) (need : List (Oid × AObj)) (R Rp : AV → List (Oid × Option AObj) → Prop) : AX → AS → Prop
  | .normal, s | .ret, s => LeaveA s.mem (fun m => ∃ val upd, retM P m s.fr rs = some val ∧ R val upd ∧ ∀ i o, ((Mem.of need).upds upd) i = some o → m i = some o) s.ds
  | .panic pv, s => LeaveA s.mem (fun m => ∃ upd, Rp pv upd ∧ ∀ i o, ((Mem.of need).upds upd) i = some o → m i = some o) s.ds
  | .exit _, _ => False

theorem callND_of {P : Program} {f : FuncId} {fn : Func} {n : Nat} {rs : List ResultVar} {c : Code} {xs : List AV} {p : Oid} {need : List (Oid × AObj)} {R Rp : AV → List (Oid × Option AObj) → Prop} (hf : P.funcs[f]? = some fn) (hn : fn.ntmps = n) (hr : fn.results.toList = rs)
    (hnm : (fn.name != "runtime.NumGoroutine") = true) (hl : (Nat.ble xs.length n) = true) (hok : resOKs n rs = true) (hb : fn.body = some c)
    (hT : ∀ x : Ctx, x.p = p → x.rd = none → P.globals.size ≤ x.ng → T P x n c ⟨slots 0 xs, Mem.of need, 0, []⟩ (DoneN P rs need R Rp)) : CallND P f xs (Oid.under p) need R Rp := by
  subst hn; subst hr
  have hl := Nat.le_of_ble_eq_true hl
  refine ⟨by simp only [entersB, hf, hb, Option.isSome_some, Bool.true_and]; exact hnm, fun x g args w m hm hneed hargs hsp hng => ?_⟩
  refine (callsIn_Fc (rd := none) (n := 0)).1 (callsIn_of_wp_marks hf hb trivial ?_)
  have hin := hm.enter (p := p) hneed
  have hsz : (args ++ Array.replicate (fn.ntmps - args.size) undef).size = fn.ntmps := by simp [hargs.1]; omega
  have hrel : Rel (x.inner g w need p) fn.ntmps g ⟨slots 0 xs, Mem.of need, 0, []⟩ { tmps := args ++ Array.replicate (fn.ntmps - args.size) undef, defers := [] } w := by
    refine ⟨hin, hsz, .nil, fun t ht => ?_, fun i hi => (hsp i hi.under).1⟩
    simp only
    rw [F_slots]
    split
    · rename_i h
      rw [Nat.sub_zero, getD_append_left (by rw [hargs.1]; omega)]
      exact hargs.2 t (by omega)
    · exact .unk _
  have hpx : Oid.under x.p p := (hsp p (Oid.under_refl p)).2
  refine wpIn_mono (hT (x.inner g w need p) rfl rfl hng g _ w hrel) fun en a' w' ⟨g', ex, s', h1, h2, h3⟩ => ?_
  have fin : LeaveA s'.mem (fun m => ∃ val upd, retM P m s'.fr fn.results.toList = some val ∧ R val upd ∧ ∀ i o, ((Mem.of need).upds upd) i = some o → m i = some o) s'.ds →
      LeavesInM (Fc none) 0 P fn a'.tmps (fun en w' => (∃ g' v val upd, en = .returned v ∧ R val upd ∧ g.le g' ∧ (∀ i, ¬ Oid.under p i → g'.loc i = g.loc i) ∧ VR g' val v ∧ MemRel x g' (m.upds upd) w') ∨
      (∃ g' e pv upd, en = .panicked [e] ∧ Rp pv upd ∧ g.le g' ∧ (∀ i, ¬ Oid.under p i → g'.loc i = g.loc i) ∧ VR g' pv e.v ∧ e.recovered = false ∧ e.goexit = false ∧ MemRel x g' (m.upds upd) w')) a'.defers .returning w' := fun h3 =>
    leave_marks (by simp) (fun m1 w1 hm1 ⟨val, upd, r1, r2, r3⟩ => by
      obtain ⟨v, v1, v2⟩ := resultsM_spec (P := P) hm1 hok r1 h1.fr
      exact ⟨v, v1, .inl ⟨g', v, val, upd, rfl, r2, h1.mr.le, h1.mr.locs, v2, hm.leave hneed hpx hm1 r3⟩⟩) _ _ _ _ h1.mr h1.df h3
  cases ex with
  | normal => cases en <;> simp only [AX.fits] at h2; exact fin h3
  | ret => cases en <;> simp only [AX.fits] at h2; exact fin h3
  | exit i => exact h3.elim
  | panic pv =>
    have : ∃ e : PanicEntry, en = .panic [e] ∧ VR g' pv e.v ∧ e.recovered = false ∧ e.goexit = false := by
      cases en with
      | panic ch =>
        match ch, h2 with
        | [e], h2 => exact ⟨e, rfl, h2⟩
      | _ => exact h2.elim
    obtain ⟨e, rfl, hv, e1, e2⟩ := this
    exact leave_marks (by simp) (fun m1 w1 hm1 ⟨upd, r2, r3⟩ => .inr ⟨g', e, pv, upd, rfl, r2, h1.mr.le, h1.mr.locs, hv, e1, e2, hm.leave hneed hpx hm1 r3⟩) _ _ _ _ h1.mr h1.df h3
end Go.Ab
