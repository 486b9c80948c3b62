/- Calls; one function for all operations; a region by that function. -/
import Derived.Test.YtpdmiojenhodlaaFwM4
set_option linter.unusedVariables false
set_option linter.unusedSimpArgs false
namespace Go.Ab

theorem callsIn_Fc {rd : Option Nat} {n : Nat} {P : Program} {f : FuncId} {args : Array Value} {w : World} {R : Ending → World → Prop} : CallsIn (Fc rd) n P f args w R ↔ Calls P f args w R := callsIn_wide

/-- A function of the program with a text of its own. -/
def entersB (P : Program) (f : FuncId) : Bool := match P.funcs[f]? with
  | some fn => fn.body.isSome && fn.name != "runtime.NumGoroutine"
  | none => false

/-- The call of f at xs, in a memory that holds 'need', hands back y and changes memory by 'upd'. -/
structure CallOK (P : Program) (f : FuncId) (xs : List AV) (sp : Oid → Prop) (e : Eff) : Prop where
  enters : entersB P f = true
  calls : ∀ (x : Ctx) (g : Gh) (args : Array Value) (w : World) (m : Mem), MemRel x g m w → (∀ q, q ∈ e.need → m q.1 = some q.2) → VRs g xs args → (∀ i, sp i → g.loc i = none ∧ Oid.under x.p i) → P.globals.size ≤ x.ng →
    Calls P f args w fun en w' => ∃ g' v, en = .returned v ∧ g.le g' ∧ (∀ i, ¬ sp i → g'.loc i = g.loc i) ∧ VR g' e.val v ∧ MemRel x g' (m.upds e.upd) w'

section
variable {P : Program} {o : Oper} {ρ : Operand → AV} {sp : Oid → Prop}

theorem VRs.append {g : Gh} {xs ys : List AV} {a b : Array Value} (h : VRs g xs a) (k : VRs g ys b) : VRs g (xs ++ ys) (a ++ b) := by
  refine ⟨by simp [h.1, k.1], fun j hj => ?_⟩
  simp only [List.length_append] at hj
  rcases Nat.lt_or_ge j xs.length with h' | h'
  · rw [getD_append_left (by rw [h.1]; exact h')]
    have e : (xs ++ ys).getD j .undef = xs.getD j .undef := by simp [List.getD_eq_getElem?_getD, List.getElem?_append_left h']
    rw [e]; exact h.2 j h'
  · rw [getD_append_right (by rw [h.1]; exact h'), h.1]
    have e : (xs ++ ys).getD j .undef = ys.getD (j - xs.length) .undef := by simp [List.getD_eq_getElem?_getD, List.getElem?_append_right h']
    rw [e]; exact k.2 _ (by omega)
theorem VRs.map {g : Gh} {a : Act} {l : Array Operand} (h : ∀ t, t ∈ l.toList → VR g (ρ t) (a.eval t)) : VRs g (l.toList.map ρ) (l.map a.eval) := by
  have e1 : l.map a.eval = (l.toList.map a.eval).toArray := by apply Array.ext'; simp only [Array.toList_map]
  rw [e1]
  exact ⟨by simp, vrs_map h⟩

theorem eff_call {f : Operand} {args : Array Operand} {ts : Array TypeId} {k : FuncId} {first cap : List AV} {e : Eff} (ho : o.op = .call ⟨.value f, args, ts⟩) (hf : ρ f = .fn (.func k) first cap)
    (h : CallOK P k (first ++ args.toList.map ρ ++ cap) sp e) : EffOK P o ρ sp e := by
  intro x g a w m hm hn hop hs hng next Q K
  have hfv := hop f (by simp [Op.operands, Call.operands, ho])
  rw [hf] at hfv
  obtain ⟨fa, ca, hu, h1, h2, h3, h4⟩ := hfv.fn_inv
  have hargs : VRs g (args.toList.map ρ) (args.map a.eval) := VRs.map fun t ht => hop t (by
    have : t ∈ args := by simpa using ht
    simp [Op.operands, Call.operands, ho, this])
  have hrun : (execOp a.eval o).run P w = .ok (.enter k (fa ++ args.map a.eval ++ ca)) w := by
    have he := h.enters
    unfold entersB at he
    cases hfn : P.funcs[k]? with
    | none => rw [hfn] at he; cases he
    | some fn =>
      rw [hfn] at he
      simp only [Bool.and_eq_true, bne_iff_ne, ne_eq] at he
      obtain ⟨he1, he2⟩ := he
      have hb : fn.body.isNone = false := by cases hbb : fn.body <;> simp_all
      have hnm : (fn.name == "runtime.NumGoroutine") = false := by simpa using he2
      simp only [execOp, ho, resolve, Sem.run_bind, hu, Deferred.ofValue, Sem.run_pure, Result.andThen_ok, invoke, callFunc, run_program, hfn, hnm, hb, Bool.false_eq_true, if_false]
  refine ⟨fun _ _ => trivial, ?_⟩
  rw [Oper.semAt_eq _ _ _ (fun c hc => by rw [ho] at hc; cases hc), hrun, Oper.uponIn_enter]
  refine ⟨fun hd => absurd hd (by simp [Fc]), callsIn_Fc.2 ?_⟩
  refine (h.calls x g _ w m hm hn (VRs.append (VRs.append ⟨h1, h3⟩ hargs) ⟨h2, h4⟩) hs hng).mono fun en w' ⟨g', v, he, k1, k2, k3, k4⟩ => ?_
  subst he
  exact K g' v w' k1 k2 k3 k4

/-! ### one function for all operations -/
def optR : Option AV → OpR
  | some v => pureR v
  | none => .no
def binX (P : Program) (op : BinOp) (t : TypeId) (x y : AV) : Option AV :=
  match binA op x y with
  | some v => some v
  | none => match boolA P op t x y with
    | some v => some v
    | none => match aggA P op t x y with
      | some v => some v
      | none => nilA P op t x y
def callF (P : Program) (m : Mem) (nid : Oid) (ρ : Operand → AV) (c : Call) : OpR :=
  match c.callee with
  | .builtin .len => match c.args.toList, c.argTypes.toList with
    | [y], [t] => lenA m (tyk P t) (ρ y)
    | _, _ => .no
  | .builtin .append => match c.args.toList, c.argTypes.toList with
    | [y, z], [t, u] => if srcOK (tyk P u) = true then appA P m nid t (ρ y) (ρ z) else .no
    | _, _ => .no
  | .builtin .max => match c.args.toList with
    | [y, z] => optR (maxA (ρ y) (ρ z))
    | _ => .no
  | .builtin .min => match c.args.toList with
    | [y, z] => optR (minA (ρ y) (ρ z))
    | _ => .no
  | .value f => match ρ f with
    | .fn (.func k) first cap => .call k (first ++ c.args.toList.map ρ ++ cap)
    | _ => .no
  | _ => .no
def opF (P : Program) (m : Mem) (nid : Oid) (md : Nat → Bool) (ρ : Operand → AV) (o : Oper) : OpR :=
  match o.op with
  | .move x => pureR (ρ x)
  | .assign x => pureR (ρ x)
  | .pick c a b => match ρ c with
    | .bool v => pureR (if v then ρ a else ρ b)
    | _ => .no
  | .alloc t => match zer P t with
    | some z => .eff ⟨[], .ptr nid 0, [(nid, some (.cells z))]⟩
    | none => .no
  | .box _ x => if (ρ x).known = true then .eff ⟨[], .ptr nid 0, [(nid, some (.cells (ρ x).cells))]⟩ else .no
  | .build t ps => optR (buildA P t (ps.toList.map fun q => (q.1, ρ q.2)))
  | .buildSlice t n ps => match litOK P (tyk P t) n (ps.toList.map fun q => (q.1, ρ q.2)) with
    | some (sz, vs) => if (match o.dst with | some d => md d | none => false) = true then .eff ⟨[], .sl nid sz n, [(nid, some (.arr sz vs))]⟩ else pureR (.list sz vs)
    | none => .no
  | .load t a => loadA (shp P t) m (ρ a)
  | .store t a v => storeA (shp P t) m (ρ a) (ρ v)
  | .nilCheck x => if nonNil (ρ x) = true then pureR (ρ x) else .no
  | .binOp op t x y _ => optR (binX P op t (ρ x) (ρ y))
  | .unOp op _ x => optR (unA op (ρ x))
  | .convert s d x => optR (convA P s d (ρ x))
  | .fieldAddr t x k => optR (fieldAddrA (fldOf P t k) (ρ x))
  | .field t x k => optR (fieldA (fldOf P t k) (ρ x))
  | .indexAddr t x i => optR (indexAddrA (tyk P t) (ρ x) (ρ i))
  | .index t x i => optR (indexA (tyk P t) (ρ x) (ρ i))
  | .extract x i => optR (extractA (ρ x) i)
  | .makeFunc f xs ys => pureR (.fn f (xs.toList.map ρ) (ys.toList.map ρ))
  | .makeInterface t x => optR (ifaceA (tyk P t) t (ρ x))
  | .slice t x lo hi none => optR (pieceA (tyk P t) (ρ x) (lo.map ρ) (hi.map ρ))
  | .makeMap t none => match keyShape P t with
    | some (ks, ag) => .eff ⟨[], .map nid, [(nid, some (.map ks ag [] 0))]⟩
    | none => .no
  | .lookup t x k ok => lookupA P m t (ρ x) (ρ k) ok
  | .mapUpdate t x k v => mapUpdateA P m t (ρ x) (ρ k) (ρ v)
  | .mapEntry t x k => mapEntryA P m t (ρ x) (ρ k)
  | .entryStore _ x k v => entryStoreA m (ρ x) (ρ k) (ρ v)
  | .range t x => rangeA (tyk P t) m nid (ρ x)
  | .entry x => entryA m (ρ x)
  | .call c => callF P m nid ρ c
  | _ => .no

theorem optR_eff {v : Option AV} {e : Eff} (h : optR v = .eff e) : ∃ u, v = some u ∧ e = ⟨[], u, []⟩ := by
  cases v with
  | none => cases h
  | some u => injection h with h; exact ⟨u, rfl, h.symm⟩

theorem opF_ok {m : Mem} {nid : Oid} {md : Nat → Bool} {e : Eff} (hs : sp nid) (h : opF P m nid md ρ o = .eff e) : EffOK P o ρ sp e ∧ ∀ q, q ∈ e.need → m q.1 = some q.2 := by
  have nn : ∀ {val : AV} {u : List (Oid × Option AObj)}, ∀ q, q ∈ (⟨[], val, u⟩ : Eff).need → m q.1 = some q.2 := fun q hq => by cases hq
  have pl : ∀ {val : AV}, EffOK P o ρ sp ⟨[], val, []⟩ → pureR val = .eff e → EffOK P o ρ sp e ∧ ∀ q, q ∈ e.need → m q.1 = some q.2 := fun h1 h2 => by
    injection h2 with h2; subst h2; exact ⟨h1, nn⟩
  have pv : ∀ {v : Option AV}, (∀ u, v = some u → EffOK P o ρ sp ⟨[], u, []⟩) → optR v = .eff e → EffOK P o ρ sp e ∧ ∀ q, q ∈ e.need → m q.1 = some q.2 := fun h1 h2 => by
    obtain ⟨u, hu, rfl⟩ := optR_eff h2; exact ⟨h1 u hu, nn⟩
  unfold opF at h
  split at h
  · exact pl (eff_move (.inl ‹_›)) h
  · exact pl (eff_move (.inr ‹_›)) h
  · split at h
    · exact pl (eff_pick ‹_› ‹_›) h
    · cases h
  · split at h
    · simp only [OpR.eff.injEq] at h; subst h; exact ⟨eff_alloc ‹_› ‹_› hs, nn⟩
    · cases h
  · split at h
    · simp only [OpR.eff.injEq] at h; subst h; exact ⟨eff_box ‹_› ‹_› hs, nn⟩
    · cases h
  · exact pv (fun u hu => eff_build ‹_› hu) h
  · split at h
    · by_cases hb : (match o.dst with | some d => md d | none => false) = true
      · rw [if_pos hb] at h; injection h with h; subst h; exact ⟨eff_litArr ‹_› hs ‹_›, nn⟩
      · rw [if_neg hb] at h; exact pl (eff_litList ‹_› ‹_›) h
    · cases h
  · exact eff_load ‹_› h
  · exact eff_store ‹_› h
  · split at h
    · exact pl (eff_nilCheck ‹_› ‹_›) h
    · cases h
  · refine pv (fun u hu => ?_) h
    unfold binX at hu
    split at hu
    · rename_i hb; rw [hu] at hb; exact eff_bin ‹_› hb
    · split at hu
      · rename_i hb; rw [hu] at hb; exact eff_bool ‹_› hb
      · split at hu
        · rename_i hb; rw [hu] at hb; exact eff_agg ‹_› hb
        · exact eff_nil ‹_› hu
  · exact pv (fun u hu => eff_un ‹_› hu) h
  · exact pv (fun u hu => eff_conv ‹_› hu) h
  · exact pv (fun u hu => eff_fieldAddr ‹_› hu) h
  · exact pv (fun u hu => eff_field ‹_› hu) h
  · exact pv (fun u hu => eff_indexAddr ‹_› hu) h
  · exact pv (fun u hu => eff_index ‹_› hu) h
  · exact pv (fun u hu => eff_extract ‹_› hu) h
  · exact pl (eff_makeFunc ‹_›) h
  · exact pv (fun u hu => eff_makeInterface ‹_› hu) h
  · exact pv (fun u hu => eff_piece ‹_› hu) h
  · split at h
    · simp only [OpR.eff.injEq] at h; subst h; exact ⟨eff_makeMap _ _ ‹_› hs, nn⟩
    · cases h
  · exact eff_lookup ‹_› h
  · exact eff_mapUpdate ‹_› h
  · exact eff_mapEntry ‹_› h
  · exact eff_entryStore ‹_› h
  · exact eff_range ‹_› hs h
  · exact eff_entry ‹_› h
  · rename_i c ho
    obtain ⟨callee, args, ats⟩ := c
    unfold callF at h
    simp only at h
    have args1 : ∀ {y : Operand}, args.toList = [y] → args = #[y] := fun h => Array.ext' (by simpa using h)
    have args2 : ∀ {y z : Operand}, args.toList = [y, z] → args = #[y, z] := fun h => Array.ext' (by simpa using h)
    have ats1 : ∀ {y : TypeId}, ats.toList = [y] → ats = #[y] := fun h => Array.ext' (by simpa using h)
    have ats2 : ∀ {y z : TypeId}, ats.toList = [y, z] → ats = #[y, z] := fun h => Array.ext' (by simpa using h)
    split at h
    · split at h
      · rename_i h1 h2
        rw [args1 h1, ats1 h2] at ho
        exact eff_len ho h
      · cases h
    · split at h
      · rename_i h1 h2
        rw [args2 h1, ats2 h2] at ho
        split at h
        · rename_i hsrc
          exact eff_append ho hs hsrc h
        · cases h
      · cases h
    · split at h
      · rename_i h1; rw [args2 h1] at ho; exact pv (fun u hu => eff_max ho hu) h
      · cases h
    · split at h
      · rename_i h1; rw [args2 h1] at ho; exact pv (fun u hu => eff_min ho hu) h
      · cases h
    · split at h <;> cases h
    · cases h
  · cases h

theorem opF_call_inv {m : Mem} {nid : Oid} {md : Nat → Bool} {f : FuncId} {xs : List AV} (h : opF P m nid md ρ o = .call f xs) :
    ∃ fo args ts first cap, o.op = .call ⟨.value fo, args, ts⟩ ∧ ρ fo = .fn (.func f) first cap ∧ xs = first ++ args.toList.map ρ ++ cap := by
  have no : ∀ {v : Option AV}, optR v = .call f xs → False := fun {v} h => by cases v <;> cases h
  have lo : ∀ {s : Option (Bool × Nat)} {v : AV}, loadA s m v = .call f xs → False := fun {s v} h => by
    unfold loadA at h; split at h <;> first | (cases h; done) | (split at h <;> cases h; done)
  have st : ∀ {s : Option (Bool × Nat)} {u v : AV}, storeA s m u v = .call f xs → False := fun {s u v} h => by
    unfold storeA at h; split at h <;> first | (cases h; done) | (split at h <;> first | (cases h; done) | (split at h <;> cases h; done))
  have le : ∀ {k : Option TyK} {v : AV}, lenA m k v = .call f xs → False := fun {k v} h => by
    unfold lenA pureR at h; split at h <;> first | (cases h; done) | (split at h <;> cases h; done)
  have ap : ∀ {t : TypeId} {u v : AV}, appA P m nid t u v = .call f xs → False := fun {t u v} h => by
    unfold appA at h
    split at h
    · split at h <;> first | (cases h; done) | (split at h <;> first | (cases h; done) | (split at h <;> cases h; done))
    · cases h
  have lk : ∀ {t : TypeId} {u v : AV} {ok : Bool}, lookupA P m t u v ok = .call f xs → False := fun {t u v ok} h => by
    unfold lookupA pureR at h; split at h <;> first | (cases h; done) | (split at h <;> first | (cases h; done) | (split at h <;> first | (cases h; done) | (split at h <;> cases h; done)))
  have mu : ∀ {t : TypeId} {u v z : AV}, mapUpdateA P m t u v z = .call f xs → False := fun {t u v z} h => by
    unfold mapUpdateA at h; split at h <;> first | (cases h; done) | (split at h <;> first | (cases h; done) | (split at h <;> first | (cases h; done) | (split at h <;> cases h; done)))
  have me : ∀ {t : TypeId} {u v : AV}, mapEntryA P m t u v = .call f xs → False := fun {t u v} h => by
    unfold mapEntryA at h; split at h <;> first | (cases h; done) | (split at h <;> first | (cases h; done) | (split at h <;> first | (cases h; done) | (split at h <;> cases h; done)))
  have es : ∀ {u v z : AV}, entryStoreA m u v z = .call f xs → False := fun {u v z} h => by
    unfold entryStoreA at h; split at h <;> first | (cases h; done) | (split at h <;> first | (cases h; done) | (split at h <;> first | (cases h; done) | (split at h <;> cases h; done)))
  have ra : ∀ {k : Option TyK} {u : AV}, rangeA k m nid u = .call f xs → False := fun {k u} h => by
    unfold rangeA at h; split at h <;> first | (cases h; done) | (split at h <;> cases h; done)
  have en : ∀ {u : AV}, entryA m u = .call f xs → False := fun {u} h => by
    unfold entryA at h; split at h <;> first | (cases h; done) | (split at h <;> first | (cases h; done) | (split at h <;> first | (cases h; done) | (split at h <;> first | (cases h; done) | (split at h <;> cases h; done))))
  unfold opF at h
  split at h
  · cases h
  · cases h
  · split at h <;> cases h
  · split at h <;> cases h
  · split at h <;> cases h
  · exact (no h).elim
  · split at h
    · by_cases hb : (match o.dst with | some d => md d | none => false) = true
      · rw [if_pos hb] at h; cases h
      · rw [if_neg hb] at h; cases h
    · cases h
  · exact (lo h).elim
  · exact (st h).elim
  · split at h <;> cases h
  · exact (no h).elim
  · exact (no h).elim
  · exact (no h).elim
  · exact (no h).elim
  · exact (no h).elim
  · exact (no h).elim
  · exact (no h).elim
  · exact (no h).elim
  · cases h
  · exact (no h).elim
  · exact (no h).elim
  · split at h <;> cases h
  · exact (lk h).elim
  · exact (mu h).elim
  · exact (me h).elim
  · exact (es h).elim
  · exact (ra h).elim
  · exact (en h).elim
  · rename_i c ho
    obtain ⟨callee, args, ats⟩ := c
    unfold callF at h
    simp only at h
    split at h
    · split at h
      · exact (le h).elim
      · cases h
    · split at h
      · split at h
        · exact (ap h).elim
        · cases h
      · cases h
    · split at h
      · exact (no h).elim
      · cases h
    · split at h
      · exact (no h).elim
      · cases h
    · split at h
      · rename_i hf
        simp only [OpR.call.injEq] at h
        obtain ⟨rfl, rfl⟩ := h
        exact ⟨_, _, _, _, _, ho, hf, rfl⟩
      · cases h
    · cases h
  · cases h
theorem opF_call {m : Mem} {nid : Oid} {md : Nat → Bool} {f : FuncId} {xs : List AV} {e : Eff} (h : opF P m nid md ρ o = .call f xs) (hc : CallOK P f xs sp e) : EffOK P o ρ sp e := by
  obtain ⟨_, _, _, _, _, h1, h2, rfl⟩ := opF_call_inv h
  exact eff_call h1 h2 hc
end

/-! ### a region by that function -/
def evalF (P : Program) (md : Nat → Bool) (ops : Array Oper) (p : Oid) (c : Nat) : Nat → List Oper → List (Nat × AV) → Mem → List Eff → (List (Nat × AV) → Mem → List Eff → Prop) → Prop
  | _, [], fr, m, log, K => K fr m log
  | i, o :: rest, fr, m, log, K =>
    match wantA ops o (F fr) with
    | some true =>
      match opF P m (.sub c i p) md (evA fr) o with
      | .eff e => evalF P md ops p c (i + 1) rest (put o.dst e.val fr) (m.upds e.upd) (e :: log) K
      | .call f xs => ∃ e, CallOK P f xs (Oid.under (.sub c i p)) e ∧ (∀ q, q ∈ e.need → m q.1 = some q.2) ∧ evalF P md ops p c (i + 1) rest (put o.dst e.val fr) (m.upds e.upd) (e :: log) K
      | .no => False
    | some false => evalF P md ops p c (i + 1) rest (put o.dst (.tuple []) fr) m (⟨[], .tuple [], []⟩ :: log) K
    | none => False

theorem evalOps_of {P : Program} {md : Nat → Bool} {ops : Array Oper} {p : Oid} {c : Nat} {K : List (Nat × AV) → Mem → List Eff → Prop} : ∀ (rest : List Oper) (i : Nat) (fr : List (Nat × AV)) (m : Mem) (log : List Eff),
    evalF P md ops p c i rest fr m log K → evalOps P ops p c i rest fr m log K
  | [], _, _, _, _, h => h
  | o :: rest, i, fr, m, log, h => by
    simp only [evalF] at h
    split at h
    · rename_i hw
      simp only [evalOps, hw]
      split at h
      · rename_i e he
        obtain ⟨h1, h2⟩ := opF_ok (sp := Oid.under (.sub c i p)) (Oid.under_refl _) he
        exact ⟨e, h1, h2, evalOps_of rest _ _ _ _ h⟩
      · rename_i f xs he
        obtain ⟨e, h1, h2, h3⟩ := h
        exact ⟨e, opF_call he h1, h2, evalOps_of rest _ _ _ _ h3⟩
      · exact h.elim
    · rename_i hw
      simp only [evalOps, hw]
      exact evalOps_of rest _ _ _ _ h
    · exact h.elim
end Go.Ab
