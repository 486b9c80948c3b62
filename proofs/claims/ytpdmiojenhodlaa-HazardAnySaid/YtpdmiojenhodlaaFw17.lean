/- The rules in the shape in which a text is walked. -/
import Derived.Test.YtpdmiojenhodlaaFw16
set_option linter.unusedVariables false
set_option linter.unusedSimpArgs false
namespace Go.Ab

def keepF : List Nat → List (Nat × AV) → List (Nat × AV)
  | [], _ => []
  | t :: ts, fr => (t, F fr t) :: keepF ts fr
theorem keepF_map (ts : List Nat) (fr : List (Nat × AV)) : keepF ts fr = ts.map fun t => (t, F fr t) := by
  induction ts with
  | nil => rfl
  | cons t ts ih => simp only [keepF, ih, List.map_cons]
theorem F_keepF (ts : List Nat) (fr : List (Nat × AV)) (t : Nat) : F (keepF ts fr) t = .undef ∨ F (keepF ts fr) t = F fr t := by
  induction ts with
  | nil => exact .inl rfl
  | cons u ts ih =>
    simp only [keepF, F]
    split
    · rename_i h; subst h; exact .inr rfl
    · exact ih

theorem evalF_mono {P : Program} {md : Nat → Bool} {ops : Array Oper} {p : Oid} {c : Nat} {K K' : List (Nat × AV) → Mem → List Eff → Prop} (hk : ∀ fr m log, K fr m log → K' fr m log) :
    ∀ (rest : List Oper) (i : Nat) (fr : List (Nat × AV)) (m : Mem) (log : List Eff), evalF P md ops p c i rest fr m log K → evalF P md ops p c i rest fr m log K'
  | [], _, _, _, _, h => hk _ _ _ h
  | o :: rest, i, fr, m, log, h => by
    simp only [evalF] at h ⊢
    split
    · rename_i hw
      simp only [hw] at h
      split
      · rename_i e he; simp only [he] at h; exact evalF_mono hk rest _ _ _ _ h
      · rename_i f xs he; simp only [he] at h
        obtain ⟨e, h1, h2, h3⟩ := h
        exact ⟨e, h1, h2, evalF_mono hk rest _ _ _ _ h3⟩
      · rename_i he; simp only [he] at h
    · rename_i hw
      simp only [hw] at h
      exact evalF_mono hk rest _ _ _ _ h
    · rename_i hw
      simp only [hw] at h

/-! ### which operations touch memory -/
/-- It touches no memory. -/
def idleOp : Op → Bool
  | .move _ | .assign _ | .pick .. | .build .. | .nilCheck _ | .binOp .. | .unOp .. | .convert .. | .fieldAddr .. | .field .. | .indexAddr .. | .index .. | .extract .. | .makeFunc .. | .makeInterface .. | .slice .. => true
  | .call c => match c.callee with
    | .builtin .max | .builtin .min => true
    | _ => false
  | _ => false
/-- It only reads memory. -/
def readOp : Op → Bool
  | .load .. | .lookup .. => true
  | .call c => match c.callee with
    | .builtin .len => true
    | _ => false
  | _ => false

theorem opF_idle {P : Program} {m : Mem} {nid : Oid} {md : Nat → Bool} {ρ : Operand → AV} {o : Oper} {e : Eff} (hi : idleOp o.op = true) (h : opF P m nid md ρ o = .eff e) : e.need = [] ∧ e.upd = [] := by
  have pl : ∀ {val : AV}, pureR val = .eff e → e.need = [] ∧ e.upd = [] := fun h => by injection h with h; subst h; exact ⟨rfl, rfl⟩
  have pv : ∀ {v : Option AV}, optR v = .eff e → e.need = [] ∧ e.upd = [] := fun h => by obtain ⟨u, _, rfl⟩ := optR_eff h; exact ⟨rfl, rfl⟩
  unfold opF at h
  split at h <;> first | (cases h; done) | skip
  all_goals (rename_i ho; rw [ho] at hi)
  all_goals first | exact pl h | exact pv h | (cases hi; done) | skip
  · split at h
    · exact pl h
    · cases h
  · split at h
    · exact pl h
    · cases h
  · unfold callF at h
    unfold idleOp at hi
    split at h <;> rename_i hc <;> simp only [hc] at hi <;> first | (cases hi; done) | skip
    · split at h
      · exact pv h
      · cases h
    · split at h
      · exact pv h
      · cases h
theorem opF_idle_call {P : Program} {m : Mem} {nid : Oid} {md : Nat → Bool} {ρ : Operand → AV} {o : Oper} {f : FuncId} {xs : List AV} (hi : idleOp o.op = true) (h : opF P m nid md ρ o = .call f xs) : False := by
  have no : ∀ {v : Option AV}, optR v = .call f xs → False := fun {v} h => by cases v <;> cases h
  unfold opF at h
  split at h <;> first | (cases h; done) | skip
  all_goals (rename_i ho; rw [ho] at hi)
  all_goals first | exact no h | (cases hi; done) | skip
  · split at h <;> cases h
  · split at h <;> cases h
  · unfold callF at h
    unfold idleOp at hi
    split at h <;> rename_i hc <;> simp only [hc] at hi <;> first | (cases hi; done) | skip
    · split at h
      · exact no h
      · cases h
    · split at h
      · exact no h
      · cases h
theorem opF_read {P : Program} {m : Mem} {nid : Oid} {md : Nat → Bool} {ρ : Operand → AV} {o : Oper} {e : Eff} (hi : readOp o.op = true) (h : opF P m nid md ρ o = .eff e) : e.upd = [] := by
  unfold opF at h
  split at h <;> first | (cases h; done) | skip
  all_goals (rename_i ho; rw [ho] at hi)
  all_goals first | (cases hi; done) | skip
  · unfold loadA at h
    split at h <;> first | (cases h; done) | (split at h <;> first | (cases h; done) | (injection h with h; subst h; rfl))
  · unfold lookupA pureR at h
    split at h <;> first | (cases h; done) | (split at h <;> first | (cases h; done) | (split at h <;> first | (cases h; done) | (injection h with h; subst h; rfl) | (split at h <;> first | (cases h; done) | (injection h with h; subst h; rfl))))
  · unfold callF at h
    unfold readOp at hi
    split at h <;> rename_i hc <;> simp only [hc] at hi <;> first | (cases hi; done) | skip
    · split at h
      · unfold lenA pureR at h
        split at h <;> first | (cases h; done) | (injection h with h; subst h; rfl) | (split at h <;> first | (cases h; done) | (injection h with h; subst h; rfl))
      · cases h
theorem opF_read_call {P : Program} {m : Mem} {nid : Oid} {md : Nat → Bool} {ρ : Operand → AV} {o : Oper} {f : FuncId} {xs : List AV} (hi : readOp o.op = true) (h : opF P m nid md ρ o = .call f xs) : False := by
  unfold opF at h
  split at h <;> first | (cases h; done) | skip
  all_goals (rename_i ho; rw [ho] at hi)
  all_goals first | (cases hi; done) | skip
  · unfold loadA at h
    split at h <;> first | (cases h; done) | (split at h <;> cases h; done)
  · unfold lookupA pureR at h
    split at h <;> first | (cases h; done) | (split at h <;> first | (cases h; done) | (split at h <;> first | (cases h; done) | (split at h <;> cases h; done)))
  · unfold callF at h
    unfold readOp at hi
    split at h <;> rename_i hc <;> simp only [hc] at hi <;> first | (cases hi; done) | skip
    · split at h
      · unfold lenA pureR at h
        split at h <;> first | (cases h; done) | (split at h <;> cases h; done)
      · cases h

/-- What is known of the effects. -/
def Tame (o : Oper) (e : Eff) : Prop := (idleOp o.op = true → e.need = [] ∧ e.upd = []) ∧ (readOp o.op = true → e.upd = [])

theorem evalOps_tame {P : Program} {md : Nat → Bool} {ops : Array Oper} {p : Oid} {c : Nat} {K : List (Nat × AV) → Mem → List Eff → Prop} : ∀ (rest : List Oper) (i : Nat) (fr : List (Nat × AV)) (m : Mem) (log : List Eff),
    (∀ j, rest[j]? = ops[i + j]?) → log.length = i → (∀ (k : Nat) o e, ops[k]? = some o → log.reverse[k]? = some e → Tame o e) → evalF P md ops p c i rest fr m log K →
    evalOps P ops p c i rest fr m log (fun fr m log => K fr m log ∧ ∀ (k : Nat) o e, ops[k]? = some o → log.reverse[k]? = some e → Tame o e)
  | [], _, _, _, _, _, _, ht, h => ⟨h, ht⟩
  | o :: rest, i, fr, m, log, hl, hn, ht, h => by
    have h0 : ops[i]? = some o := by simpa using (hl 0).symm
    have hl' : ∀ j, rest[j]? = ops[i + 1 + j]? := fun j => by have := hl (j + 1); simpa [Nat.add_assoc, Nat.add_comm 1 j] using this
    have step : ∀ e, Tame o e → ∀ (k : Nat) o' e', ops[k]? = some o' → (e :: log).reverse[k]? = some e' → Tame o' e' := by
      intro e he k o' e' ho' he'
      rw [List.reverse_cons] at he'
      by_cases hk : k < log.reverse.length
      · rw [List.getElem?_append_left hk] at he'; exact ht k o' e' ho' he'
      · rw [List.getElem?_append_right (by omega)] at he'
        have hk0 : k - log.reverse.length = 0 := by
          cases hz : k - log.reverse.length with
          | zero => rfl
          | succ z => rw [hz] at he'; simp at he'
        have hki : k = i := by rw [List.length_reverse, hn] at hk0 hk; omega
        subst hki
        rw [hk0] at he'
        simp only [List.getElem?_cons_zero, Option.some.injEq] at he'
        rw [h0] at ho'; simp only [Option.some.injEq] at ho'
        subst ho'; subst he'; exact he
    simp only [evalF] at h
    split at h
    · rename_i hw
      simp only [evalOps, hw]
      split at h
      · rename_i e he
        obtain ⟨h1, h2⟩ := opF_ok (sp := Oid.under (.sub c i p)) (Oid.under_refl _) he
        exact ⟨e, h1, h2, evalOps_tame rest (i + 1) _ _ _ hl' (by simp [hn]) (step e ⟨fun hi => opF_idle hi he, fun hi => opF_read hi he⟩) h⟩
      · rename_i f xs he
        obtain ⟨e, h1, h2, h3⟩ := h
        exact ⟨e, opF_call he h1, h2, evalOps_tame rest (i + 1) _ _ _ hl' (by simp [hn]) (step e ⟨fun hi => (opF_idle_call hi he).elim, fun hi => (opF_read_call hi he).elim⟩) h3⟩
      · exact h.elim
    · rename_i hw
      simp only [evalOps, hw]
      exact evalOps_tame rest (i + 1) _ _ _ hl' (by simp [hn]) (step _ ⟨fun _ => ⟨rfl, rfl⟩, fun _ => rfl⟩) h
    · exact h.elim

/-- Every pair that no edges order, and of which one writes or makes what the other one might touch, is listed. -/
def pairsOK (ops : Array Oper) (B : List Nat) (U : List (Nat × Nat)) : Bool := (List.range ops.size).all fun j => (List.range j).all fun i => (B.getD j 0).testBit i || match ops[i]?, ops[j]? with
  | some x, some y => idleOp x.op || idleOp y.op || (readOp x.op && readOp y.op) || U.contains (i, j)
  | _, _ => true
def dynU (E : List Eff) : List (Nat × Nat) → Prop
  | [] => True
  | (i, j) :: r => disjE (E.getD i Eff.none) (E.getD j Eff.none) ∧ dynU E r
theorem dynU_mem {E : List Eff} {U : List (Nat × Nat)} (h : dynU E U) {i j : Nat} (hm : (i, j) ∈ U) : disjE (E.getD i Eff.none) (E.getD j Eff.none) := by
  induction U with
  | nil => cases hm
  | cons q U ih =>
    obtain ⟨a, b⟩ := q
    simp only [dynU] at h
    rcases List.mem_cons.1 hm with h' | h'
    · injection h' with h1 h2; subst h1; subst h2; exact h.1
    · exact ih h.2 h'

theorem compat_of {ops : Array Oper} {E : List Eff} {U : List (Nat × Nat)} {B : List Nat} (hp : pairsOK ops B U = true) (hl : E.length = ops.size) (ht : ∀ (k : Nat) o e, ops[k]? = some o → E[k]? = some e → Tame o e) (hd : dynU E U) : compatE B E := by
  intro i j ei ej hij hi hj hb
  have hjs : j < ops.size := by
    rcases Nat.lt_or_ge j E.length with h | h
    · omega
    · simp [List.getElem?_eq_none h] at hj
  simp only [pairsOK, List.all_eq_true, List.mem_range] at hp
  have := hp j hjs i hij
  have hoi : ops[i]? = some (ops[i]'(by omega)) := by simp
  have hoj : ops[j]? = some ops[j] := by simp
  rw [hb, hoi, hoj] at this
  simp only [Bool.false_or, Bool.or_eq_true, Bool.and_eq_true, List.contains_iff_mem] at this
  have hti := ht i _ ei hoi hi
  have htj := ht j _ ej hoj hj
  rcases this with ((h | h) | ⟨h1, h2⟩) | h
  · obtain ⟨a, b⟩ := hti.1 h
    exact ⟨(fun q hq => by rw [b] at hq; cases hq), (fun q hq => by rw [b] at hq; cases hq), (fun q hq => by rw [a] at hq; cases hq)⟩
  · obtain ⟨a, b⟩ := htj.1 h
    exact ⟨(fun q _ q' hq => by rw [a] at hq; cases hq), (fun q _ q' hq => by rw [b] at hq; cases hq), (fun q _ q' hq => by rw [b] at hq; cases hq)⟩
  · have a := hti.2 h1; have b := htj.2 h2
    exact ⟨(fun q hq => by rw [a] at hq; cases hq), (fun q hq => by rw [a] at hq; cases hq), (fun q _ q' hq => by rw [b] at hq; cases hq)⟩
  · have := dynU_mem hd h
    simpa [List.getD_eq_getElem?_getD, hi, hj] using this

theorem evalOps_mono' {P : Program} {ops : Array Oper} {p : Oid} {c N : Nat} {K K' : List (Nat × AV) → Mem → List Eff → Prop} (hk : ∀ fr m log, log.length = N → K fr m log → K' fr m log) :
    ∀ (rest : List Oper) (i : Nat) (fr : List (Nat × AV)) (m : Mem) (log : List Eff), log.length + rest.length = N → evalOps P ops p c i rest fr m log K → evalOps P ops p c i rest fr m log K'
  | [], _, _, _, _, hl, h => hk _ _ _ (by simpa using hl) h
  | o :: rest, i, fr, m, log, hl, h => by
    simp only [List.length_cons] at hl
    simp only [evalOps] at h ⊢
    split
    · rename_i hw
      simp only [hw] at h
      obtain ⟨e, h1, h2, h3⟩ := h
      exact ⟨e, h1, h2, evalOps_mono' hk rest _ _ _ _ (by simp; omega) h3⟩
    · rename_i hw
      simp only [hw] at h
      exact evalOps_mono' hk rest _ _ _ _ (by simp; omega) h
    · rename_i hw
      simp only [hw] at h

/-! ### the rules -/
section
variable {P : Program} {x : Ctx} {n : Nat} {Q : AX → AS → Prop} {id : Nat} {ops : Array Oper} {d : Code} {fr : List (Nat × AV)} {m : Mem} {c : Nat} {ds : List AD}

/-- What is checked of a region's text. -/
def textB (n ng : Nat) (ops : Array Oper) : Bool := ops.all (operOK n ng ops)
def drawB (n ng : Nat) (ops : Array Oper) (U : List (Nat × Nat)) : Bool := ops.all (operOK n ng ops) && drawOK ops && pairsOK ops (befs ops.toList []) U

theorem R_text (ts : List Nat) (md : Nat → Bool) (hng : P.globals.size ≤ x.ng) (hok : textB n P.globals.size ops = true)
    (h : Fresh x.p c m → ∀ K : List (Nat × AV) → Mem → Nat → Prop, (∀ fr m c, Q .normal ⟨fr, m, c, ds⟩ → K fr m c) → evalF P md ops x.p c 0 ops.toList fr m [] (fun fr m _ => K (keepF ts fr) m (c + 1))) :
    T P x n (.region id ops false) ⟨fr, m, c, ds⟩ Q := by
  have := T_region_text (P := P) (x := x) (n := n) (s := ⟨fr, m, c, ds⟩) (Q := fun e s => ∃ fr', s.fr = fr' ∧ e = .normal ∧ Q .normal ⟨keepF ts fr', s.mem, s.c, s.ds⟩) (id := id) hng hok fun hf =>
    evalOps_of (md := md) _ _ _ _ _ (evalF_mono (fun fr m log hT => ⟨fr, rfl, rfl, hT⟩) _ _ _ _ _ (h hf (fun fr m c => Q .normal ⟨fr, m, c, ds⟩) (fun _ _ _ h => h)))
  intro g a w hr
  refine wpIn_mono (this g a w hr) fun e a' w' ⟨g', ex, s', h1, h2, fr', h3, h4, h5⟩ => ?_
  subst h3; subst h4
  exact ⟨g', .normal, ⟨keepF ts s'.fr, s'.mem, s'.c, s'.ds⟩, h1.forget _ (fun t _ => F_keepF ts s'.fr t), h2, h5⟩

theorem R_draw (ts : List Nat) (md : Nat → Bool) (U : List (Nat × Nat)) (hmx : P.follows .mixedOrders = true) (hng : P.globals.size ≤ x.ng) (hok : drawB n P.globals.size ops U = true)
    (h : Fresh x.p c m → ∀ K : List (Nat × AV) → Mem → Nat → Prop, (∀ fr m c, Q .normal ⟨fr, m, c, ds⟩ → K fr m c) → evalF P md ops x.p c 0 ops.toList fr m [] (fun fr m log => dynU log.reverse U ∧ K (keepF ts fr) m (c + 1))) :
    T P x n (.region id ops true) ⟨fr, m, c, ds⟩ Q := by
  simp only [drawB, Bool.and_eq_true] at hok
  obtain ⟨⟨k1, k2⟩, k3⟩ := hok
  have key := T_region_draw (P := P) (x := x) (n := n) (s := ⟨fr, m, c, ds⟩) (Q := fun e s => e = .normal ∧ Q .normal ⟨keepF ts s.fr, s.mem, s.c, s.ds⟩) (id := id) hmx hng k1 k2 fun hf => by
    have h1 := evalOps_tame (md := md) ops.toList 0 fr m [] (fun j => by simp) rfl (fun k o e _ he => by simp at he) (h hf (fun fr m c => Q .normal ⟨fr, m, c, ds⟩) (fun _ _ _ h => h))
    refine evalOps_mono' (N := ops.size) ?_ _ _ _ _ _ (by simp) h1
    rintro fr1 m1 log hlen ⟨⟨hd, hq⟩, ht⟩
    refine ⟨compat_of k3 (by simpa using hlen) ht hd, fun fr' hF => ⟨rfl, ?_⟩⟩
    have : keepF ts fr' = keepF ts fr1 := by simp only [keepF_map, hF]
    rw [this]; exact hq
  intro g a w hr
  refine wpIn_mono (key g a w hr) fun e a' w' ⟨g', ex, s', h1, h2, h4, h5⟩ => ?_
  subst h4
  exact ⟨g', .normal, ⟨keepF ts s'.fr, s'.mem, s'.c, s'.ds⟩, h1.forget _ (fun t _ => F_keepF ts s'.fr t), h2, h5⟩

theorem S_text (ts : List Nat) (md : Nat → Bool) (hng : P.globals.size ≤ x.ng) (hok : textB n P.globals.size ops = true)
    (h : Fresh x.p c m → ∀ K : List (Nat × AV) → Mem → Nat → Prop, (∀ fr m c, T P x n d ⟨fr, m, c, ds⟩ Q → K fr m c) → evalF P md ops x.p c 0 ops.toList fr m [] (fun fr m _ => K (keepF ts fr) m (c + 1))) :
    T P x n (.seq (.region id ops false) d) ⟨fr, m, c, ds⟩ Q := T_seq (R_text ts md hng hok h)
theorem S_draw (ts : List Nat) (md : Nat → Bool) (U : List (Nat × Nat)) (hmx : P.follows .mixedOrders = true) (hng : P.globals.size ≤ x.ng) (hok : drawB n P.globals.size ops U = true)
    (h : Fresh x.p c m → ∀ K : List (Nat × AV) → Mem → Nat → Prop, (∀ fr m c, T P x n d ⟨fr, m, c, ds⟩ Q → K fr m c) → evalF P md ops x.p c 0 ops.toList fr m [] (fun fr m log => dynU log.reverse U ∧ K (keepF ts fr) m (c + 1))) :
    T P x n (.seq (.region id ops true) d) ⟨fr, m, c, ds⟩ Q := T_seq (R_draw ts md U hmx hng hok h)
end
end Go.Ab
