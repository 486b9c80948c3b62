/- The framework, seventh part: from a contract to a row that lists what variables hold. -/
import Derived.Test.YtiaiggbimlbkfaaGreatDoorFwD
import Derived.Deep.DeepHandedRow
import Derived.Lib.LaidTab
set_option linter.unusedVariables false
set_option linter.unusedSimpArgs false
set_option linter.unusedSectionVars false
namespace Go.Ab
open Go.ChangeShapes Go.WideShapes
section
variable {β : Type}
/-- A law's row that lists variables: its witness, what its arguments read as, what the list gives, its contract. -/
theorem law_lifted_row {C : Checked} [Laid C.prog] {os : Os} {f : FuncId} {fn : Func} {s : ChangeSpec} {F : Stop.Interp} {conds : List PathCond} {laid : List (String × DataW Unit)} {tb : TypeId} {H : Type} {enc : TypeId × Value → H} {ts : List TypeId} {B : β → List AV} {W : β → Prop}
    (own : ownKnob C.prog.godebug = none) (started : os.Started) (noInit : C.prog.inits.idxOf? f = none) (hfn : C.prog.funcs[f]? = some fn)
    (witness : ∃ (w : World) (tape : Tape) (i : Input), w.os = os ∧ (w.forCall tape i).Shaped C.prog ∧ i.vars = [] ∧ Input.okWide C.prog (w.forCall tape i) .any w.heap.size f i ∧
      (OpenSpec.ofChange s).preRow enc C.prog fn conds false laid (w.forCall tape i).memory i.args ∧ ({} : Assume).holds C.prog (lone (Frame.enter C.prog f i.args .normal) [] (w.forCall tape i)))
    (hl : laidOutB C.prog = true) (hz : ∀ t e, t < C.prog.types.size → C.prog.underlying t = some (.slice e) → 0 < C.prog.cellsOf e) (hp : fn.params.toList = ts) (hrB : (ts.all fun t => C.prog.readableRec t && decide (t < C.prog.types.size)) = true)
    (hrt : fn.resultTypes = #[tb]) (htb : C.prog.underlying tb = some .bool) (hv : s.vars = []) (hs : ∀ ds : List (DataW H), ds.length = ts.length → s.fn H ds = { results := [.lit (.bool true)], args := ds })
    (hA : RdA C.prog ts B W) (hc : ∀ b, W b → CallOK C.prog f (B b) (Oid.under (.root C.prog.globals.size)) ⟨[], .bool true, []⟩) (hLaid : ∀ W : World, laidMetH C.prog laid W → W.ShapedOpen C.prog → Laid.facts C.prog (ghAll C.prog.globals.size W)) :
    ReturnsInHanded {} C os f .any ((OpenSpec.ofChange s).preRow enc C.prog fn conds false laid) (((OpenSpec.ofChange s).at F).post enc C.prog fn false true false false) := by
  have hr : ∀ t ∈ ts, C.prog.readableRec t = true ∧ t < C.prog.types.size := fun t ht => by
    have := List.all_eq_true.1 hrB t ht
    simpa using this
  refine returnsInHanded_of_row own started noInit hfn witness ?_
  intro w base args ds gs before hval hW _ _ hsz hlaid hopen _
  have hW : DataW.Whole enc C.prog fn.params.toList s.vars false w args.toList ds gs before := hW
  have hsz : (DataW.weightsEach C.prog (fn.params.toList ++ s.plain.varTypes C.prog) (ds ++ gs)).all (· ≤ reachBytes) = true := hsz
  have hW' := hW
  obtain ⟨p, q, hT, hV, rfl, hfz, hnd⟩ := hW
  rw [hv] at hV
  obtain ⟨rfl, rfl⟩ := trodVars_none hV
  have hlen := trodAll_length hT
  rw [hp] at hT hlen
  have hvt : s.plain.varTypes C.prog = [] := by
    have : s.plain.vars = [] := hv
    unfold DataSpec.varTypes; rw [this]; rfl
  rw [hvt, List.append_nil, List.append_nil, List.all_eq_true, hp] at hsz
  obtain ⟨b, k1, k2, k3⟩ := hA.rd (ng := C.prog.globals.size) (fun j t v ht hv' => hval j t v (by rw [← Array.getElem?_toList, hp]; exact ht) (by rw [← Array.getElem?_toList]; exact hv')) hT fun n hn => by simpa using hsz n hn
  refine law_post hl hz (by rw [hp]; exact hr) hrt htb hv hW' (hs ds hlen) (avs := B b) ⟨by simpa using k2, fun j hj => ?_⟩ (hc b k1) (hLaid _ hlaid hopen)
  have := k3 j (by rw [k2]; exact hj)
  simpa [List.getD_eq_getElem?_getD, Array.getD_eq_getD_getElem?] using this
end

/-! ### what a list gives -/
theorem ghAll_table {ng : Nat} {P : Program} {W : World} {name : String} {k : IntKind} {zs : List Int} {g : Nat} (hg : P.globalNamed name = some g) (h : Lib.TabIs P W name k zs) :
    (ghAll ng W).row g = some zs.length ∧ ∀ j z, zs[j]? = some z → (ghAll ng W).com g j = some (.int k z) := by
  simp only [Lib.TabIs, World.var?, hg, Option.bind_some] at h
  cases hw : W.heap[g]? with
  | none => rw [hw] at h; cases h
  | some o =>
    rw [hw] at h
    cases o with
    | cells c t fz =>
      simp only [Option.some.injEq] at h
      subst h
      refine ⟨by simp [ghAll, hw], fun j z hz => ghAll_com ?_ rfl⟩
      simp [World.cell?, hw, hz]
    | _ => cases h
/-- A variable that holds an error. -/
theorem ghAll_err {ng : Nat} {P : Program} {W : World} {name nm : String} {d : DataW Unit} {g : Nat} {ti : TypeId} {ms : Array (String × TypeId)} (hg : P.globalNamed name = some g) (hty : (P.globals[g]?).map (·.type) = some ti) (hi : P.underlying ti = some (.interface ms))
    {l : List (String × DataW Unit)} (hm : (name, .iface nm d) ∈ l) (h : laidMet P l W) : ∃ v, (ghAll ng W).com g 0 = some v ∧ (v = .nilIface ∨ ∃ t p, v = .iface t p) := by
  obtain ⟨ps, hl, _, _⟩ := h
  have key : ∀ {l : List (String × DataW Unit)} {ps : List MemPlace}, DataW.LaidVars P W l ps → (name, .iface nm d) ∈ l → ∃ t p, W.cell? ⟨g, 0, none⟩ = some (.iface t p) := by
    intro l
    induction l with
    | nil => intro ps _ hm; cases hm
    | cons x r ih =>
      obtain ⟨n, e⟩ := x
      intro ps hl hm
      obtain ⟨g', t, cs, fuel, p, q, h1, h2, h3, h4, h5, _⟩ := hl
      rcases List.mem_cons.1 hm with hm | hm
      · simp only [Prod.mk.injEq] at hm
        obtain ⟨rfl, rfl⟩ := hm
        rw [hg] at h1; simp only [Option.some.injEq] at h1; subst h1
        rw [hty] at h2; simp only [Option.some.injEq] at h2; subst h2
        obtain ⟨_, u, v, h6, _, _⟩ := iface_of_trod hi h4
        simp only [World.var?, hg, Option.bind_some] at h3
        cases hw : W.heap[g]? with
        | none => rw [hw] at h3; cases h3
        | some o =>
          rw [hw] at h3
          cases o with
          | cells c t' fz =>
            simp only [Option.some.injEq] at h3
            subst h3
            refine ⟨u, v, ?_⟩
            have h7 : c[0]? = some (.iface u v) := by rw [← Array.getElem?_toList, h6]; rfl
            simp [World.cell?, hw, h7]
          | _ => cases h3
      · exact ih h5 hm
  obtain ⟨t, p, hc⟩ := key hl hm
  exact ⟨_, ghAll_com hc rfl, .inr ⟨t, p, rfl⟩⟩
/-- A variable that holds a table. -/
theorem tab_of_mem {P : Program} {W : World} {name : String} {k : IntKind} {zs : List Int} {g : Nat} {t e : TypeId} {n : Nat} (hg : P.globalNamed name = some g) (hty : (P.globals[g]?).map (·.type) = some t) (ht : P.underlying t = some (.array n e)) (he : P.underlying e = some (.int k)) (hce : P.cellsOf e = 1) (hct : P.cellsOf t = n)
    {l : List (String × DataW Unit)} (hm : (name, Lib.tabData k zs) ∈ l) (h : laidMet P l W) : Lib.TabIs P W name k zs := by
  obtain ⟨ps, hl, h1, h2⟩ := h
  clear h1 h2
  induction l generalizing ps with
  | nil => cases hm
  | cons x r ih =>
    obtain ⟨n', d⟩ := x
    obtain ⟨g', t', cs, fuel, p, q, h1, h2, h3, h4, h5, _⟩ := hl
    rcases List.mem_cons.1 hm with hm | hm
    · simp only [Prod.mk.injEq] at hm
      obtain ⟨rfl, rfl⟩ := hm
      rw [hg] at h1; simp only [Option.some.injEq] at h1; subst h1
      rw [hty] at h2; simp only [Option.some.injEq] at h2; subst h2
      have := Lib.cells_of_tab ht he hce hct h4
      show W.var? P name = _
      rw [h3, ← this]
    · exact ih hm q h5
end Go.Ab
