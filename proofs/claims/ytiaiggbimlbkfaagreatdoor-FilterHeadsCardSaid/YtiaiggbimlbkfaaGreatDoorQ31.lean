/- FilterHeads: the first lines, and the last ones, of any text are the document's, for every argument that the row lets in, the variables laid as the program's text lays them. -/
import Derived.Test.YtiaiggbimlbkfaaGreatDoorQX
import Derived.Test.YtiaiggbimlbkfaaGreatDoorQ22
set_option linter.unusedVariables false
set_option linter.unusedSimpArgs false
namespace Go.Proofs.YtiaiggbimlbkfaaGreatDoor
open Go Go.Ab
set_option maxRecDepth 100000
theorem c_u16 : Tryz.prog.cellsOf 42 = 1 := by kernel_rfl
theorem c_bool : Tryz.prog.cellsOf 4 = 1 := by kernel_rfl
theorem rd_u16 : Rd Tryz.prog 42 (fun n : Nat => AV.int .u16 n) (fun n => n < 65536) :=
  (rd_int Tryz.underlying42 c_u16).map (fun n => n.toNat) (fun n hn => by
    have h1 : 0 ≤ n ∧ n ≤ 65535 := by simpa [Lit.wf, IntKind.min, IntKind.max, IntKind.signed, IntKind.bits] using hn
    show AV.int .u16 n = AV.int .u16 _
    congr 1
    omega) (fun _ => c_u16.symm) (fun n hn => by
    have h1 : 0 ≤ n ∧ n ≤ 65535 := by simpa [Lit.wf, IntKind.min, IntKind.max, IntKind.signed, IntKind.bits] using hn
    show n.toNat < 65536
    omega)
theorem filterHeads_lifted (os : Os) (started : os.Started) (H : Type) (enc : TypeId × Value → H) (F : Stop.Interp) :
    ReturnsInHanded {} Tryz.checked os 7 .any ((OpenSpec.ofChange Rows.filterHeadsSpec).preRow enc Tryz.prog Tryz.f7 Rows.filterHeadsRow.domain false Rows.filterHeadsRow.laid) (((OpenSpec.ofChange Rows.filterHeadsSpec).at F).post enc Tryz.prog Tryz.f7 false true false false) := by
  have hx : DataW.whole enc Tryz.prog ((laidWorld os).forCall (fun _ _ => 0) ⟨#[], #[.string ⟨#[]⟩, .int .u16 0, .bool false], []⟩).memory Tryz.f7.params.toList Rows.filterHeadsSpec.vars false (#[.string ⟨#[]⟩, .int .u16 0, .bool false] : Array Value).toList 8 = some ([.lit (.string []), .lit (.int .u16 0), .lit (.bool false)], [], []) := by kernel_rfl
  exact law_lifted_row (C := Tryz.checked) (s := Rows.filterHeadsSpec) (ts := [9, 42, 4]) (W := fun p : Str × Nat × Bool × Unit => p.1.length ≤ reachBytes ∧ p.2.1 < 65536 ∧ True ∧ True) own started (by kernel_rfl) Tryz.func7
    (witness_row_at (enc := enc) (C := Tryz.checked) false (laidWorld os) #[.string ⟨#[]⟩, .int .u16 0, .bool false] rfl (by kernel_rfl) (by kernel_rfl) (by kernel_rfl)
      (OpenSpec.preRow_of_cond 8 hx (by kernel_rfl) (fun k hk => by cases hk) (by kernel_rfl) (laid_met os _)))
    laidOut full (by rw [Tryz.params7]) (by kernel_rfl) (by kernel_rfl) Tryz.underlying4 rfl (fun ds h => by match ds, h with | [d0, d1, d2], _ => rfl)
    (rdA_str Tryz.underlying9 c_str (fun _ => rfl) (rd_str Tryz.underlying9 c_str) (rdA_int Tryz.underlying42 c_u16 (fun _ => rfl) rd_u16 (rdA_bool Tryz.underlying4 c_bool (fun _ => rfl) (rd_bool Tryz.underlying4 c_bool) rdA_nil))) (fun b hb => filterHeads_ok b.1 b.2.1 b.2.2.1 (reach_str hb.1) hb.2.1 _ rfl) (fun W h ho => laid_facts h ho)
theorem filterHeads_said : Rows.FilterHeadsSaid :=
  OpenClaim.holds_of_cond 7 Tryz.f7 rfl rfl rfl rfl rfl rfl rfl ⟨rfl, rfl, rfl, rfl, rfl⟩ rfl rfl rfl rfl rfl (by kernel_rfl) Tryz.func7 (by kernel_rfl)
    (of_decide_eq_true (by kernel_rfl)) (by unfold Func.isWrapper; first | (rw [if_pos (by decide +kernel)]; kernel_rfl) | (rw [if_neg (by decide +kernel)]; exact ⟨rfl, rfl⟩))
    (fun os started H enc _ F => by rw [OpenClaim.pre_eq_preRow]; exact filterHeads_lifted os started H enc F)
theorem filterHeads_plain (f : FuncId) (fn : Func) (hf : Tryz.pinned.checked.prog.funcNamed "scullion/scullionlaw17.FilterHeads" = some f) (hfn : Tryz.pinned.checked.prog.funcs[f]? = some fn) :
    true = Tryz.pinned.checked.prog.looks [] ∧ ∀ (j : Nat) t, fn.params[j]? = some t → Tryz.pinned.checked.prog.wantsStandIn t = false := by
  obtain rfl : f = 7 := Option.some.inj ((show Tryz.prog.funcNamed "scullion/scullionlaw17.FilterHeads" = some 7 by kernel_rfl).symm.trans hf) |>.symm
  obtain rfl : fn = Tryz.f7 := (Option.some.inj (Tryz.func7.symm.trans hfn)).symm
  refine ⟨by kernel_rfl, fun j t ht => ?_⟩
  have h0 : (Tryz.f7.params.toList.all fun t => !(Tryz.prog.wantsStandIn t)) = true := by kernel_rfl
  have h1 := List.all_eq_true.1 h0 t (by simpa using Array.mem_of_getElem? ht)
  exact (by simpa using h1 : Tryz.prog.wantsStandIn t = false)
theorem filterHeads_holds : Rows.FilterHeadsCardSaid :=
  Claim7.holds_tied_plain_at .later [] _ _ _ _ filterHeads_said (fun _ h => by cases h) (by kernel_rfl) (fun _ h => by cases h) filterHeads_row_tie rfl ⟨rfl, rfl⟩ (by kernel_rfl) rfl filterHeads_plain (by kernel_rfl)

end Go.Proofs.YtiaiggbimlbkfaaGreatDoor
