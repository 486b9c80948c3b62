/- KernPlays: whatever is done to files, each answer, all places and what was touched are the document's, for every argument that the row lets in, the variables laid as the program's text lays them. -/
import Derived.Test.YtmoaidkglldhcaaGreatDoorPKg
set_option linter.unusedVariables false
set_option linter.unusedSimpArgs false
namespace Go.Proofs.YtmoaidkglldhcaaGreatDoor
open Go Go.Ab
set_option maxRecDepth 100000
theorem kernPlays_lifted (os : Os) (started : os.Started) (H : Type) (enc : TypeId × Value → H) (F : Stop.Interp) :
    ReturnsInHanded {} Tryz.checked os 10 .any ((OpenSpec.ofChange Rows.kernPlaysSpec).preRow enc Tryz.prog Tryz.f10 Rows.kernPlaysRow.domain false Rows.kernPlaysRow.laid) (((OpenSpec.ofChange Rows.kernPlaysSpec).at F).post enc Tryz.prog Tryz.f10 false true false false) := by
  have hx : DataW.whole enc Tryz.prog ((laidWorld os).forCall (fun _ _ => 0) ⟨#[], #[.int .i64 0, .slice none 0 0], []⟩).memory Tryz.f10.params.toList Rows.kernPlaysSpec.vars false (#[.int .i64 0, .slice none 0 0] : Array Value).toList 8 = some ([.lit (.int .i64 0), .nil], [], []) := by kernel_rfl
  exact law_lifted_row (C := Tryz.checked) (s := Rows.kernPlaysSpec) (ts := [3, 39]) (W := fun p : Int × List ActK × Unit => (Lit.int IntKind.i64 p.1).wf = true ∧ p.2.1.length ≤ 140737488355328 ∧ True) own started (by kernel_rfl) Tryz.func10
    (witness_row_at (enc := enc) (C := Tryz.checked) false (laidWorld os) #[.int .i64 0, .slice none 0 0] rfl (by kernel_rfl) (by kernel_rfl) (by kernel_rfl)
      (OpenSpec.preRow_of_cond 8 hx (by kernel_rfl) (fun k hk => by cases hk) (by kernel_rfl) (laid_met os _)))
    laidOut full (by rw [Tryz.params10]) (by kernel_rfl) (by kernel_rfl) Tryz.underlying4 rfl (fun ds h => by match ds, h with | [d0, d1], _ => rfl)
    (rdA_int Tryz.underlying3 c_int (fun _ => rfl) (rd_int Tryz.underlying3 c_int) (rdA_slice Tryz.underlying39 c_acts (fun _ => rfl) rd_acts rdA_nil)) (fun b hb => plays6_ok b.1 b.2.1 hb.2.1 _ rfl) (fun W h ho => laid_facts h ho)
theorem kernPlays_said : Rows.KernPlaysSaid :=
  OpenClaim.holds_of_cond 10 Tryz.f10 rfl rfl rfl rfl rfl rfl rfl ⟨rfl, rfl, rfl, rfl, rfl⟩ rfl rfl rfl rfl rfl (by kernel_rfl) Tryz.func10 (by kernel_rfl)
    (of_decide_eq_true (by kernel_rfl)) (by unfold Func.isWrapper; first | (rw [if_pos (by decide +kernel)]; kernel_rfl) | (rw [if_neg (by decide +kernel)]; exact ⟨rfl, rfl⟩))
    (fun os started H enc _ F => by rw [OpenClaim.pre_eq_preRow]; exact kernPlays_lifted os started H enc F)
theorem kernPlays_plain (f : FuncId) (fn : Func) (hf : Tryz.pinned.checked.prog.funcNamed "scullion/scullionlaw06.KernPlays" = some f) (hfn : Tryz.pinned.checked.prog.funcs[f]? = some fn) :
    true = Tryz.pinned.checked.prog.looks [] ∧ ∀ (j : Nat) t, fn.params[j]? = some t → Tryz.pinned.checked.prog.wantsStandIn t = false := by
  obtain rfl : f = 10 := Option.some.inj ((show Tryz.prog.funcNamed "scullion/scullionlaw06.KernPlays" = some 10 by kernel_rfl).symm.trans hf) |>.symm
  obtain rfl : fn = Tryz.f10 := (Option.some.inj (Tryz.func10.symm.trans hfn)).symm
  refine ⟨by kernel_rfl, fun j t ht => ?_⟩
  have h0 : (Tryz.f10.params.toList.all fun t => !(Tryz.prog.wantsStandIn t)) = true := by kernel_rfl
  have h1 := List.all_eq_true.1 h0 t (by simpa using Array.mem_of_getElem? ht)
  exact (by simpa using h1 : Tryz.prog.wantsStandIn t = false)
theorem kernPlays_holds : Rows.KernPlaysCardSaid :=
  Claim7.holds_tied_plain_at .later [] _ _ _ _ kernPlays_said (fun _ h => by cases h) (by kernel_rfl) (fun _ h => by cases h) kernPlays_row_tie rfl ⟨rfl, rfl⟩ (by kernel_rfl) rfl kernPlays_plain (by kernel_rfl)

end Go.Proofs.YtmoaidkglldhcaaGreatDoor
