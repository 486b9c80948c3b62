/- KernSmall: whatever is done to few files, each answer and all places are the document's, for every argument that the row lets in, the variables laid as the program's text lays them. -/
import Derived.Test.YtmoaidkglldhcaaGreatDoorPKg
set_option linter.unusedVariables false
set_option linter.unusedSimpArgs false
namespace Go.Proofs.YtmoaidkglldhcaaGreatDoor
open Go Go.Ab
set_option maxRecDepth 100000
theorem kernSmall_lifted (os : Os) (started : os.Started) (H : Type) (enc : TypeId × Value → H) (F : Stop.Interp) :
    ReturnsInHanded {} Tryz.checked os 4 .any ((OpenSpec.ofChange Rows.kernSmallSpec).preRow enc Tryz.prog Tryz.f4 Rows.kernSmallRow.domain false Rows.kernSmallRow.laid) (((OpenSpec.ofChange Rows.kernSmallSpec).at F).post enc Tryz.prog Tryz.f4 false true false false) := by
  have hx : DataW.whole enc Tryz.prog ((laidWorld os).forCall (fun _ _ => 0) ⟨#[], #[.slice none 0 0], []⟩).memory Tryz.f4.params.toList Rows.kernSmallSpec.vars false (#[.slice none 0 0] : Array Value).toList 8 = some ([.nil], [], []) := by kernel_rfl
  exact law_lifted_row (C := Tryz.checked) (s := Rows.kernSmallSpec) (ts := [39]) (W := fun p : List ActK × Unit => p.1.length ≤ 140737488355328 ∧ True) own started (by kernel_rfl) Tryz.func4
    (witness_row_at (enc := enc) (C := Tryz.checked) false (laidWorld os) #[.slice none 0 0] rfl (by kernel_rfl) (by kernel_rfl) (by kernel_rfl)
      (OpenSpec.preRow_of_cond 8 hx (by kernel_rfl) (fun k hk => by cases hk) (by kernel_rfl) (laid_met os _)))
    laidOut full (by rw [Tryz.params4]) (by kernel_rfl) (by kernel_rfl) Tryz.underlying4 rfl (fun ds h => by match ds, h with | [d0], _ => rfl)
    (rdA_slice Tryz.underlying39 c_acts (fun _ => rfl) rd_acts rdA_nil) (fun b hb => small_ok b.1 hb.1 _ rfl) (fun W h ho => laid_facts h ho)
theorem kernSmall_said : Rows.KernSmallSaid :=
  OpenClaim.holds_of_cond 4 Tryz.f4 rfl rfl rfl rfl rfl rfl rfl ⟨rfl, rfl, rfl, rfl, rfl⟩ rfl rfl rfl rfl rfl (by kernel_rfl) Tryz.func4 (by kernel_rfl)
    (of_decide_eq_true (by kernel_rfl)) (by unfold Func.isWrapper; first | (rw [if_pos (by decide +kernel)]; kernel_rfl) | (rw [if_neg (by decide +kernel)]; exact ⟨rfl, rfl⟩))
    (fun os started H enc _ F => by rw [OpenClaim.pre_eq_preRow]; exact kernSmall_lifted os started H enc F)
theorem kernSmall_plain (f : FuncId) (fn : Func) (hf : Tryz.pinned.checked.prog.funcNamed "scullion/scullionlaw06.KernSmall" = some f) (hfn : Tryz.pinned.checked.prog.funcs[f]? = some fn) :
    true = Tryz.pinned.checked.prog.looks [] ∧ ∀ (j : Nat) t, fn.params[j]? = some t → Tryz.pinned.checked.prog.wantsStandIn t = false := by
  obtain rfl : f = 4 := Option.some.inj ((show Tryz.prog.funcNamed "scullion/scullionlaw06.KernSmall" = some 4 by kernel_rfl).symm.trans hf) |>.symm
  obtain rfl : fn = Tryz.f4 := (Option.some.inj (Tryz.func4.symm.trans hfn)).symm
  refine ⟨by kernel_rfl, fun j t ht => ?_⟩
  have h0 : (Tryz.f4.params.toList.all fun t => !(Tryz.prog.wantsStandIn t)) = true := by kernel_rfl
  have h1 := List.all_eq_true.1 h0 t (by simpa using Array.mem_of_getElem? ht)
  exact (by simpa using h1 : Tryz.prog.wantsStandIn t = false)
theorem kernSmall_holds : Rows.KernSmallCardSaid :=
  Claim7.holds_tied_plain_at .later [] _ _ _ _ kernSmall_said (fun _ h => by cases h) (by kernel_rfl) (fun _ h => by cases h) kernSmall_row_tie rfl ⟨rfl, rfl⟩ (by kernel_rfl) rfl kernSmall_plain (by kernel_rfl)

end Go.Proofs.YtmoaidkglldhcaaGreatDoor
