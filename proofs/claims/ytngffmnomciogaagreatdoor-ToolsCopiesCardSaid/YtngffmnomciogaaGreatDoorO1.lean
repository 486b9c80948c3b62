/- ToolsCopies: what is copied is the same, to a new file, and is told so; what is moved is there no more, for every argument that the row lets in, the variables laid as the program's text lays them. -/
import Derived.Test.YtngffmnomciogaaGreatDoorPTg
set_option linter.unusedVariables false
set_option linter.unusedSimpArgs false
namespace Go.Proofs.YtngffmnomciogaaGreatDoor
open Go Go.Ab
set_option maxRecDepth 100000
theorem toolsCopies_lifted (os : Os) (started : os.Started) (H : Type) (enc : TypeId × Value → H) (F : Stop.Interp) :
    ReturnsInHanded {} Tryz.checked os 4 .any ((OpenSpec.ofChange Rows.toolsCopiesSpec).preRow enc Tryz.prog Tryz.f4 Rows.toolsCopiesRow.domain false Rows.toolsCopiesRow.laid) (((OpenSpec.ofChange Rows.toolsCopiesSpec).at F).post enc Tryz.prog Tryz.f4 false true false false) := by
  have hx : DataW.whole enc Tryz.prog ((laidWorld os).forCall (fun _ _ => 0) ⟨#[], #[.string ⟨#[]⟩, .string ⟨#[]⟩], []⟩).memory Tryz.f4.params.toList Rows.toolsCopiesSpec.vars false (#[.string ⟨#[]⟩, .string ⟨#[]⟩] : Array Value).toList 8 = some ([.lit (.string []), .lit (.string [])], [], []) := by kernel_rfl
  exact law_lifted_row (C := Tryz.checked) (s := Rows.toolsCopiesSpec) (ts := [9, 9]) (W := fun p : Str × Str × Unit => p.1.length ≤ reachBytes ∧ p.2.1.length ≤ reachBytes ∧ True) own started (by kernel_rfl) Tryz.func4
    (witness_row_at (enc := enc) (C := Tryz.checked) false (laidWorld os) #[.string ⟨#[]⟩, .string ⟨#[]⟩] rfl (by kernel_rfl) (by kernel_rfl) (by kernel_rfl)
      (OpenSpec.preRow_of_cond 8 hx (by kernel_rfl) (fun k hk => by cases hk) (by kernel_rfl) (laid_met os _)))
    laidOut full (by rw [Tryz.params4]) (by kernel_rfl) (by kernel_rfl) Tryz.underlying4 rfl (fun ds h => by match ds, h with | [d0, d1], _ => rfl)
    (rdA_str Tryz.underlying9 c_str (fun _ => rfl) (rd_str Tryz.underlying9 c_str) (rdA_str Tryz.underlying9 c_str (fun _ => rfl) (rd_str Tryz.underlying9 c_str) rdA_nil)) (fun b hb => copies_ok b.1 b.2.1 (Nat.le_trans hb.1 (by decide)) (Nat.le_trans hb.2.1 (by decide)) _ rfl) (fun W h ho => laid_facts h ho)
theorem toolsCopies_said : Rows.ToolsCopiesSaid :=
  OpenClaim.holds_of_cond 4 Tryz.f4 rfl rfl rfl rfl rfl rfl rfl ⟨rfl, rfl, rfl, rfl, rfl⟩ rfl rfl rfl rfl rfl (by kernel_rfl) Tryz.func4 (by kernel_rfl)
    (of_decide_eq_true (by kernel_rfl)) (by unfold Func.isWrapper; first | (rw [if_pos (by decide +kernel)]; kernel_rfl) | (rw [if_neg (by decide +kernel)]; exact ⟨rfl, rfl⟩))
    (fun os started H enc _ F => by rw [OpenClaim.pre_eq_preRow]; exact toolsCopies_lifted os started H enc F)
theorem toolsCopies_plain (f : FuncId) (fn : Func) (hf : Tryz.pinned.checked.prog.funcNamed "scullion/scullionlaw18.ToolsCopies" = some f) (hfn : Tryz.pinned.checked.prog.funcs[f]? = some fn) :
    true = Tryz.pinned.checked.prog.looks [] ∧ ∀ (j : Nat) t, fn.params[j]? = some t → Tryz.pinned.checked.prog.wantsStandIn t = false := by
  obtain rfl : f = 4 := Option.some.inj ((show Tryz.prog.funcNamed "scullion/scullionlaw18.ToolsCopies" = some 4 by kernel_rfl).symm.trans hf) |>.symm
  obtain rfl : fn = Tryz.f4 := (Option.some.inj (Tryz.func4.symm.trans hfn)).symm
  refine ⟨by kernel_rfl, fun j t ht => ?_⟩
  have h0 : (Tryz.f4.params.toList.all fun t => !(Tryz.prog.wantsStandIn t)) = true := by kernel_rfl
  have h1 := List.all_eq_true.1 h0 t (by simpa using Array.mem_of_getElem? ht)
  exact (by simpa using h1 : Tryz.prog.wantsStandIn t = false)
theorem toolsCopies_holds : Rows.ToolsCopiesCardSaid :=
  Claim7.holds_tied_plain_at .later [] _ _ _ _ toolsCopies_said (fun _ h => by cases h) (by kernel_rfl) (fun _ h => by cases h) toolsCopies_row_tie rfl ⟨rfl, rfl⟩ (by kernel_rfl) rfl toolsCopies_plain (by kernel_rfl)

end Go.Proofs.YtngffmnomciogaaGreatDoor
