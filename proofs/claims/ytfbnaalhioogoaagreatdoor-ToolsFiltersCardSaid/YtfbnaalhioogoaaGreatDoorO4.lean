/- ToolsFilters: what makes a text of a text is told as it is without files, for every argument that the row lets in, the variables laid as the program's text lays them. -/
import Derived.Test.YtfbnaalhioogoaaGreatDoorPYh
set_option linter.unusedVariables false
set_option linter.unusedSimpArgs false
namespace Go.Proofs.YtfbnaalhioogoaaGreatDoor
open Go Go.Ab
set_option maxRecDepth 100000
set_option maxHeartbeats 40000000
theorem toolsFilters_lifted (os : Os) (started : os.Started) (H : Type) (enc : TypeId × Value → H) (F : Stop.Interp) :
    ReturnsInHanded {} Tryz.checked os 6 .any ((OpenSpec.ofChange Rows.toolsFiltersSpec).preRow enc Tryz.prog Tryz.f6 Rows.toolsFiltersRow.domain false Rows.toolsFiltersRow.laid) (((OpenSpec.ofChange Rows.toolsFiltersSpec).at F).post enc Tryz.prog Tryz.f6 false true false false) := by
  have hx : DataW.whole enc Tryz.prog ((laidWorld os).forCall (fun _ _ => 0) ⟨#[], #[.slice none 0 0, .int .u8 0, .string ⟨#[]⟩], []⟩).memory Tryz.f6.params.toList Rows.toolsFiltersSpec.vars false (#[.slice none 0 0, .int .u8 0, .string ⟨#[]⟩] : Array Value).toList 8 = some ([.nil, .lit (.int .u8 0), .lit (.string [])], [], []) := by kernel_rfl
  exact law_lifted_row (C := Tryz.checked) (s := Rows.toolsFiltersSpec) (ts := [27, 5, 9]) (W := fun p : List Str × UInt8 × Str × Unit => (p.1.length ≤ 140737488355328 ∧ ∀ a ∈ p.1, a.length ≤ 140737488355328) ∧ True ∧ p.2.2.1.length ≤ reachBytes ∧ True) own started (by kernel_rfl) Tryz.func6
    (witness_row_at (enc := enc) (C := Tryz.checked) false (laidWorld os) #[.slice none 0 0, .int .u8 0, .string ⟨#[]⟩] rfl (by kernel_rfl) (by kernel_rfl) (by kernel_rfl)
      (OpenSpec.preRow_of_cond 8 hx (by kernel_rfl) (fun k hk => by cases hk) (by kernel_rfl) (laid_met os _)))
    laidOut full (by rw [Tryz.params6]) (by kernel_rfl) (by kernel_rfl) Tryz.underlying4 rfl (fun ds h => by match ds, h with | [d0, d1, d2], _ => rfl)
    (rdA_slice Tryz.underlying27 c_strs (fun _ => rfl) rd_strs (rdA_int Tryz.underlying5 c_u8 (fun _ => rfl) (rd_u8 Tryz.underlying5 c_u8) (rdA_str Tryz.underlying9 c_str (fun _ => rfl) (rd_str Tryz.underlying9 c_str) rdA_nil))) (fun b hb => filters18_ok b.1 b.2.1 b.2.2.1 hb.1.1 hb.1.2 (Nat.le_trans hb.2.2.1 (by decide)) _ rfl) (fun W h ho => laid_facts h ho)
theorem toolsFilters_closed : joinedFacts Tryz.pinned.checked.prog 6 Tryz.f6 Rows.toolsFiltersSpec Rows.toolsFiltersRow = true := by
  unfold joinedFacts
  (repeat' with_reducible refine band ?_ ?_) <;> decide +kernel
theorem toolsFilters_said : Rows.ToolsFiltersSaid :=
  OpenClaim.holds_of_cond 6 Tryz.f6 rfl rfl rfl rfl rfl rfl rfl ⟨rfl, rfl, rfl, rfl, rfl⟩ rfl rfl rfl rfl rfl (by kernel_rfl) Tryz.func6 toolsFilters_closed
    (of_decide_eq_true (by kernel_rfl)) (by unfold Func.isWrapper; first | (rw [if_pos (by decide +kernel)]; kernel_rfl) | (rw [if_neg (by decide +kernel)]; exact ⟨rfl, rfl⟩))
    (fun os started H enc _ F => by rw [OpenClaim.pre_eq_preRow]; exact toolsFilters_lifted os started H enc F)
theorem toolsFilters_plain (f : FuncId) (fn : Func) (hf : Tryz.pinned.checked.prog.funcNamed "scullion/scullionlaw18.ToolsFilters" = some f) (hfn : Tryz.pinned.checked.prog.funcs[f]? = some fn) :
    true = Tryz.pinned.checked.prog.looks [] ∧ ∀ (j : Nat) t, fn.params[j]? = some t → Tryz.pinned.checked.prog.wantsStandIn t = false := by
  obtain rfl : f = 6 := Option.some.inj ((show Tryz.prog.funcNamed "scullion/scullionlaw18.ToolsFilters" = some 6 by kernel_rfl).symm.trans hf) |>.symm
  obtain rfl : fn = Tryz.f6 := (Option.some.inj (Tryz.func6.symm.trans hfn)).symm
  refine ⟨by kernel_rfl, fun j t ht => ?_⟩
  have h0 : (Tryz.f6.params.toList.all fun t => !(Tryz.prog.wantsStandIn t)) = true := by kernel_rfl
  have h1 := List.all_eq_true.1 h0 t (by simpa using Array.mem_of_getElem? ht)
  exact (by simpa using h1 : Tryz.prog.wantsStandIn t = false)
theorem toolsFilters_holds : Rows.ToolsFiltersCardSaid :=
  Claim7.holds_tied_plain_at .later [] _ _ _ _ toolsFilters_said (fun _ h => by cases h) (by decide +kernel) (fun _ h => by cases h) toolsFilters_row_tie rfl ⟨rfl, rfl⟩ (by decide +kernel) rfl toolsFilters_plain (by decide +kernel)

end Go.Proofs.YtfbnaalhioogoaaGreatDoor
