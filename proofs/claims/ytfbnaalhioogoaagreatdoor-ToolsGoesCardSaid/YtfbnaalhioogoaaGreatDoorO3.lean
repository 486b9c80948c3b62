/- ToolsGoes: what rm, rmdir and chmod do is what the document says, for every argument that the row lets in, the variables laid as the program's text lays them. -/
import Derived.Test.YtfbnaalhioogoaaGreatDoorPWg
set_option linter.unusedVariables false
set_option linter.unusedSimpArgs false
namespace Go.Proofs.YtfbnaalhioogoaaGreatDoor
open Go Go.Ab
set_option maxRecDepth 100000
set_option maxHeartbeats 40000000
theorem toolsGoes_lifted (os : Os) (started : os.Started) (H : Type) (enc : TypeId × Value → H) (F : Stop.Interp) :
    ReturnsInHanded {} Tryz.checked os 5 .any ((OpenSpec.ofChange Rows.toolsGoesSpec).preRow enc Tryz.prog Tryz.f5 Rows.toolsGoesRow.domain false Rows.toolsGoesRow.laid) (((OpenSpec.ofChange Rows.toolsGoesSpec).at F).post enc Tryz.prog Tryz.f5 false true false false) := by
  have hx : DataW.whole enc Tryz.prog ((laidWorld os).forCall (fun _ _ => 0) ⟨#[], #[.slice none 0 0, .int .u8 0, .int .u8 0, .string ⟨#[]⟩, .int .u8 0], []⟩).memory Tryz.f5.params.toList Rows.toolsGoesSpec.vars false (#[.slice none 0 0, .int .u8 0, .int .u8 0, .string ⟨#[]⟩, .int .u8 0] : Array Value).toList 8 = some ([.nil, .lit (.int .u8 0), .lit (.int .u8 0), .lit (.string []), .lit (.int .u8 0)], [], []) := by kernel_rfl
  exact law_lifted_row (C := Tryz.checked) (s := Rows.toolsGoesSpec) (ts := [22, 5, 5, 9, 5]) (W := fun p : List ActK × UInt8 × UInt8 × Str × UInt8 × Unit => (p.1.length ≤ 140737488355328 ∧ ∀ a ∈ p.1, a.raw.length ≤ 140737488355328) ∧ True ∧ True ∧ p.2.2.2.1.length ≤ reachBytes ∧ True ∧ True) own started (by kernel_rfl) Tryz.func5
    (witness_row_at (enc := enc) (C := Tryz.checked) false (laidWorld os) #[.slice none 0 0, .int .u8 0, .int .u8 0, .string ⟨#[]⟩, .int .u8 0] rfl (by kernel_rfl) (by kernel_rfl) (by kernel_rfl)
      (OpenSpec.preRow_of_cond 8 hx (by kernel_rfl) (fun k hk => by cases hk) (by kernel_rfl) (laid_met os _)))
    laidOut full (by rw [Tryz.params5]) (by kernel_rfl) (by kernel_rfl) Tryz.underlying4 rfl (fun ds h => by match ds, h with | [d0, d1, d2, d3, d4], _ => rfl)
    (rdA_slice Tryz.underlying22 c_acts (fun _ => rfl) rd_acts (rdA_int Tryz.underlying5 c_u8 (fun _ => rfl) (rd_u8 Tryz.underlying5 c_u8) (rdA_int Tryz.underlying5 c_u8 (fun _ => rfl) (rd_u8 Tryz.underlying5 c_u8) (rdA_str Tryz.underlying9 c_str (fun _ => rfl) (rd_str Tryz.underlying9 c_str) (rdA_int Tryz.underlying5 c_u8 (fun _ => rfl) (rd_u8 Tryz.underlying5 c_u8) rdA_nil))))) (fun b hb => goes_ok b.1 hb.1.1 hb.1.2 b.2.1 b.2.2.1 b.2.2.2.1 (Nat.le_trans hb.2.2.2.1 (by decide)) b.2.2.2.2.1 _ rfl) (fun W h ho => laid_facts h ho)
theorem toolsGoes_closed : joinedFacts Tryz.pinned.checked.prog 5 Tryz.f5 Rows.toolsGoesSpec Rows.toolsGoesRow = true := by
  unfold joinedFacts
  (repeat' with_reducible refine band ?_ ?_) <;> decide +kernel
theorem toolsGoes_said : Rows.ToolsGoesSaid :=
  OpenClaim.holds_of_cond 5 Tryz.f5 rfl rfl rfl rfl rfl rfl rfl ⟨rfl, rfl, rfl, rfl, rfl⟩ rfl rfl rfl rfl rfl (by kernel_rfl) Tryz.func5 toolsGoes_closed
    (of_decide_eq_true (by kernel_rfl)) (by unfold Func.isWrapper; first | (rw [if_pos (by decide +kernel)]; kernel_rfl) | (rw [if_neg (by decide +kernel)]; exact ⟨rfl, rfl⟩))
    (fun os started H enc _ F => by rw [OpenClaim.pre_eq_preRow]; exact toolsGoes_lifted os started H enc F)
theorem toolsGoes_plain (f : FuncId) (fn : Func) (hf : Tryz.pinned.checked.prog.funcNamed "scullion/scullionlaw18.ToolsGoes" = some f) (hfn : Tryz.pinned.checked.prog.funcs[f]? = some fn) :
    true = Tryz.pinned.checked.prog.looks [] ∧ ∀ (j : Nat) t, fn.params[j]? = some t → Tryz.pinned.checked.prog.wantsStandIn t = false := by
  obtain rfl : f = 5 := Option.some.inj ((show Tryz.prog.funcNamed "scullion/scullionlaw18.ToolsGoes" = some 5 by kernel_rfl).symm.trans hf) |>.symm
  obtain rfl : fn = Tryz.f5 := (Option.some.inj (Tryz.func5.symm.trans hfn)).symm
  refine ⟨by kernel_rfl, fun j t ht => ?_⟩
  have h0 : (Tryz.f5.params.toList.all fun t => !(Tryz.prog.wantsStandIn t)) = true := by kernel_rfl
  have h1 := List.all_eq_true.1 h0 t (by simpa using Array.mem_of_getElem? ht)
  exact (by simpa using h1 : Tryz.prog.wantsStandIn t = false)
theorem toolsGoes_holds : Rows.ToolsGoesCardSaid :=
  Claim7.holds_tied_plain_at .later [] _ _ _ _ toolsGoes_said (fun _ h => by cases h) (by decide +kernel) (fun _ h => by cases h) toolsGoes_row_tie rfl ⟨rfl, rfl⟩ (by decide +kernel) rfl toolsGoes_plain (by decide +kernel)

end Go.Proofs.YtfbnaalhioogoaaGreatDoor
