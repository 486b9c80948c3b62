/- KernFinds: where any path leads, and which places are asked for that, is what the document says, for every argument that the row lets in, the variables laid as the program's text lays them. -/
import Derived.Test.YtmoaidkglldhcaaGreatDoorPKg
set_option linter.unusedVariables false
set_option linter.unusedSimpArgs false
namespace Go.Proofs.YtmoaidkglldhcaaGreatDoor
open Go Go.Ab
set_option maxRecDepth 100000
theorem kernFinds_lifted (os : Os) (started : os.Started) (H : Type) (enc : TypeId × Value → H) (F : Stop.Interp) :
    ReturnsInHanded {} Tryz.checked os 9 .any ((OpenSpec.ofChange Rows.kernFindsSpec).preRow enc Tryz.prog Tryz.f9 Rows.kernFindsRow.domain false Rows.kernFindsRow.laid) (((OpenSpec.ofChange Rows.kernFindsSpec).at F).post enc Tryz.prog Tryz.f9 false true false false) := by
  have hx : DataW.whole enc Tryz.prog ((laidWorld os).forCall (fun _ _ => 0) ⟨#[], #[.slice none 0 0, .int .u8 0, .string ⟨#[]⟩, .bool false], []⟩).memory Tryz.f9.params.toList Rows.kernFindsSpec.vars false (#[.slice none 0 0, .int .u8 0, .string ⟨#[]⟩, .bool false] : Array Value).toList 8 = some ([.nil, .lit (.int .u8 0), .lit (.string []), .lit (.bool false)], [], []) := by kernel_rfl
  exact law_lifted_row (C := Tryz.checked) (s := Rows.kernFindsSpec) (ts := [39, 5, 9, 4]) (W := fun p : List ActK × UInt8 × Str × Bool × Unit => p.1.length ≤ 140737488355328 ∧ True ∧ p.2.2.1.length ≤ reachBytes ∧ True ∧ True) own started (by kernel_rfl) Tryz.func9
    (witness_row_at (enc := enc) (C := Tryz.checked) false (laidWorld os) #[.slice none 0 0, .int .u8 0, .string ⟨#[]⟩, .bool false] rfl (by kernel_rfl) (by kernel_rfl) (by kernel_rfl)
      (OpenSpec.preRow_of_cond 8 hx (by kernel_rfl) (fun k hk => by cases hk) (by kernel_rfl) (laid_met os _)))
    laidOut full (by rw [Tryz.params9]) (by kernel_rfl) (by kernel_rfl) Tryz.underlying4 rfl (fun ds h => by match ds, h with | [d0, d1, d2, d3], _ => rfl)
    (rdA_slice Tryz.underlying39 c_acts (fun _ => rfl) rd_acts (rdA_int Tryz.underlying5 c_u8 (fun _ => rfl) (rd_u8 Tryz.underlying5 c_u8) (rdA_str Tryz.underlying9 c_str (fun _ => rfl) (rd_str Tryz.underlying9 c_str) (rdA_bool Tryz.underlying4 c_bool (fun _ => rfl) (rd_bool Tryz.underlying4 c_bool) rdA_nil)))) (fun b hb => finds_ok b.1 hb.1 b.2.1 b.2.2.1 b.2.2.2.1 _ rfl) (fun W h ho => laid_facts h ho)
theorem kernFinds_said : Rows.KernFindsSaid :=
  OpenClaim.holds_of_cond 9 Tryz.f9 rfl rfl rfl rfl rfl rfl rfl ⟨rfl, rfl, rfl, rfl, rfl⟩ rfl rfl rfl rfl rfl (by kernel_rfl) Tryz.func9 (by kernel_rfl)
    (of_decide_eq_true (by kernel_rfl)) (by unfold Func.isWrapper; first | (rw [if_pos (by decide +kernel)]; kernel_rfl) | (rw [if_neg (by decide +kernel)]; exact ⟨rfl, rfl⟩))
    (fun os started H enc _ F => by rw [OpenClaim.pre_eq_preRow]; exact kernFinds_lifted os started H enc F)
theorem kernFinds_plain (f : FuncId) (fn : Func) (hf : Tryz.pinned.checked.prog.funcNamed "scullion/scullionlaw06.KernFinds" = some f) (hfn : Tryz.pinned.checked.prog.funcs[f]? = some fn) :
    true = Tryz.pinned.checked.prog.looks [] ∧ ∀ (j : Nat) t, fn.params[j]? = some t → Tryz.pinned.checked.prog.wantsStandIn t = false := by
  obtain rfl : f = 9 := Option.some.inj ((show Tryz.prog.funcNamed "scullion/scullionlaw06.KernFinds" = some 9 by kernel_rfl).symm.trans hf) |>.symm
  obtain rfl : fn = Tryz.f9 := (Option.some.inj (Tryz.func9.symm.trans hfn)).symm
  refine ⟨by kernel_rfl, fun j t ht => ?_⟩
  have h0 : (Tryz.f9.params.toList.all fun t => !(Tryz.prog.wantsStandIn t)) = true := by kernel_rfl
  have h1 := List.all_eq_true.1 h0 t (by simpa using Array.mem_of_getElem? ht)
  exact (by simpa using h1 : Tryz.prog.wantsStandIn t = false)
theorem kernFinds_holds : Rows.KernFindsCardSaid :=
  Claim7.holds_tied_plain_at .later [] _ _ _ _ kernFinds_said (fun _ h => by cases h) (by kernel_rfl) (fun _ h => by cases h) kernFinds_row_tie rfl ⟨rfl, rfl⟩ (by kernel_rfl) rfl kernFinds_plain (by kernel_rfl)

end Go.Proofs.YtmoaidkglldhcaaGreatDoor
