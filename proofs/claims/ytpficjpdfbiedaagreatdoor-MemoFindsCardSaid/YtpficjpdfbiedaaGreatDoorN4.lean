/- MemoFinds: which of any entries is found is what the document says, for every argument that the row lets in, the variables laid as the program's text lays them. -/
import Derived.Test.YtpficjpdfbiedaaGreatDoorPOg
set_option linter.unusedVariables false
set_option linter.unusedSimpArgs false
namespace Go.Proofs.YtpficjpdfbiedaaGreatDoor
open Go Go.Ab
set_option maxRecDepth 100000
theorem memoFinds_lifted (os : Os) (started : os.Started) (H : Type) (enc : TypeId × Value → H) (F : Stop.Interp) :
    ReturnsInHanded {} Tryz.checked os 6 .any ((OpenSpec.ofChange Rows.memoFindsSpec).preRow enc Tryz.prog Tryz.f6 Rows.memoFindsRow.domain false Rows.memoFindsRow.laid) (((OpenSpec.ofChange Rows.memoFindsSpec).at F).post enc Tryz.prog Tryz.f6 false true false false) := by
  have hx : DataW.whole enc Tryz.prog ((laidWorld os).forCall (fun _ _ => 0) ⟨#[], #[.slice none 0 0, .slice none 0 0, .string ⟨#[]⟩, .int .u8 0], []⟩).memory Tryz.f6.params.toList Rows.memoFindsSpec.vars false (#[.slice none 0 0, .slice none 0 0, .string ⟨#[]⟩, .int .u8 0] : Array Value).toList 8 = some ([.nil, .nil, .lit (.string []), .lit (.int .u8 0)], [], []) := by kernel_rfl
  exact law_lifted_row (C := Tryz.checked) (s := Rows.memoFindsSpec) (ts := [39, 40, 9, 5]) (W := fun p : List ActK × List Mm × Str × UInt8 × Unit => p.1.length ≤ 140737488355328 ∧ (p.2.1.length ≤ 140737488355328 ∧ ∀ m ∈ p.2.1, m.in) ∧ p.2.2.1.length ≤ reachBytes ∧ True ∧ True) own started (by kernel_rfl) Tryz.func6
    (witness_row_at (enc := enc) (C := Tryz.checked) false (laidWorld os) #[.slice none 0 0, .slice none 0 0, .string ⟨#[]⟩, .int .u8 0] rfl (by kernel_rfl) (by kernel_rfl) (by kernel_rfl)
      (OpenSpec.preRow_of_cond 8 hx (by kernel_rfl) (fun k hk => by cases hk) (by kernel_rfl) (laid_met os _)))
    laidOut full (by rw [Tryz.params6]) (by kernel_rfl) (by kernel_rfl) Tryz.underlying4 rfl (fun ds h => by match ds, h with | [d0, d1, d2, d3], _ => rfl)
    (rdA_slice Tryz.underlying39 c_acts (fun _ => rfl) rd_acts (rdA_slice Tryz.underlying40 c_mms (fun _ => rfl) rd_mms (rdA_str Tryz.underlying9 c_str (fun _ => rfl) (rd_str Tryz.underlying9 c_str) (rdA_int Tryz.underlying5 c_u8 (fun _ => rfl) (rd_u8 Tryz.underlying5 c_u8) rdA_nil)))) (fun b hb => finds19_ok b.1 hb.1 b.2.1 hb.2.1.1 hb.2.1.2 b.2.2.1 b.2.2.2.1 _ rfl) (fun W h ho => laid_facts h ho)
theorem memoFinds_said : Rows.MemoFindsSaid :=
  OpenClaim.holds_of_cond 6 Tryz.f6 rfl rfl rfl rfl rfl rfl rfl ⟨rfl, rfl, rfl, rfl, rfl⟩ rfl rfl rfl rfl rfl (by kernel_rfl) Tryz.func6 (by kernel_rfl)
    (of_decide_eq_true (by kernel_rfl)) (by unfold Func.isWrapper; first | (rw [if_pos (by decide +kernel)]; kernel_rfl) | (rw [if_neg (by decide +kernel)]; exact ⟨rfl, rfl⟩))
    (fun os started H enc _ F => by rw [OpenClaim.pre_eq_preRow]; exact memoFinds_lifted os started H enc F)
theorem memoFinds_plain (f : FuncId) (fn : Func) (hf : Tryz.pinned.checked.prog.funcNamed "scullion/scullionlaw19.MemoFinds" = some f) (hfn : Tryz.pinned.checked.prog.funcs[f]? = some fn) :
    true = Tryz.pinned.checked.prog.looks [] ∧ ∀ (j : Nat) t, fn.params[j]? = some t → Tryz.pinned.checked.prog.wantsStandIn t = false := by
  obtain rfl : f = 6 := Option.some.inj ((show Tryz.prog.funcNamed "scullion/scullionlaw19.MemoFinds" = some 6 by kernel_rfl).symm.trans hf) |>.symm
  obtain rfl : fn = Tryz.f6 := (Option.some.inj (Tryz.func6.symm.trans hfn)).symm
  refine ⟨by kernel_rfl, fun j t ht => ?_⟩
  have h0 : (Tryz.f6.params.toList.all fun t => !(Tryz.prog.wantsStandIn t)) = true := by kernel_rfl
  have h1 := List.all_eq_true.1 h0 t (by simpa using Array.mem_of_getElem? ht)
  exact (by simpa using h1 : Tryz.prog.wantsStandIn t = false)
theorem memoFinds_holds : Rows.MemoFindsCardSaid :=
  Claim7.holds_tied_plain_at .later [] _ _ _ _ memoFinds_said (fun _ h => by cases h) (by kernel_rfl) (fun _ h => by cases h) memoFinds_row_tie rfl ⟨rfl, rfl⟩ (by kernel_rfl) rfl memoFinds_plain (by kernel_rfl)

end Go.Proofs.YtpficjpdfbiedaaGreatDoor
