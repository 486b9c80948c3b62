/- ExpandQuoted: what stands in quotes comes back as it is, each argument a field of its own, for every argument that the row lets in, the variables laid as the program's text lays them. -/
import Derived.Test.YtlfeacmbhldjcaaGreatDoorPEh
set_option linter.unusedVariables false
set_option linter.unusedSimpArgs false
namespace Go.Proofs.YtlfeacmbhldjcaaGreatDoor
open Go Go.Ab
set_option maxRecDepth 100000
set_option maxHeartbeats 40000000
theorem expandQuoted_lifted (os : Os) (started : os.Started) (H : Type) (enc : TypeId × Value → H) (F : Stop.Interp) :
    ReturnsInHanded {} Tryz.checked os 4 .any ((OpenSpec.ofChange Rows.expandQuotedSpec).preRow enc Tryz.prog Tryz.f4 Rows.expandQuotedRow.domain false Rows.expandQuotedRow.laid) (((OpenSpec.ofChange Rows.expandQuotedSpec).at F).post enc Tryz.prog Tryz.f4 false true false false) := by
  have hx : DataW.whole enc Tryz.prog ((laidWorld os).forCall (fun _ _ => 0) ⟨#[], #[.string ⟨#[]⟩, .slice none 0 0], []⟩).memory Tryz.f4.params.toList Rows.expandQuotedSpec.vars false (#[.string ⟨#[]⟩, .slice none 0 0] : Array Value).toList 8 = some ([.lit (.string []), .nil], [], []) := by kernel_rfl
  exact law_lifted_row (C := Tryz.checked) (s := Rows.expandQuotedSpec) (ts := [9, 27]) (W := fun p : Str × List Str × Unit => p.1.length ≤ reachBytes ∧ (p.2.1.length ≤ 140737488355328 ∧ ∀ a ∈ p.2.1, a.length ≤ 140737488355328) ∧ True) own started (by kernel_rfl) Tryz.func4
    (witness_row_at (enc := enc) (C := Tryz.checked) false (laidWorld os) #[.string ⟨#[]⟩, .slice none 0 0] rfl (by kernel_rfl) (by kernel_rfl) (by kernel_rfl)
      (OpenSpec.preRow_of_cond 8 hx (by kernel_rfl) (fun k hk => by cases hk) (by kernel_rfl) (laid_met os _)))
    laidOut full (by rw [Tryz.params4]) (by kernel_rfl) (by kernel_rfl) Tryz.underlying4 rfl (fun ds h => by match ds, h with | [d0, d1], _ => rfl)
    (rdA_str Tryz.underlying9 c_str (fun _ => rfl) (rd_str Tryz.underlying9 c_str) (rdA_slice Tryz.underlying27 c_strs (fun _ => rfl) rd_strs rdA_nil)) (fun b hb => quoted_ok b.1 (Nat.le_trans hb.1 (by decide)) b.2.1 hb.2.1.1 hb.2.1.2 _ rfl) (fun W h ho => laid_facts h ho)
theorem expandQuoted_closed : joinedFacts Tryz.pinned.checked.prog 4 Tryz.f4 Rows.expandQuotedSpec Rows.expandQuotedRow = true := by
  unfold joinedFacts
  (repeat' with_reducible refine band ?_ ?_) <;> decide +kernel
theorem expandQuoted_said : Rows.ExpandQuotedSaid :=
  OpenClaim.holds_of_cond 4 Tryz.f4 rfl rfl rfl rfl rfl rfl rfl ⟨rfl, rfl, rfl, rfl, rfl⟩ rfl rfl rfl rfl rfl (by kernel_rfl) Tryz.func4 expandQuoted_closed
    (of_decide_eq_true (by kernel_rfl)) (by unfold Func.isWrapper; first | (rw [if_pos (by decide +kernel)]; kernel_rfl) | (rw [if_neg (by decide +kernel)]; exact ⟨rfl, rfl⟩))
    (fun os started H enc _ F => by rw [OpenClaim.pre_eq_preRow]; exact expandQuoted_lifted os started H enc F)
theorem expandQuoted_plain (f : FuncId) (fn : Func) (hf : Tryz.pinned.checked.prog.funcNamed "scullion/scullionlaw16.ExpandQuoted" = some f) (hfn : Tryz.pinned.checked.prog.funcs[f]? = some fn) :
    true = Tryz.pinned.checked.prog.looks [] ∧ ∀ (j : Nat) t, fn.params[j]? = some t → Tryz.pinned.checked.prog.wantsStandIn t = false := by
  obtain rfl : f = 4 := Option.some.inj ((show Tryz.prog.funcNamed "scullion/scullionlaw16.ExpandQuoted" = some 4 by kernel_rfl).symm.trans hf) |>.symm
  obtain rfl : fn = Tryz.f4 := (Option.some.inj (Tryz.func4.symm.trans hfn)).symm
  refine ⟨by kernel_rfl, fun j t ht => ?_⟩
  have h0 : (Tryz.f4.params.toList.all fun t => !(Tryz.prog.wantsStandIn t)) = true := by kernel_rfl
  have h1 := List.all_eq_true.1 h0 t (by simpa using Array.mem_of_getElem? ht)
  exact (by simpa using h1 : Tryz.prog.wantsStandIn t = false)
theorem expandQuoted_holds : Rows.ExpandQuotedCardSaid :=
  Claim7.holds_tied_plain_at .later [] _ _ _ _ expandQuoted_said (fun _ h => by cases h) (by decide +kernel) (fun _ h => by cases h) expandQuoted_row_tie rfl ⟨rfl, rfl⟩ (by decide +kernel) rfl expandQuoted_plain (by decide +kernel)

end Go.Proofs.YtlfeacmbhldjcaaGreatDoor
