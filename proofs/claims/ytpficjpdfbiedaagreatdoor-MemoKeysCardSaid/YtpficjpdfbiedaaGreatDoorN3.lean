/- MemoKeys: the key of anything is the document's, for every argument that the row lets in, the variables laid as the program's text lays them. -/
import Derived.Test.YtpficjpdfbiedaaGreatDoorPNe
set_option linter.unusedVariables false
set_option linter.unusedSimpArgs false
namespace Go.Proofs.YtpficjpdfbiedaaGreatDoor
open Go Go.Ab
set_option maxRecDepth 100000
theorem memoKeys_lifted (os : Os) (started : os.Started) (H : Type) (enc : TypeId × Value → H) (F : Stop.Interp) :
    ReturnsInHanded {} Tryz.checked os 3 .any ((OpenSpec.ofChange Rows.memoKeysSpec).preRow enc Tryz.prog Tryz.f3 Rows.memoKeysRow.domain false Rows.memoKeysRow.laid) (((OpenSpec.ofChange Rows.memoKeysSpec).at F).post enc Tryz.prog Tryz.f3 false true false false) := by
  have hx : DataW.whole enc Tryz.prog ((laidWorld os).forCall (fun _ _ => 0) ⟨#[], #[.slice none 0 0, .slice none 0 0, .string ⟨#[]⟩, .int .i64 0, .string ⟨#[]⟩], []⟩).memory Tryz.f3.params.toList Rows.memoKeysSpec.vars false (#[.slice none 0 0, .slice none 0 0, .string ⟨#[]⟩, .int .i64 0, .string ⟨#[]⟩] : Array Value).toList 8 = some ([.nil, .nil, .lit (.string []), .lit (.int .i64 0), .lit (.string [])], [], []) := by kernel_rfl
  exact law_lifted_row (C := Tryz.checked) (s := Rows.memoKeysSpec) (ts := [22, 22, 9, 3, 9]) (W := fun p : List Str × List Str × Str × Int × Str × Unit => (p.1.length ≤ 140737488355328 ∧ ∀ t ∈ p.1, t.length ≤ 140737488355328) ∧ (p.2.1.length ≤ 140737488355328 ∧ ∀ t ∈ p.2.1, t.length ≤ 140737488355328) ∧ p.2.2.1.length ≤ reachBytes ∧ (Lit.int IntKind.i64 p.2.2.2.1).wf = true ∧ p.2.2.2.2.1.length ≤ reachBytes ∧ True) own started (by kernel_rfl) Tryz.func3
    (witness_row_at (enc := enc) (C := Tryz.checked) false (laidWorld os) #[.slice none 0 0, .slice none 0 0, .string ⟨#[]⟩, .int .i64 0, .string ⟨#[]⟩] rfl (by kernel_rfl) (by kernel_rfl) (by kernel_rfl)
      (OpenSpec.preRow_of_cond 8 hx (by kernel_rfl) (fun k hk => by cases hk) (by kernel_rfl) (laid_met os _)))
    laidOut full (by rw [Tryz.params3]) (by kernel_rfl) (by kernel_rfl) Tryz.underlying4 rfl (fun ds h => by match ds, h with | [d0, d1, d2, d3, d4], _ => rfl)
    (rdA_slice Tryz.underlying22 c_strs (fun _ => rfl) rd_strs (rdA_slice Tryz.underlying22 c_strs (fun _ => rfl) rd_strs (rdA_str Tryz.underlying9 c_str (fun _ => rfl) (rd_str Tryz.underlying9 c_str) (rdA_int Tryz.underlying3 c_int (fun _ => rfl) (rd_int Tryz.underlying3 c_int) (rdA_str Tryz.underlying9 c_str (fun _ => rfl) (rd_str Tryz.underlying9 c_str) rdA_nil))))) (fun b hb => keys_ok b.1 b.2.1 b.2.2.1 b.2.2.2.1 b.2.2.2.2.1 hb.1.1 hb.1.2 hb.2.1.1 hb.2.1.2 (Nat.le_trans hb.2.2.1 (by decide)) (Nat.le_trans hb.2.2.2.2.1 (by decide)) (wf64m hb.2.2.2.1) _ rfl) (fun W h ho => laid_facts h ho)
theorem memoKeys_said : Rows.MemoKeysSaid :=
  OpenClaim.holds_of_cond 3 Tryz.f3 rfl rfl rfl rfl rfl rfl rfl ⟨rfl, rfl, rfl, rfl, rfl⟩ rfl rfl rfl rfl rfl (by kernel_rfl) Tryz.func3 (by kernel_rfl)
    (of_decide_eq_true (by kernel_rfl)) (by unfold Func.isWrapper; first | (rw [if_pos (by decide +kernel)]; kernel_rfl) | (rw [if_neg (by decide +kernel)]; exact ⟨rfl, rfl⟩))
    (fun os started H enc _ F => by rw [OpenClaim.pre_eq_preRow]; exact memoKeys_lifted os started H enc F)
theorem memoKeys_plain (f : FuncId) (fn : Func) (hf : Tryz.pinned.checked.prog.funcNamed "scullion/scullionlaw19.MemoKeys" = some f) (hfn : Tryz.pinned.checked.prog.funcs[f]? = some fn) :
    true = Tryz.pinned.checked.prog.looks [] ∧ ∀ (j : Nat) t, fn.params[j]? = some t → Tryz.pinned.checked.prog.wantsStandIn t = false := by
  obtain rfl : f = 3 := Option.some.inj ((show Tryz.prog.funcNamed "scullion/scullionlaw19.MemoKeys" = some 3 by kernel_rfl).symm.trans hf) |>.symm
  obtain rfl : fn = Tryz.f3 := (Option.some.inj (Tryz.func3.symm.trans hfn)).symm
  refine ⟨by kernel_rfl, fun j t ht => ?_⟩
  have h0 : (Tryz.f3.params.toList.all fun t => !(Tryz.prog.wantsStandIn t)) = true := by kernel_rfl
  have h1 := List.all_eq_true.1 h0 t (by simpa using Array.mem_of_getElem? ht)
  exact (by simpa using h1 : Tryz.prog.wantsStandIn t = false)
theorem memoKeys_holds : Rows.MemoKeysCardSaid :=
  Claim7.holds_tied_plain_at .later [] _ _ _ _ memoKeys_said (fun _ h => by cases h) (by kernel_rfl) (fun _ h => by cases h) memoKeys_row_tie rfl ⟨rfl, rfl⟩ (by kernel_rfl) rfl memoKeys_plain (by kernel_rfl)

end Go.Proofs.YtpficjpdfbiedaaGreatDoor
