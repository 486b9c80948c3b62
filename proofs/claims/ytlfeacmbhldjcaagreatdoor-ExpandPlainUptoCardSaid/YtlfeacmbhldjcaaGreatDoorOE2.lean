/- ExpandPlain: a text without anything to expand comes back as it is, where what is read is small, the variables laid as the program's text lays them. -/
import Derived.Test.YtlfeacmbhldjcaaGreatDoorPFh
set_option linter.unusedVariables false
set_option linter.unusedSimpArgs false
namespace Go.Proofs.YtlfeacmbhldjcaaGreatDoor
open Go Go.Ab
set_option maxRecDepth 100000
set_option maxHeartbeats 40000000
theorem expandPlain_lifted (os : Os) (started : os.Started) (H : Type) (enc : TypeId × Value → H) (F : Stop.Interp) :
    ReturnsInHanded {} Tryz.checked os 5 .any ((Rows.OpenSpec.upto Rows.expandPlainSpec).preRow enc Tryz.prog Tryz.f5 Rows.expandPlainUptoRow.domain false Rows.expandPlainUptoRow.laid) (((Rows.OpenSpec.upto Rows.expandPlainSpec).at F).post enc Tryz.prog Tryz.f5 false true false false) := by
  have hx : DataW.whole enc Tryz.prog ((laidWorld os).forCall (fun _ _ => 0) ⟨#[], #[.string ⟨#[]⟩, .agg #[.int .u8 0, .int .u8 0, .int .u8 0, .int .u8 0, .int .u8 0]], []⟩).memory Tryz.f5.params.toList Rows.expandPlainSpec.vars false (#[.string ⟨#[]⟩, .agg #[.int .u8 0, .int .u8 0, .int .u8 0, .int .u8 0, .int .u8 0]] : Array Value).toList 8 = some ([.lit (.string []), .agg [.lit (.int .u8 0), .lit (.int .u8 0), .lit (.int .u8 0), .lit (.int .u8 0), .lit (.int .u8 0)]], [], []) := by kernel_rfl
  exact law_lifted_cond (C := Tryz.checked) (s := Rows.expandPlainSpec) (k := Rows.uptoSmall) (ts := [9, 54]) (W := fun p : Str × Sd × Unit => p.1.length ≤ reachBytes ∧ True ∧ True) (W2 := fun p : Str × Sd × Unit => p.1.length ≤ 60000000000) own started (by kernel_rfl) Tryz.func5
    (witness_row_at (enc := enc) (C := Tryz.checked) false (laidWorld os) #[.string ⟨#[]⟩, .agg #[.int .u8 0, .int .u8 0, .int .u8 0, .int .u8 0, .int .u8 0]] rfl (by kernel_rfl) (by kernel_rfl) (by kernel_rfl)
      (OpenSpec.preRow_of_cond 8 hx (by kernel_rfl) (fun k hk => by cases hk; kernel_rfl) (by kernel_rfl) (laid_met os _)))
    laidOut full (by rw [Tryz.params5]) (by kernel_rfl) (by kernel_rfl) Tryz.underlying4 rfl (fun ds h => by match ds, h with | [d0, d1], _ => rfl)
    (rdA_str Tryz.underlying9 c_str (fun _ => rfl) (rd_str Tryz.underlying9 c_str) (rdA_struct (D := fun x : Sd => [.int .u8 x.a.toNat, .int .u8 x.b.toNat, .int .u8 x.c.toNat, .int .u8 x.d.toNat, .int .u8 x.e.toNat]) Tryz.underlying54 (fun _ => rfl) rd_sd rdA_nil)) (fun b hok hT hv hk => by obtain ⟨rest, rfl⟩ := first_str Tryz.underlying9 hok hT hv; exact short16 hk) (fun b _ h2 => plain16_ok b.1 h2 b.2.1 _ rfl) (fun W h ho => laid_facts h ho)
theorem expandPlain_closed : joinedFacts Tryz.pinned.checked.prog 5 Tryz.f5 Rows.expandPlainSpec Rows.expandPlainUptoRow = true := by
  unfold joinedFacts
  (repeat' with_reducible refine band ?_ ?_) <;> decide +kernel
theorem expandPlain_said : Rows.ExpandPlainUptoSaid :=
  OpenClaim.holds_of_cond 5 Tryz.f5 rfl rfl rfl rfl rfl rfl rfl ⟨rfl, rfl, rfl, rfl, rfl⟩ rfl rfl rfl rfl rfl (by kernel_rfl) Tryz.func5 expandPlain_closed
    (of_decide_eq_true (by kernel_rfl)) (by unfold Func.isWrapper; first | (rw [if_pos (by decide +kernel)]; kernel_rfl) | (rw [if_neg (by decide +kernel)]; exact ⟨rfl, rfl⟩))
    (fun os started H enc _ F => by rw [OpenClaim.pre_eq_preRow]; exact expandPlain_lifted os started H enc F)
theorem expandPlain_plain (f : FuncId) (fn : Func) (hf : Tryz.pinned.checked.prog.funcNamed "scullion/scullionlaw16.ExpandPlain" = some f) (hfn : Tryz.pinned.checked.prog.funcs[f]? = some fn) :
    true = Tryz.pinned.checked.prog.looks [] ∧ ∀ (j : Nat) t, fn.params[j]? = some t → Tryz.pinned.checked.prog.wantsStandIn t = false := by
  obtain rfl : f = 5 := Option.some.inj ((show Tryz.prog.funcNamed "scullion/scullionlaw16.ExpandPlain" = some 5 by kernel_rfl).symm.trans hf) |>.symm
  obtain rfl : fn = Tryz.f5 := (Option.some.inj (Tryz.func5.symm.trans hfn)).symm
  refine ⟨by kernel_rfl, fun j t ht => ?_⟩
  have h0 : (Tryz.f5.params.toList.all fun t => !(Tryz.prog.wantsStandIn t)) = true := by kernel_rfl
  have h1 := List.all_eq_true.1 h0 t (by simpa using Array.mem_of_getElem? ht)
  exact (by simpa using h1 : Tryz.prog.wantsStandIn t = false)
theorem expandPlain_holds : Rows.ExpandPlainUptoCardSaid :=
  Claim7.holds_tied_plain_at .later [] _ _ _ _ expandPlain_said (fun _ h => by cases h) (by decide +kernel) (fun _ h => by cases h) expandPlainUpto_row_tie rfl ⟨rfl, rfl⟩ (by decide +kernel) rfl expandPlain_plain (by decide +kernel)

end Go.Proofs.YtlfeacmbhldjcaaGreatDoor
