/- KernLinks: links that lead to one another, more than may be, lead where the document says, for every argument that the row lets in, the variables laid as the program's text lays them. -/
import Derived.Test.YtmoaidkglldhcaaGreatDoorPKg
set_option linter.unusedVariables false
set_option linter.unusedSimpArgs false
namespace Go.Proofs.YtmoaidkglldhcaaGreatDoor
open Go Go.Ab
set_option maxRecDepth 100000
theorem kernLinks_lifted (os : Os) (started : os.Started) (H : Type) (enc : TypeId × Value → H) (F : Stop.Interp) :
    ReturnsInHanded {} Tryz.checked os 3 .any ((OpenSpec.ofChange Rows.kernLinksSpec).preRow enc Tryz.prog Tryz.f3 Rows.kernLinksRow.domain false Rows.kernLinksRow.laid) (((OpenSpec.ofChange Rows.kernLinksSpec).at F).post enc Tryz.prog Tryz.f3 false true false false) := by
  have hx : DataW.whole enc Tryz.prog ((laidWorld os).forCall (fun _ _ => 0) ⟨#[], #[.int .u8 0, .bool false, .bool false], []⟩).memory Tryz.f3.params.toList Rows.kernLinksSpec.vars false (#[.int .u8 0, .bool false, .bool false] : Array Value).toList 8 = some ([.lit (.int .u8 0), .lit (.bool false), .lit (.bool false)], [], []) := by kernel_rfl
  exact law_lifted_row (C := Tryz.checked) (s := Rows.kernLinksSpec) (ts := [5, 4, 4]) (W := fun p : UInt8 × Bool × Bool × Unit => True ∧ True ∧ True ∧ True) own started (by kernel_rfl) Tryz.func3
    (witness_row_at (enc := enc) (C := Tryz.checked) false (laidWorld os) #[.int .u8 0, .bool false, .bool false] rfl (by kernel_rfl) (by kernel_rfl) (by kernel_rfl)
      (OpenSpec.preRow_of_cond 8 hx (by kernel_rfl) (fun k hk => by cases hk) (by kernel_rfl) (laid_met os _)))
    laidOut full (by rw [Tryz.params3]) (by kernel_rfl) (by kernel_rfl) Tryz.underlying4 rfl (fun ds h => by match ds, h with | [d0, d1, d2], _ => rfl)
    (rdA_int Tryz.underlying5 c_u8 (fun _ => rfl) (rd_u8 Tryz.underlying5 c_u8) (rdA_bool Tryz.underlying4 c_bool (fun _ => rfl) (rd_bool Tryz.underlying4 c_bool) (rdA_bool Tryz.underlying4 c_bool (fun _ => rfl) (rd_bool Tryz.underlying4 c_bool) rdA_nil))) (fun b hb => links_ok b.1 b.2.1 b.2.2.1 _ rfl) (fun W h ho => laid_facts h ho)
theorem kernLinks_said : Rows.KernLinksSaid :=
  OpenClaim.holds_of_cond 3 Tryz.f3 rfl rfl rfl rfl rfl rfl rfl ⟨rfl, rfl, rfl, rfl, rfl⟩ rfl rfl rfl rfl rfl (by kernel_rfl) Tryz.func3 (by kernel_rfl)
    (of_decide_eq_true (by kernel_rfl)) (by unfold Func.isWrapper; first | (rw [if_pos (by decide +kernel)]; kernel_rfl) | (rw [if_neg (by decide +kernel)]; exact ⟨rfl, rfl⟩))
    (fun os started H enc _ F => by rw [OpenClaim.pre_eq_preRow]; exact kernLinks_lifted os started H enc F)
theorem kernLinks_plain (f : FuncId) (fn : Func) (hf : Tryz.pinned.checked.prog.funcNamed "scullion/scullionlaw06.KernLinks" = some f) (hfn : Tryz.pinned.checked.prog.funcs[f]? = some fn) :
    true = Tryz.pinned.checked.prog.looks [] ∧ ∀ (j : Nat) t, fn.params[j]? = some t → Tryz.pinned.checked.prog.wantsStandIn t = false := by
  obtain rfl : f = 3 := Option.some.inj ((show Tryz.prog.funcNamed "scullion/scullionlaw06.KernLinks" = some 3 by kernel_rfl).symm.trans hf) |>.symm
  obtain rfl : fn = Tryz.f3 := (Option.some.inj (Tryz.func3.symm.trans hfn)).symm
  refine ⟨by kernel_rfl, fun j t ht => ?_⟩
  have h0 : (Tryz.f3.params.toList.all fun t => !(Tryz.prog.wantsStandIn t)) = true := by kernel_rfl
  have h1 := List.all_eq_true.1 h0 t (by simpa using Array.mem_of_getElem? ht)
  exact (by simpa using h1 : Tryz.prog.wantsStandIn t = false)
theorem kernLinks_holds : Rows.KernLinksCardSaid :=
  Claim7.holds_tied_plain_at .later [] _ _ _ _ kernLinks_said (fun _ h => by cases h) (by kernel_rfl) (fun _ h => by cases h) kernLinks_row_tie rfl ⟨rfl, rfl⟩ (by kernel_rfl) rfl kernLinks_plain (by kernel_rfl)

end Go.Proofs.YtmoaidkglldhcaaGreatDoor
