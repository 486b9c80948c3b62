/- FilterAlike: lines that are alike side by side, counted or not, and sorted once, are the document's, for every argument that the row lets in, the variables laid as the program's text lays them. -/
import Derived.Test.YtiaiggbimlbkfaaGreatDoorQX
import Derived.Test.YtiaiggbimlbkfaaGreatDoorQ28
set_option linter.unusedVariables false
set_option linter.unusedSimpArgs false
namespace Go.Proofs.YtiaiggbimlbkfaaGreatDoor
open Go Go.Ab
set_option maxRecDepth 100000
theorem c_u8s : Tryz.prog.cellsOf 28 = 1 := by kernel_rfl
theorem b_u8 : Tryz.prog.bytesOf 5 = 1 := by kernel_rfl
theorem reach_u8 {l : List UInt8} (h : l.length * Tryz.prog.bytesOf 5 ≤ reachBytes) : l.length ≤ 140737488355328 := by rw [b_u8] at h; unfold reachBytes at h; omega
theorem rd_u8s : Rd Tryz.prog 28 (fun l : List UInt8 => AV.list 1 (l.map byA)) (fun l => l.length * Tryz.prog.bytesOf 5 ≤ reachBytes ∧ ∀ a ∈ l, True) :=
  c_u8 ▸ rd_slice Tryz.underlying28 c_u8s (by rw [c_u8]; decide) (rd_u8 Tryz.underlying5 c_u8)
theorem filterAlike_lifted (os : Os) (started : os.Started) (H : Type) (enc : TypeId × Value → H) (F : Stop.Interp) :
    ReturnsInHanded {} Tryz.checked os 13 .any ((OpenSpec.ofChange Rows.filterAlikeSpec).preRow enc Tryz.prog Tryz.f13 Rows.filterAlikeRow.domain false Rows.filterAlikeRow.laid) (((OpenSpec.ofChange Rows.filterAlikeSpec).at F).post enc Tryz.prog Tryz.f13 false true false false) := by
  have hx : DataW.whole enc Tryz.prog ((laidWorld os).forCall (fun _ _ => 0) ⟨#[], #[.string ⟨#[]⟩, .slice none 0 0], []⟩).memory Tryz.f13.params.toList Rows.filterAlikeSpec.vars false (#[.string ⟨#[]⟩, .slice none 0 0] : Array Value).toList 8 = some ([.lit (.string []), .nil], [], []) := by kernel_rfl
  exact law_lifted_row (C := Tryz.checked) (s := Rows.filterAlikeSpec) (ts := [9, 28]) (W := fun p : Str × List UInt8 × Unit => p.1.length ≤ reachBytes ∧ (p.2.1.length * Tryz.prog.bytesOf 5 ≤ reachBytes ∧ ∀ a ∈ p.2.1, True) ∧ True) own started (by kernel_rfl) Tryz.func13
    (witness_row_at (enc := enc) (C := Tryz.checked) false (laidWorld os) #[.string ⟨#[]⟩, .slice none 0 0] rfl (by kernel_rfl) (by kernel_rfl) (by kernel_rfl)
      (OpenSpec.preRow_of_cond 8 hx (by kernel_rfl) (fun k hk => by cases hk) (by kernel_rfl) (laid_met os _)))
    laidOut full (by rw [Tryz.params13]) (by kernel_rfl) (by kernel_rfl) Tryz.underlying4 rfl (fun ds h => by match ds, h with | [d0, d1], _ => rfl)
    (rdA_str Tryz.underlying9 c_str (fun _ => rfl) (rd_str Tryz.underlying9 c_str) (rdA_slice Tryz.underlying28 c_u8s (fun _ => rfl) rd_u8s rdA_nil)) (fun b hb => filterAlike_ok b.1 b.2.1 (reach_str hb.1) (reach_u8 hb.2.1.1) _ rfl) (fun W h ho => laid_facts h ho)
theorem filterAlike_said : Rows.FilterAlikeSaid :=
  OpenClaim.holds_of_cond 13 Tryz.f13 rfl rfl rfl rfl rfl rfl rfl ⟨rfl, rfl, rfl, rfl, rfl⟩ rfl rfl rfl rfl rfl (by kernel_rfl) Tryz.func13 (by kernel_rfl)
    (of_decide_eq_true (by kernel_rfl)) (by unfold Func.isWrapper; first | (rw [if_pos (by decide +kernel)]; kernel_rfl) | (rw [if_neg (by decide +kernel)]; exact ⟨rfl, rfl⟩))
    (fun os started H enc _ F => by rw [OpenClaim.pre_eq_preRow]; exact filterAlike_lifted os started H enc F)
theorem filterAlike_plain (f : FuncId) (fn : Func) (hf : Tryz.pinned.checked.prog.funcNamed "scullion/scullionlaw17.FilterAlike" = some f) (hfn : Tryz.pinned.checked.prog.funcs[f]? = some fn) :
    true = Tryz.pinned.checked.prog.looks [] ∧ ∀ (j : Nat) t, fn.params[j]? = some t → Tryz.pinned.checked.prog.wantsStandIn t = false := by
  obtain rfl : f = 13 := Option.some.inj ((show Tryz.prog.funcNamed "scullion/scullionlaw17.FilterAlike" = some 13 by kernel_rfl).symm.trans hf) |>.symm
  obtain rfl : fn = Tryz.f13 := (Option.some.inj (Tryz.func13.symm.trans hfn)).symm
  refine ⟨by kernel_rfl, fun j t ht => ?_⟩
  have h0 : (Tryz.f13.params.toList.all fun t => !(Tryz.prog.wantsStandIn t)) = true := by kernel_rfl
  have h1 := List.all_eq_true.1 h0 t (by simpa using Array.mem_of_getElem? ht)
  exact (by simpa using h1 : Tryz.prog.wantsStandIn t = false)
theorem filterAlike_holds : Rows.FilterAlikeCardSaid :=
  Claim7.holds_tied_plain_at .later [] _ _ _ _ filterAlike_said (fun _ h => by cases h) (by kernel_rfl) (fun _ h => by cases h) filterAlike_row_tie rfl ⟨rfl, rfl⟩ (by kernel_rfl) rfl filterAlike_plain (by kernel_rfl)

end Go.Proofs.YtiaiggbimlbkfaaGreatDoor
