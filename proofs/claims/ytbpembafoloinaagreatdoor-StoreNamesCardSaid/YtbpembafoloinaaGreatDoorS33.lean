/- StoreNames: the names below any place, among any places, and all places, are the document's, for every argument that the row lets in, the variables laid as the program's text lays them. -/
import Derived.Test.YtbpembafoloinaaGreatDoorSX
import Derived.Test.YtbpembafoloinaaGreatDoorZ9
set_option linter.unusedVariables false
set_option linter.unusedSimpArgs false
namespace Go.Proofs.YtbpembafoloinaaGreatDoor
open Go Go.Ab
set_option maxRecDepth 100000
theorem c_str : Tryz.prog.cellsOf 9 = 1 := by kernel_rfl
theorem b_str : Tryz.prog.bytesOf 9 = 16 := by kernel_rfl
theorem c_strs : Tryz.prog.cellsOf 22 = 1 := by kernel_rfl
theorem reach_str {s : Str} (h : s.length ≤ reachBytes) : s.length ≤ 140737488355328 := by unfold reachBytes at h; omega
theorem rd_strs : Rd Tryz.prog 22 (fun l : List Str => .list 1 (l.map AV.str)) (fun l => l.length ≤ 140737488355328 ∧ ∀ s ∈ l, s.length ≤ 140737488355328) :=
  (rd_slice Tryz.underlying22 c_strs (by rw [c_str]; decide) (rd_str Tryz.underlying9 c_str)).map id (fun _ _ => by rw [c_str]; rfl) (fun _ => c_strs.symm) (fun l h => ⟨by
    have h1 := h.1
    rw [b_str] at h1
    unfold reachBytes at h1
    show l.length ≤ _
    omega, fun s hs => reach_str (h.2 s hs)⟩)
theorem storeNames_lifted (os : Os) (started : os.Started) (H : Type) (enc : TypeId × Value → H) (F : Stop.Interp) :
    ReturnsInHanded {} Tryz.checked os 3 .any ((OpenSpec.ofChange Rows.storeNamesSpec).preRow enc Tryz.prog Tryz.f3 Rows.storeNamesRow.domain false Rows.storeNamesRow.laid) (((OpenSpec.ofChange Rows.storeNamesSpec).at F).post enc Tryz.prog Tryz.f3 false true false false) := by
  have hx : DataW.whole enc Tryz.prog ((laidWorld os).forCall (fun _ _ => 0) ⟨#[], #[.slice none 0 0, .string ⟨#[]⟩], []⟩).memory Tryz.f3.params.toList Rows.storeNamesSpec.vars false (#[.slice none 0 0, .string ⟨#[]⟩] : Array Value).toList 8 = some ([.nil, .lit (.string [])], [], []) := by kernel_rfl
  exact law_lifted_row (C := Tryz.checked) (s := Rows.storeNamesSpec) (ts := [22, 9]) (W := fun p : List Str × Str × Unit => (p.1.length ≤ 140737488355328 ∧ ∀ s ∈ p.1, s.length ≤ 140737488355328) ∧ p.2.1.length ≤ reachBytes ∧ True) own started (by kernel_rfl) Tryz.func3
    (witness_row_at (enc := enc) (C := Tryz.checked) false (laidWorld os) #[.slice none 0 0, .string ⟨#[]⟩] rfl (by kernel_rfl) (by kernel_rfl) (by kernel_rfl)
      (OpenSpec.preRow_of_cond 8 hx (by kernel_rfl) (fun k hk => by cases hk) (by kernel_rfl) (laid_met os _)))
    laidOut full (by rw [Tryz.params3]) (by kernel_rfl) (by kernel_rfl) Tryz.underlying4 rfl (fun ds h => by match ds, h with | [d0, d1], _ => rfl)
    (rdA_slice Tryz.underlying22 c_strs (fun _ => rfl) rd_strs (rdA_str Tryz.underlying9 c_str (fun _ => rfl) (rd_str Tryz.underlying9 c_str) rdA_nil)) (fun b hb => names_law b.1 hb.1.1 hb.1.2 b.2.1 (reach_str hb.2.1) _ rfl) (fun W h => laid_facts h)
theorem storeNames_said : Rows.StoreNamesSaid :=
  OpenClaim.holds_of_cond 3 Tryz.f3 rfl rfl rfl rfl rfl rfl rfl ⟨rfl, rfl, rfl, rfl, rfl⟩ rfl rfl rfl rfl rfl (by kernel_rfl) Tryz.func3 (by kernel_rfl)
    (of_decide_eq_true (by kernel_rfl)) (by unfold Func.isWrapper; first | (rw [if_pos (by decide +kernel)]; kernel_rfl) | (rw [if_neg (by decide +kernel)]; exact ⟨rfl, rfl⟩))
    (fun os started H enc _ F => by rw [OpenClaim.pre_eq_preRow]; exact storeNames_lifted os started H enc F)
theorem storeNames_plain (f : FuncId) (fn : Func) (hf : Tryz.pinned.checked.prog.funcNamed "scullion/scullionlaw05.StoreNames" = some f) (hfn : Tryz.pinned.checked.prog.funcs[f]? = some fn) :
    true = Tryz.pinned.checked.prog.looks [] ∧ ∀ (j : Nat) t, fn.params[j]? = some t → Tryz.pinned.checked.prog.wantsStandIn t = false := by
  obtain rfl : f = 3 := Option.some.inj ((show Tryz.prog.funcNamed "scullion/scullionlaw05.StoreNames" = some 3 by kernel_rfl).symm.trans hf) |>.symm
  obtain rfl : fn = Tryz.f3 := (Option.some.inj (Tryz.func3.symm.trans hfn)).symm
  refine ⟨by kernel_rfl, fun j t ht => ?_⟩
  have h0 : (Tryz.f3.params.toList.all fun t => !(Tryz.prog.wantsStandIn t)) = true := by kernel_rfl
  have h1 := List.all_eq_true.1 h0 t (by simpa using Array.mem_of_getElem? ht)
  exact (by simpa using h1 : Tryz.prog.wantsStandIn t = false)
theorem storeNames_holds : Rows.StoreNamesCardSaid :=
  Claim7.holds_tied_plain_at .later [] _ _ _ _ storeNames_said (fun _ h => by cases h) (by kernel_rfl) (fun _ h => by cases h) storeNames_row_tie rfl ⟨rfl, rfl⟩ (by kernel_rfl) rfl storeNames_plain (by kernel_rfl)

end Go.Proofs.YtbpembafoloinaaGreatDoor
