/- StorePuts: what is put is there, and touches no other place, for every argument that the row lets in, the variables laid as the program's text lays them. -/
import Derived.Test.YtbpembafoloinaaDoorSX
import Derived.Test.YtbpembafoloinaaDoorS22
set_option linter.unusedVariables false
set_option linter.unusedSimpArgs false
namespace Go.Proofs.YtbpembafoloinaaDoor
open Go Go.Ab
set_option maxRecDepth 100000
theorem c_u8 : Tryd.prog.cellsOf 5 = 1 := by kernel_rfl
theorem c_act : Tryd.prog.cellsOf 31 = 5 := by kernel_rfl
theorem b_act : Tryd.prog.bytesOf 31 = 5 := by kernel_rfl
theorem c_acts : Tryd.prog.cellsOf 34 = 1 := by kernel_rfl
theorem rd_act : Rd Tryd.prog 31 Step.av (fun _ => True) :=
  (rd_struct Tryd.underlying31 (by kernel_rfl) (rdF_cons rfl (rd_u8 Tryd.underlying5 c_u8) (rdF_cons (by rw [c_u8]) (rd_u8 Tryd.underlying5 c_u8) (rdF_cons (by rw [c_u8]) (rd_u8 Tryd.underlying5 c_u8) (rdF_cons (by rw [c_u8]) (rd_u8 Tryd.underlying5 c_u8) (rdF_cons (by rw [c_u8]) (rd_u8 Tryd.underlying5 c_u8) (rdF_nil _))))))).map
    (fun p => ⟨p.1, p.2.1, p.2.2.1, p.2.2.2.1, p.2.2.2.2.1⟩) (fun _ _ => rfl) (fun _ => c_act.symm) (fun _ _ => trivial)
theorem rd_acts : Rd Tryd.prog 34 (fun l : List Step => .list 5 (l.map Step.av)) (fun l => l.length ≤ 140737488355328) :=
  (rd_slice Tryd.underlying34 c_acts (by rw [c_act]; decide) rd_act).map id (fun _ _ => by rw [c_act]; rfl) (fun _ => c_acts.symm) (fun l h => by
    have h1 := h.1
    rw [b_act] at h1
    unfold reachBytes at h1
    show l.length ≤ _
    omega)
theorem storePuts_lifted (os : Os) (started : os.Started) (H : Type) (enc : TypeId × Value → H) (F : Stop.Interp) :
    ReturnsInHanded {} Tryd.checked os 5 .any ((OpenSpec.ofChange Rows.storePutsSpec).preRow enc Tryd.prog Tryd.f5 Rows.storePutsRow.domain false Rows.storePutsRow.laid) (((OpenSpec.ofChange Rows.storePutsSpec).at F).post enc Tryd.prog Tryd.f5 false true false false) := by
  have hx : DataW.whole enc Tryd.prog ((laidWorld os).forCall (fun _ _ => 0) ⟨#[], #[.slice none 0 0, .agg #[.int .u8 0, .int .u8 0, .int .u8 0, .int .u8 0, .int .u8 0], .int .u8 0], []⟩).memory Tryd.f5.params.toList Rows.storePutsSpec.vars false (#[.slice none 0 0, .agg #[.int .u8 0, .int .u8 0, .int .u8 0, .int .u8 0, .int .u8 0], .int .u8 0] : Array Value).toList 8 = some ([.nil, .agg [.lit (.int .u8 0), .lit (.int .u8 0), .lit (.int .u8 0), .lit (.int .u8 0), .lit (.int .u8 0)], .lit (.int .u8 0)], [], []) := by kernel_rfl
  exact law_lifted_row (C := Tryd.checked) (s := Rows.storePutsSpec) (ts := [34, 31, 5]) (W := fun p : List Step × Step × UInt8 × Unit => p.1.length ≤ 140737488355328 ∧ True ∧ True ∧ True) own started (by kernel_rfl) Tryd.func5
    (witness_row_at (enc := enc) (C := Tryd.checked) false (laidWorld os) #[.slice none 0 0, .agg #[.int .u8 0, .int .u8 0, .int .u8 0, .int .u8 0, .int .u8 0], .int .u8 0] rfl (by kernel_rfl) (by kernel_rfl) (by kernel_rfl)
      (OpenSpec.preRow_of_cond 8 hx (by kernel_rfl) (fun k hk => by cases hk) (by kernel_rfl) (laid_met os _)))
    laidOut full (by rw [Tryd.params5]) (by kernel_rfl) (by kernel_rfl) Tryd.underlying4 rfl (fun ds h => by match ds, h with | [d0, d1, d2], _ => rfl)
    (rdA_slice Tryd.underlying34 c_acts (fun _ => rfl) rd_acts (rdA_struct (D := fun q : Step => [.int .u8 q.a.toNat, .int .u8 q.b.toNat, .int .u8 q.m.toNat, .int .u8 q.k.toNat, .int .u8 q.l.toNat]) Tryd.underlying31 (fun _ => rfl) rd_act (rdA_int Tryd.underlying5 c_u8 (fun _ => rfl) (rd_u8 Tryd.underlying5 c_u8) rdA_nil))) (fun b hb => puts_ok b.1 hb.1 b.2.1 b.2.2.1 _ rfl) (fun W h => laid_facts h)
theorem storePuts_said : Rows.StorePutsSaid :=
  OpenClaim.holds_of_cond 5 Tryd.f5 rfl rfl rfl rfl rfl rfl rfl ⟨rfl, rfl, rfl, rfl, rfl⟩ rfl rfl rfl rfl rfl (by kernel_rfl) Tryd.func5 (by kernel_rfl)
    (of_decide_eq_true (by kernel_rfl)) (by unfold Func.isWrapper; first | (rw [if_pos (by decide +kernel)]; kernel_rfl) | (rw [if_neg (by decide +kernel)]; exact ⟨rfl, rfl⟩))
    (fun os started H enc _ F => by rw [OpenClaim.pre_eq_preRow]; exact storePuts_lifted os started H enc F)
theorem storePuts_plain (f : FuncId) (fn : Func) (hf : Tryd.pinned.checked.prog.funcNamed "scullion/scullionlaw05.StorePuts" = some f) (hfn : Tryd.pinned.checked.prog.funcs[f]? = some fn) :
    true = Tryd.pinned.checked.prog.looks [] ∧ ∀ (j : Nat) t, fn.params[j]? = some t → Tryd.pinned.checked.prog.wantsStandIn t = false := by
  obtain rfl : f = 5 := Option.some.inj ((show Tryd.prog.funcNamed "scullion/scullionlaw05.StorePuts" = some 5 by kernel_rfl).symm.trans hf) |>.symm
  obtain rfl : fn = Tryd.f5 := (Option.some.inj (Tryd.func5.symm.trans hfn)).symm
  refine ⟨by kernel_rfl, fun j t ht => ?_⟩
  have h0 : (Tryd.f5.params.toList.all fun t => !(Tryd.prog.wantsStandIn t)) = true := by kernel_rfl
  have h1 := List.all_eq_true.1 h0 t (by simpa using Array.mem_of_getElem? ht)
  exact (by simpa using h1 : Tryd.prog.wantsStandIn t = false)
theorem storePuts_holds : Rows.StorePutsCardSaid :=
  Claim7.holds_tied_plain_at .later [] _ _ _ _ storePuts_said (fun _ h => by cases h) (by kernel_rfl) (fun _ h => by cases h) storePuts_row_tie rfl ⟨rfl, rfl⟩ (by kernel_rfl) rfl storePuts_plain (by kernel_rfl)

end Go.Proofs.YtbpembafoloinaaDoor
