/- StoreBack: what is told is read, what is read is told as it was, for every argument that the row lets in, the variables laid as the program's text lays them. -/
import Derived.Test.YtbpembafoloinaaDoorSX
import Derived.Test.YtbpembafoloinaaDoorS21
set_option linter.unusedVariables false
set_option linter.unusedSimpArgs false
namespace Go.Proofs.YtbpembafoloinaaDoor
open Go Go.Ab
set_option maxRecDepth 100000
theorem c_str : Tryd.prog.cellsOf 9 = 1 := by kernel_rfl
theorem c_u8 : Tryd.prog.cellsOf 5 = 1 := by kernel_rfl
theorem c_act : Tryd.prog.cellsOf 31 = 5 := by kernel_rfl
structure Ac where
  a : UInt8
  b : UInt8
  m : UInt8
  k : UInt8
  l : UInt8
def Ac.av (q : Ac) : AV := .agg [.int .u8 q.a.toNat, .int .u8 q.b.toNat, .int .u8 q.m.toNat, .int .u8 q.k.toNat, .int .u8 q.l.toNat]
theorem rd_act : Rd Tryd.prog 31 Ac.av (fun _ => True) :=
  (rd_struct Tryd.underlying31 (by kernel_rfl) (rdF_cons rfl (rd_u8 Tryd.underlying5 c_u8) (rdF_cons (by rw [c_u8]) (rd_u8 Tryd.underlying5 c_u8) (rdF_cons (by rw [c_u8]) (rd_u8 Tryd.underlying5 c_u8) (rdF_cons (by rw [c_u8]) (rd_u8 Tryd.underlying5 c_u8) (rdF_cons (by rw [c_u8]) (rd_u8 Tryd.underlying5 c_u8) (rdF_nil _))))))).map
    (fun p => ⟨p.1, p.2.1, p.2.2.1, p.2.2.2.1, p.2.2.2.2.1⟩) (fun _ _ => rfl) (fun _ => c_act.symm) (fun _ _ => trivial)
theorem reach_str {s : Str} (h : s.length ≤ reachBytes) : s.length ≤ 140737488355328 := by unfold reachBytes at h; omega
theorem storeBack_lifted (os : Os) (started : os.Started) (H : Type) (enc : TypeId × Value → H) (F : Stop.Interp) :
    ReturnsInHanded {} Tryd.checked os 4 .any ((OpenSpec.ofChange Rows.storeBackSpec).preRow enc Tryd.prog Tryd.f4 Rows.storeBackRow.domain false Rows.storeBackRow.laid) (((OpenSpec.ofChange Rows.storeBackSpec).at F).post enc Tryd.prog Tryd.f4 false true false false) := by
  have hx : DataW.whole enc Tryd.prog ((laidWorld os).forCall (fun _ _ => 0) ⟨#[], #[.agg #[.int .u8 0, .int .u8 0, .int .u8 0, .int .u8 0, .int .u8 0], .string ⟨#[]⟩], []⟩).memory Tryd.f4.params.toList Rows.storeBackSpec.vars false (#[.agg #[.int .u8 0, .int .u8 0, .int .u8 0, .int .u8 0, .int .u8 0], .string ⟨#[]⟩] : Array Value).toList 8 = some ([.agg [.lit (.int .u8 0), .lit (.int .u8 0), .lit (.int .u8 0), .lit (.int .u8 0), .lit (.int .u8 0)], .lit (.string [])], [], []) := by kernel_rfl
  exact law_lifted_row (C := Tryd.checked) (s := Rows.storeBackSpec) (ts := [31, 9]) (W := fun p : Ac × Str × Unit => True ∧ p.2.1.length ≤ reachBytes ∧ True) own started (by kernel_rfl) Tryd.func4
    (witness_row_at (enc := enc) (C := Tryd.checked) false (laidWorld os) #[.agg #[.int .u8 0, .int .u8 0, .int .u8 0, .int .u8 0, .int .u8 0], .string ⟨#[]⟩] rfl (by kernel_rfl) (by kernel_rfl) (by kernel_rfl)
      (OpenSpec.preRow_of_cond 8 hx (by kernel_rfl) (fun k hk => by cases hk) (by kernel_rfl) (laid_met os _)))
    laidOut full (by rw [Tryd.params4]) (by kernel_rfl) (by kernel_rfl) Tryd.underlying4 rfl (fun ds h => by match ds, h with | [d0, d1], _ => rfl)
    (rdA_struct (D := fun q : Ac => [.int .u8 q.a.toNat, .int .u8 q.b.toNat, .int .u8 q.m.toNat, .int .u8 q.k.toNat, .int .u8 q.l.toNat]) Tryd.underlying31 (fun _ => rfl) rd_act (rdA_str Tryd.underlying9 c_str (fun _ => rfl) (rd_str Tryd.underlying9 c_str) rdA_nil)) (fun b hb => back_ok b.1.a b.1.b b.1.m b.1.k b.1.l b.2.1 (reach_str hb.2.1) _ rfl) (fun W h => laid_facts h)
theorem storeBack_said : Rows.StoreBackSaid :=
  OpenClaim.holds_of_cond 4 Tryd.f4 rfl rfl rfl rfl rfl rfl rfl ⟨rfl, rfl, rfl, rfl, rfl⟩ rfl rfl rfl rfl rfl (by kernel_rfl) Tryd.func4 (by kernel_rfl)
    (of_decide_eq_true (by kernel_rfl)) (by unfold Func.isWrapper; first | (rw [if_pos (by decide +kernel)]; kernel_rfl) | (rw [if_neg (by decide +kernel)]; exact ⟨rfl, rfl⟩))
    (fun os started H enc _ F => by rw [OpenClaim.pre_eq_preRow]; exact storeBack_lifted os started H enc F)
theorem storeBack_plain (f : FuncId) (fn : Func) (hf : Tryd.pinned.checked.prog.funcNamed "scullion/scullionlaw05.StoreBack" = some f) (hfn : Tryd.pinned.checked.prog.funcs[f]? = some fn) :
    true = Tryd.pinned.checked.prog.looks [] ∧ ∀ (j : Nat) t, fn.params[j]? = some t → Tryd.pinned.checked.prog.wantsStandIn t = false := by
  obtain rfl : f = 4 := Option.some.inj ((show Tryd.prog.funcNamed "scullion/scullionlaw05.StoreBack" = some 4 by kernel_rfl).symm.trans hf) |>.symm
  obtain rfl : fn = Tryd.f4 := (Option.some.inj (Tryd.func4.symm.trans hfn)).symm
  refine ⟨by kernel_rfl, fun j t ht => ?_⟩
  have h0 : (Tryd.f4.params.toList.all fun t => !(Tryd.prog.wantsStandIn t)) = true := by kernel_rfl
  have h1 := List.all_eq_true.1 h0 t (by simpa using Array.mem_of_getElem? ht)
  exact (by simpa using h1 : Tryd.prog.wantsStandIn t = false)
theorem storeBack_holds : Rows.StoreBackCardSaid :=
  Claim7.holds_tied_plain_at .later [] _ _ _ _ storeBack_said (fun _ h => by cases h) (by kernel_rfl) (fun _ h => by cases h) storeBack_row_tie rfl ⟨rfl, rfl⟩ (by kernel_rfl) rfl storeBack_plain (by kernel_rfl)

end Go.Proofs.YtbpembafoloinaaDoor
