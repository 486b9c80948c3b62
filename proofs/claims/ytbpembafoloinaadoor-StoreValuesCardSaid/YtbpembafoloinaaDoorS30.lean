/- StoreValues: the value of any entry, and the entry of any text, is the document's, for every argument that the row lets in, the variables laid as the program's text lays them. -/
import Derived.Test.YtbpembafoloinaaDoorSX
import Derived.Test.YtbpembafoloinaaDoorS20
set_option linter.unusedVariables false
set_option linter.unusedSimpArgs false
namespace Go.Proofs.YtbpembafoloinaaDoor
open Go Go.Ab
set_option maxRecDepth 100000
theorem c_str : Tryd.prog.cellsOf 9 = 1 := by kernel_rfl
theorem c_int : Tryd.prog.cellsOf 3 = 1 := by kernel_rfl
theorem c_ent : Tryd.prog.cellsOf 23 = 3 := by kernel_rfl
def BitsV (b : Bits) : Prop := (-9223372036854775808 ≤ b.k ∧ b.k ≤ 9223372036854775807) ∧ (-9223372036854775808 ≤ b.m ∧ b.m ≤ 9223372036854775807) ∧ b.l.length ≤ 140737488355328
theorem wf64 {n : Int} (h : (Lit.int .i64 n).wf = true) : -9223372036854775808 ≤ n ∧ n ≤ 9223372036854775807 := by
  simpa [Lit.wf, IntKind.min, IntKind.max, IntKind.signed, IntKind.bits] using h
theorem rd_bits : Rd Tryd.prog 23 Bits.av BitsV :=
  (rd_struct Tryd.underlying23 (by kernel_rfl) (rdF_cons rfl (rd_int Tryd.underlying3 c_int) (rdF_cons (by rw [c_int]) (rd_int Tryd.underlying3 c_int) (rdF_cons (by rw [c_int]) (rd_str Tryd.underlying9 c_str) (rdF_nil _))))).map
    (fun p => ⟨p.1, p.2.1, p.2.2.1⟩) (fun _ _ => rfl) (fun _ => c_ent.symm) (fun p h => ⟨wf64 h.1, wf64 h.2.1, by have h1 : p.2.2.1.length ≤ reachBytes := h.2.2.1; unfold reachBytes at h1; show p.2.2.1.length ≤ _; omega⟩)
theorem reach_str {s : Str} (h : s.length ≤ reachBytes) : s.length ≤ 140737488355328 := by unfold reachBytes at h; omega
theorem storeValues_lifted (os : Os) (started : os.Started) (H : Type) (enc : TypeId × Value → H) (F : Stop.Interp) :
    ReturnsInHanded {} Tryd.checked os 3 .any ((OpenSpec.ofChange Rows.storeValuesSpec).preRow enc Tryd.prog Tryd.f3 Rows.storeValuesRow.domain false Rows.storeValuesRow.laid) (((OpenSpec.ofChange Rows.storeValuesSpec).at F).post enc Tryd.prog Tryd.f3 false true false false) := by
  have hx : DataW.whole enc Tryd.prog ((laidWorld os).forCall (fun _ _ => 0) ⟨#[], #[.agg #[.int .i64 0, .int .i64 0, .string ⟨#[]⟩], .string ⟨#[]⟩], []⟩).memory Tryd.f3.params.toList Rows.storeValuesSpec.vars false (#[.agg #[.int .i64 0, .int .i64 0, .string ⟨#[]⟩], .string ⟨#[]⟩] : Array Value).toList 8 = some ([.agg [.lit (.int .i64 0), .lit (.int .i64 0), .lit (.string [])], .lit (.string [])], [], []) := by kernel_rfl
  exact law_lifted_row (C := Tryd.checked) (s := Rows.storeValuesSpec) (ts := [23, 9]) (W := fun p : Bits × Str × Unit => BitsV p.1 ∧ p.2.1.length ≤ reachBytes ∧ True) own started (by kernel_rfl) Tryd.func3
    (witness_row_at (enc := enc) (C := Tryd.checked) false (laidWorld os) #[.agg #[.int .i64 0, .int .i64 0, .string ⟨#[]⟩], .string ⟨#[]⟩] rfl (by kernel_rfl) (by kernel_rfl) (by kernel_rfl)
      (OpenSpec.preRow_of_cond 8 hx (by kernel_rfl) (fun k hk => by cases hk) (by kernel_rfl) (laid_met os _)))
    laidOut full (by rw [Tryd.params3]) (by kernel_rfl) (by kernel_rfl) Tryd.underlying4 rfl (fun ds h => by match ds, h with | [d0, d1], _ => rfl)
    (rdA_struct (D := fun b : Bits => [.int .i64 b.k, .int .i64 b.m, .str b.l]) Tryd.underlying23 (fun _ => rfl) rd_bits (rdA_str Tryd.underlying9 c_str (fun _ => rfl) (rd_str Tryd.underlying9 c_str) rdA_nil)) (fun b hb => values_ok b.1 hb.1.1 hb.1.2.1 hb.1.2.2 b.2.1 (reach_str hb.2.1) _ rfl) (fun W h => laid_facts h)
theorem storeValues_said : Rows.StoreValuesSaid :=
  OpenClaim.holds_of_cond 3 Tryd.f3 rfl rfl rfl rfl rfl rfl rfl ⟨rfl, rfl, rfl, rfl, rfl⟩ rfl rfl rfl rfl rfl (by kernel_rfl) Tryd.func3 (by kernel_rfl)
    (of_decide_eq_true (by kernel_rfl)) (by unfold Func.isWrapper; first | (rw [if_pos (by decide +kernel)]; kernel_rfl) | (rw [if_neg (by decide +kernel)]; exact ⟨rfl, rfl⟩))
    (fun os started H enc _ F => by rw [OpenClaim.pre_eq_preRow]; exact storeValues_lifted os started H enc F)
theorem storeValues_plain (f : FuncId) (fn : Func) (hf : Tryd.pinned.checked.prog.funcNamed "scullion/scullionlaw05.StoreValues" = some f) (hfn : Tryd.pinned.checked.prog.funcs[f]? = some fn) :
    true = Tryd.pinned.checked.prog.looks [] ∧ ∀ (j : Nat) t, fn.params[j]? = some t → Tryd.pinned.checked.prog.wantsStandIn t = false := by
  obtain rfl : f = 3 := Option.some.inj ((show Tryd.prog.funcNamed "scullion/scullionlaw05.StoreValues" = some 3 by kernel_rfl).symm.trans hf) |>.symm
  obtain rfl : fn = Tryd.f3 := (Option.some.inj (Tryd.func3.symm.trans hfn)).symm
  refine ⟨by kernel_rfl, fun j t ht => ?_⟩
  have h0 : (Tryd.f3.params.toList.all fun t => !(Tryd.prog.wantsStandIn t)) = true := by kernel_rfl
  have h1 := List.all_eq_true.1 h0 t (by simpa using Array.mem_of_getElem? ht)
  exact (by simpa using h1 : Tryd.prog.wantsStandIn t = false)
theorem storeValues_holds : Rows.StoreValuesCardSaid :=
  Claim7.holds_tied_plain_at .later [] _ _ _ _ storeValues_said (fun _ h => by cases h) (by kernel_rfl) (fun _ h => by cases h) storeValues_row_tie rfl ⟨rfl, rfl⟩ (by kernel_rfl) rfl storeValues_plain (by kernel_rfl)

end Go.Proofs.YtbpembafoloinaaDoor
