/- KernHangs: what is done hangs on what was read alone, for every argument that the row lets in, the variables laid as the program's text lays them. -/
import Derived.Test.YtmoaidkglldhcaaGreatDoorPHg
set_option linter.unusedVariables false
set_option linter.unusedSimpArgs false
namespace Go.Proofs.YtmoaidkglldhcaaGreatDoor
open Go Go.Ab
set_option maxRecDepth 100000
theorem kernHangs_lifted (os : Os) (started : os.Started) (H : Type) (enc : TypeId × Value → H) (F : Stop.Interp) :
    ReturnsInHanded {} Tryz.checked os 11 .any ((OpenSpec.ofChange Rows.kernHangsSpec).preRow enc Tryz.prog Tryz.f11 Rows.kernHangsRow.domain false Rows.kernHangsRow.laid) (((OpenSpec.ofChange Rows.kernHangsSpec).at F).post enc Tryz.prog Tryz.f11 false true false false) := by
  have hx : DataW.whole enc Tryz.prog ((laidWorld os).forCall (fun _ _ => 0) ⟨#[], #[.slice none 0 0, .agg #[.int .u8 0, .int .u8 0, .int .u8 0, .int .u8 0, .string ⟨#[]⟩], .int .u8 0, .agg #[.int .i64 0, .int .i64 0, .string ⟨#[]⟩]], []⟩).memory Tryz.f11.params.toList Rows.kernHangsSpec.vars false (#[.slice none 0 0, .agg #[.int .u8 0, .int .u8 0, .int .u8 0, .int .u8 0, .string ⟨#[]⟩], .int .u8 0, .agg #[.int .i64 0, .int .i64 0, .string ⟨#[]⟩]] : Array Value).toList 8 = some ([.nil, .agg [.lit (.int .u8 0), .lit (.int .u8 0), .lit (.int .u8 0), .lit (.int .u8 0), .lit (.string [])], .lit (.int .u8 0), .agg [.lit (.int .i64 0), .lit (.int .i64 0), .lit (.string [])]], [], []) := by kernel_rfl
  exact law_lifted_row (C := Tryz.checked) (s := Rows.kernHangsSpec) (ts := [39, 41, 5, 50]) (W := fun p : List ActK × ActK × UInt8 × Bits × Unit => p.1.length ≤ 140737488355328 ∧ p.2.1.raw.length ≤ reachBytes ∧ True ∧ p.2.2.2.1.l.length ≤ reachBytes ∧ True) own started (by kernel_rfl) Tryz.func11
    (witness_row_at (enc := enc) (C := Tryz.checked) false (laidWorld os) #[.slice none 0 0, .agg #[.int .u8 0, .int .u8 0, .int .u8 0, .int .u8 0, .string ⟨#[]⟩], .int .u8 0, .agg #[.int .i64 0, .int .i64 0, .string ⟨#[]⟩]] rfl (by kernel_rfl) (by kernel_rfl) (by kernel_rfl)
      (OpenSpec.preRow_of_cond 8 hx (by kernel_rfl) (fun k hk => by cases hk) (by kernel_rfl) (laid_met os _)))
    laidOut full (by rw [Tryz.params11]) (by kernel_rfl) (by kernel_rfl) Tryz.underlying4 rfl (fun ds h => by match ds, h with | [d0, d1, d2, d3], _ => rfl)
    (rdA_slice Tryz.underlying39 c_acts (fun _ => rfl) rd_acts (rdA_struct (D := fun q : ActK => [.int .u8 q.w.toNat, .int .u8 q.a.toNat, .int .u8 q.b.toNat, .int .u8 q.n.toNat, .str q.raw]) Tryz.underlying41 (fun _ => rfl) rd_act (rdA_int Tryz.underlying5 c_u8 (fun _ => rfl) (rd_u8 Tryz.underlying5 c_u8) (rdA_struct (D := fun q : Bits => [.int .i64 q.k, .int .i64 q.m, .str q.l]) Tryz.underlying50 (fun _ => rfl) rd_ent rdA_nil)))) (fun b hb => hangs_ok b.1 hb.1 b.2.1 b.2.2.1 b.2.2.2.1 _ rfl) (fun W h ho => laid_facts h ho)
theorem kernHangs_said : Rows.KernHangsSaid :=
  OpenClaim.holds_of_cond 11 Tryz.f11 rfl rfl rfl rfl rfl rfl rfl ⟨rfl, rfl, rfl, rfl, rfl⟩ rfl rfl rfl rfl rfl (by kernel_rfl) Tryz.func11 (by kernel_rfl)
    (of_decide_eq_true (by kernel_rfl)) (by unfold Func.isWrapper; first | (rw [if_pos (by decide +kernel)]; kernel_rfl) | (rw [if_neg (by decide +kernel)]; exact ⟨rfl, rfl⟩))
    (fun os started H enc _ F => by rw [OpenClaim.pre_eq_preRow]; exact kernHangs_lifted os started H enc F)
theorem kernHangs_plain (f : FuncId) (fn : Func) (hf : Tryz.pinned.checked.prog.funcNamed "scullion/scullionlaw06.KernHangs" = some f) (hfn : Tryz.pinned.checked.prog.funcs[f]? = some fn) :
    true = Tryz.pinned.checked.prog.looks [] ∧ ∀ (j : Nat) t, fn.params[j]? = some t → Tryz.pinned.checked.prog.wantsStandIn t = false := by
  obtain rfl : f = 11 := Option.some.inj ((show Tryz.prog.funcNamed "scullion/scullionlaw06.KernHangs" = some 11 by kernel_rfl).symm.trans hf) |>.symm
  obtain rfl : fn = Tryz.f11 := (Option.some.inj (Tryz.func11.symm.trans hfn)).symm
  refine ⟨by kernel_rfl, fun j t ht => ?_⟩
  have h0 : (Tryz.f11.params.toList.all fun t => !(Tryz.prog.wantsStandIn t)) = true := by kernel_rfl
  have h1 := List.all_eq_true.1 h0 t (by simpa using Array.mem_of_getElem? ht)
  exact (by simpa using h1 : Tryz.prog.wantsStandIn t = false)
theorem kernHangs_holds : Rows.KernHangsCardSaid :=
  Claim7.holds_tied_plain_at .later [] _ _ _ _ kernHangs_said (fun _ h => by cases h) (by kernel_rfl) (fun _ h => by cases h) kernHangs_row_tie rfl ⟨rfl, rfl⟩ (by kernel_rfl) rfl kernHangs_plain (by kernel_rfl)

end Go.Proofs.YtmoaidkglldhcaaGreatDoor
