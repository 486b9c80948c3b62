/- HazardSmall, HazardMore, HazardFree: the laws of hazards of steps by numbers, for every argument that the row lets in. -/
import Derived.Test.YtpdmiojenhodlaaH18
import Derived.Test.YtpdmiojenhodlaaH20
set_option linter.unusedVariables false
set_option linter.unusedSimpArgs false
namespace Go.Proofs.Ytpdmiojenhodlaa
open Go Go.Ab
set_option maxRecDepth 100000
theorem c31 : Try.prog.cellsOf 31 = 1 := by kernel_rfl
theorem c5 : Try.prog.cellsOf 5 = 1 := by kernel_rfl
theorem c33 : Try.prog.cellsOf 33 = 2 := by kernel_rfl
theorem c28 : Try.prog.cellsOf 28 = 1 := by kernel_rfl
theorem b33 : Try.prog.bytesOf 33 = 48 := by kernel_rfl
theorem b5 : Try.prog.bytesOf 5 = 1 := by kernel_rfl
theorem rd_u8s : Rd Try.prog 31 (fun l : List UInt8 => .list 1 (l.map u8av)) (fun l => l.length ≤ 140737488355328) :=
  (rd_slice Try.underlying31 c31 (by rw [c5]; decide) (rd_u8 Try.underlying5 c5)).map id (fun _ _ => by rw [c5]; rfl) (fun _ => c31.symm) (fun l h => reach_len (by rw [b5]; decide) h.1)
theorem rd_bt : Rd Try.prog 33 Bt.av BtV :=
  (rd_struct Try.underlying33 (by kernel_rfl) (rdF_cons rfl rd_u8s (rdF_cons (by rw [c31]) rd_u8s (rdF_nil _)))).map (fun p => ⟨p.1, p.2.1⟩) (fun _ _ => rfl) (fun _ => c33.symm) (fun p h => ⟨h.1, h.2.1⟩)
theorem rd_bts : Rd Try.prog 28 (fun l : List Bt => .list 2 (l.map Bt.av)) BtsV :=
  (rd_slice Try.underlying28 c28 (by rw [c33]; decide) rd_bt).map id (fun _ _ => by rw [c33]; rfl) (fun _ => c28.symm) (fun l h => ⟨reach_len (by rw [b33]; decide) h.1, h.2⟩)
theorem small_lifted (os : Os) (started : os.Started) (H : Type) (enc : TypeId × Value → H) :
    ReturnsInHanded {} Try.checked os 4 .any (Rows.hazardSmallSpec.pre6 enc Try.prog Try.f4 Rows.hazardSmallRow.domain false) (Rows.hazardSmallSpec.post enc Try.prog Try.f4 false true false false) :=
  law_lifted (C := Try.checked) (s := Rows.hazardSmallSpec) (ts := [28]) (W := fun p : List Bt × Unit => BtsV p.1 ∧ True) own started (by kernel_rfl) Try.func4
    (ChangeSpec.witness6 (enc := enc) (C := Try.checked) (s := Rows.hazardSmallSpec) false ⟨#[], #[.slice none 0 0], []⟩ 8 (by kernel_rfl) (by kernel_rfl) (by kernel_rfl) (by kernel_rfl))
    laidOut full (by rw [Try.params4]) (by kernel_rfl) (by kernel_rfl) Try.underlying4 rfl (fun ds h => by match ds, h with | [d], _ => rfl)
    (rdA_slice Try.underlying28 c28 (fun _ => rfl) rd_bts rdA_nil) (fun b hb => small_law b.1 hb.1 _)
theorem small_holds : Rows.HazardSmallSaid :=
  OpenClaim.holds_of_wide 4 Try.f4 rfl rfl rfl rfl rfl rfl rfl ⟨rfl, rfl, rfl, rfl, rfl⟩ rfl rfl rfl rfl rfl (by kernel_rfl) Try.func4 (by kernel_rfl)
    (of_decide_eq_true (by kernel_rfl)) (by unfold Func.isWrapper; first | (rw [if_pos (by decide +kernel)]; kernel_rfl) | (rw [if_neg (by decide +kernel)]; exact ⟨rfl, rfl⟩))
    (fun os started H enc _ => small_lifted os started H enc)
theorem free_lifted (os : Os) (started : os.Started) (H : Type) (enc : TypeId × Value → H) :
    ReturnsInHanded {} Try.checked os 6 .any (Rows.hazardFreeSpec.pre6 enc Try.prog Try.f6 Rows.hazardFreeRow.domain false) (Rows.hazardFreeSpec.post enc Try.prog Try.f6 false true false false) :=
  law_lifted (C := Try.checked) (s := Rows.hazardFreeSpec) (ts := [28]) (W := fun p : List Bt × Unit => BtsV p.1 ∧ True) own started (by kernel_rfl) Try.func6
    (ChangeSpec.witness6 (enc := enc) (C := Try.checked) (s := Rows.hazardFreeSpec) false ⟨#[], #[.slice none 0 0], []⟩ 8 (by kernel_rfl) (by kernel_rfl) (by kernel_rfl) (by kernel_rfl))
    laidOut full (by rw [Try.params6]) (by kernel_rfl) (by kernel_rfl) Try.underlying4 rfl (fun ds h => by match ds, h with | [d], _ => rfl)
    (rdA_slice Try.underlying28 c28 (fun _ => rfl) rd_bts rdA_nil) (fun b hb => free_law b.1 hb.1 _)
theorem free_holds : Rows.HazardFreeSaid :=
  OpenClaim.holds_of_wide 6 Try.f6 rfl rfl rfl rfl rfl rfl rfl ⟨rfl, rfl, rfl, rfl, rfl⟩ rfl rfl rfl rfl rfl (by kernel_rfl) Try.func6 (by kernel_rfl)
    (of_decide_eq_true (by kernel_rfl)) (by unfold Func.isWrapper; first | (rw [if_pos (by decide +kernel)]; kernel_rfl) | (rw [if_neg (by decide +kernel)]; exact ⟨rfl, rfl⟩))
    (fun os started H enc _ => free_lifted os started H enc)
theorem more_lifted (os : Os) (started : os.Started) (H : Type) (enc : TypeId × Value → H) :
    ReturnsInHanded {} Try.checked os 5 .any (Rows.hazardMoreSpec.pre6 enc Try.prog Try.f5 Rows.hazardMoreRow.domain false) (Rows.hazardMoreSpec.post enc Try.prog Try.f5 false true false false) :=
  law_lifted (C := Try.checked) (s := Rows.hazardMoreSpec) (ts := [28, 33]) (W := fun p : List Bt × Bt × Unit => BtsV p.1 ∧ BtV p.2.1 ∧ True) own started (by kernel_rfl) Try.func5
    (ChangeSpec.witness6 (enc := enc) (C := Try.checked) (s := Rows.hazardMoreSpec) false ⟨#[], #[.slice none 0 0, .agg #[.slice none 0 0, .slice none 0 0]], []⟩ 8 (by kernel_rfl) (by kernel_rfl) (by kernel_rfl) (by kernel_rfl))
    laidOut full (by rw [Try.params5]) (by kernel_rfl) (by kernel_rfl) Try.underlying4 rfl (fun ds h => by match ds, h with | [d1, d2], _ => rfl)
    (rdA_slice Try.underlying28 c28 (fun _ => rfl) rd_bts (rdA_struct (D := fun b : Bt => [.list 1 (b.r.map u8av), .list 1 (b.w.map u8av)]) Try.underlying33 (fun _ => rfl) rd_bt rdA_nil)) (fun b hb => more_law b.1 b.2.1 hb.1 hb.2.1 _)
theorem more_holds : Rows.HazardMoreSaid :=
  OpenClaim.holds_of_wide 5 Try.f5 rfl rfl rfl rfl rfl rfl rfl ⟨rfl, rfl, rfl, rfl, rfl⟩ rfl rfl rfl rfl rfl (by kernel_rfl) Try.func5 (by kernel_rfl)
    (of_decide_eq_true (by kernel_rfl)) (by unfold Func.isWrapper; first | (rw [if_pos (by decide +kernel)]; kernel_rfl) | (rw [if_neg (by decide +kernel)]; exact ⟨rfl, rfl⟩))
    (fun os started H enc _ => more_lifted os started H enc)
end Go.Proofs.Ytpdmiojenhodlaa
