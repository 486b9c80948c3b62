/- HazardAny: the hazards of any steps are the document's, for every argument that the row lets in. -/
import Derived.Test.YtpdmiojenhodlaaH17
import Derived.Test.YtpdmiojenhodlaaRows
set_option linter.unusedVariables false
set_option linter.unusedSimpArgs false
namespace Go.Proofs.Ytpdmiojenhodlaa
open Go Go.Ab
set_option maxRecDepth 100000
theorem own : ownKnob Try.prog.godebug = none := by kernel_rfl
theorem laidOut : laidOutB Try.prog = true := by kernel_rfl
theorem full : ∀ t e, t < Try.prog.types.size → Try.prog.underlying t = some (.slice e) → 0 < Try.prog.cellsOf e := slices_full_of _ (by kernel_rfl)
theorem c42 : Try.prog.cellsOf 42 = 3 := by kernel_rfl
theorem c36 : Try.prog.cellsOf 36 = 2 := by kernel_rfl
theorem c9 : Try.prog.cellsOf 9 = 1 := by kernel_rfl
theorem c4 : Try.prog.cellsOf 4 = 1 := by kernel_rfl
theorem c34 : Try.prog.cellsOf 34 = 1 := by kernel_rfl
theorem c22 : Try.prog.cellsOf 22 = 1 := by kernel_rfl
theorem b42 : Try.prog.bytesOf 42 = 40 := by kernel_rfl
theorem b36 : Try.prog.bytesOf 36 = 48 := by kernel_rfl
theorem reach_len {n b : Nat} (hb : 0 < b) (h : n * b ≤ reachBytes) : n ≤ 140737488355328 := by
  have : n ≤ n * b := Nat.le_mul_of_pos_right n hb
  unfold reachBytes at h; omega
theorem rd_tch : Rd Try.prog 42 Tch.av (fun t => t.path.length ≤ 140737488355328) :=
  (rd_struct Try.underlying42 (by kernel_rfl) (rdF_cons rfl (rd_str Try.underlying9 c9) (rdF_cons (by rw [c9]) (rd_bool Try.underlying4 c4) (rdF_cons (by rw [c9, c4]) (rd_str Try.underlying9 c9) (rdF_nil _))))).map
    (fun p => ⟨p.1, p.2.1, p.2.2.1⟩) (fun _ _ => rfl) (fun _ => c42.symm) (fun p h => by have h1 : p.1.length ≤ reachBytes := h.1; unfold reachBytes at h1; show p.1.length ≤ _; omega)
theorem rd_tchs : Rd Try.prog 34 (fun l : List Tch => .list 3 (l.map Tch.av)) (fun l => l.length ≤ 140737488355328 ∧ ∀ t ∈ l, t.path.length ≤ 140737488355328) :=
  (rd_slice Try.underlying34 c34 (by rw [c42]; decide) rd_tch).map id (fun _ _ => by rw [c42]; rfl) (fun _ => c34.symm) (fun l h => ⟨reach_len (by rw [b42]; decide) h.1, h.2⟩)
theorem rd_stp : Rd Try.prog 36 Stp.av (fun s => s.reads.length ≤ 140737488355328 ∧ s.writes.length ≤ 140737488355328 ∧ (∀ t ∈ s.reads, t.path.length ≤ 140737488355328) ∧ ∀ t ∈ s.writes, t.path.length ≤ 140737488355328) :=
  (rd_struct Try.underlying36 (by kernel_rfl) (rdF_cons rfl rd_tchs (rdF_cons (by rw [c34]) rd_tchs (rdF_nil _)))).map
    (fun p => ⟨p.1, p.2.1⟩) (fun _ _ => rfl) (fun _ => c36.symm) (fun p h => ⟨h.1.1, h.2.1.1, h.1.2, h.2.1.2⟩)
theorem rd_stps : Rd Try.prog 22 (fun l : List Stp => .list 2 (l.map Stp.av)) StpsV :=
  (rd_slice Try.underlying22 c22 (by rw [c36]; decide) rd_stp).map id (fun _ _ => by rw [c36]; rfl) (fun _ => c22.symm) (fun l h => ⟨reach_len (by rw [b36]; decide) h.1, h.2⟩)
theorem any_lifted (os : Os) (started : os.Started) (H : Type) (enc : TypeId × Value → H) :
    ReturnsInHanded {} Try.checked os 3 .any (Rows.hazardAnySpec.pre6 enc Try.prog Try.f3 Rows.hazardAnyRow.domain false) (Rows.hazardAnySpec.post enc Try.prog Try.f3 false true false false) :=
  law_lifted (C := Try.checked) (s := Rows.hazardAnySpec) (ts := [22]) (W := fun p : List Stp × Unit => StpsV p.1 ∧ True) own started (by kernel_rfl) Try.func3
    (ChangeSpec.witness6 (enc := enc) (C := Try.checked) (s := Rows.hazardAnySpec) false ⟨#[], #[.slice none 0 0], []⟩ 8 (by kernel_rfl) (by kernel_rfl) (by kernel_rfl) (by kernel_rfl))
    laidOut full (by rw [Try.params3]) (by kernel_rfl) (by kernel_rfl) Try.underlying4 rfl (fun ds h => by match ds, h with | [d], _ => rfl)
    (rdA_slice Try.underlying22 c22 (fun _ => rfl) rd_stps rdA_nil) (fun b hb => any_ok b.1 hb.1 _)
theorem any_holds : Rows.HazardAnySaid :=
  OpenClaim.holds_of_wide 3 Try.f3 rfl rfl rfl rfl rfl rfl rfl ⟨rfl, rfl, rfl, rfl, rfl⟩ rfl rfl rfl rfl rfl (by kernel_rfl) Try.func3 (by kernel_rfl)
    (of_decide_eq_true (by kernel_rfl)) (by unfold Func.isWrapper; first | (rw [if_pos (by decide +kernel)]; kernel_rfl) | (rw [if_neg (by decide +kernel)]; exact ⟨rfl, rfl⟩))
    (fun os started H enc _ => any_lifted os started H enc)
end Go.Proofs.Ytpdmiojenhodlaa
