/- What the laid variables give; how the arguments of the laws of the filter are read. -/
import Derived.Test.YtiaiggbimlbkfaaGreatDoorQ8
import Derived.Test.YtiaiggbimlbkfaaGreatDoorFwL
import Derived.Test.YtiaiggbimlbkfaaGreatDoorLaid
import Derived.Test.YtiaiggbimlbkfaaGreatDoorCards
import Derived.Test.YtiaiggbimlbkfaaGreatDoorTie
set_option linter.unusedVariables false
set_option linter.unusedSimpArgs false
namespace Go.Proofs.YtiaiggbimlbkfaaGreatDoor
open Go Go.Ab
set_option maxRecDepth 100000
instance laidChecked : Laid Tryz.checked.prog := laidHere
theorem own : ownKnob Tryz.prog.godebug = none := by kernel_rfl
theorem laidOut : laidOutB Tryz.prog = true := by kernel_rfl
theorem full : ∀ t e, t < Tryz.prog.types.size → Tryz.prog.underlying t = some (.slice e) → 0 < Tryz.prog.cellsOf e := slices_full_of _ (by kernel_rfl)
theorem laid_facts {W : World} (h : laidMetH Tryz.prog LL W) (ho : W.ShapedOpen Tryz.prog) : Laid.facts Tryz.prog (ghAll Tryz.prog.globals.size W) := by
  have h' := laid_h h
  have ht : Lib.TabIs Tryz.prog W "internal/strconv.uint64pow10" .u64 Lib.pow10Tab :=
    tab_of_mem (g := 1) (t := 134) (e := 99) (n := 20) (by kernel_rfl) (by kernel_rfl) (by kernel_rfl) (by kernel_rfl) (by kernel_rfl) (by kernel_rfl) (l := LL) (List.mem_cons_of_mem _ (List.mem_cons_of_mem _ List.mem_cons_self)) h'
  have hn : Tryz.prog.globalNamed "internal/strconv.uint64pow10" = some 1 := by kernel_rfl
  obtain ⟨t1, t2⟩ := ghAll_table (ng := Tryz.prog.globals.size) hn ht
  obtain ⟨m, hm⟩ := cell_of_shapedOpen_int (P := Tryz.prog) (g := 0) (zero := #[.int .i64 0]) (t := 3) ho (of_decide_eq_true (by kernel_rfl)) (by kernel_rfl) rfl (by kernel_rfl) (by kernel_rfl) Tryz.underlying3
  refine ⟨t1, t2, ?_, ?_, m, ghAll_com hm rfl⟩
  · exact ghAll_err (P := Tryz.prog) (name := "strconv.ErrSyntax") (ti := 69) (by kernel_rfl) (by kernel_rfl) Tryz.underlying69 (l := LL) (List.mem_cons_of_mem _ (List.mem_cons_of_mem _ (List.mem_cons_of_mem _ (List.mem_cons_of_mem _ (List.mem_cons_of_mem _ List.mem_cons_self))))) h'
  · exact ghAll_err (P := Tryz.prog) (name := "strconv.ErrRange") (ti := 69) (by kernel_rfl) (by kernel_rfl) Tryz.underlying69 (l := LL) (List.mem_cons_of_mem _ (List.mem_cons_of_mem _ (List.mem_cons_of_mem _ (List.mem_cons_of_mem _ List.mem_cons_self)))) h'
theorem c_str : Tryz.prog.cellsOf 9 = 1 := by kernel_rfl
theorem c_u8 : Tryz.prog.cellsOf 5 = 1 := by kernel_rfl
theorem reach_str {s : Str} (h : s.length ≤ reachBytes) : s.length ≤ 140737488355328 := by unfold reachBytes at h; omega
end Go.Proofs.YtiaiggbimlbkfaaGreatDoor
