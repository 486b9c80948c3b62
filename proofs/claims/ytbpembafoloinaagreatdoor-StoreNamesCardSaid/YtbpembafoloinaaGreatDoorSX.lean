/- What the laid variables give; how the arguments of the laws of the store are read. -/
import Derived.Test.YtbpembafoloinaaGreatDoorS26
import Derived.Test.YtbpembafoloinaaGreatDoorFwL
import Derived.Test.YtbpembafoloinaaGreatDoorLaid
import Derived.Test.YtbpembafoloinaaGreatDoorCards
import Derived.Test.YtbpembafoloinaaGreatDoorTie
set_option linter.unusedVariables false
set_option linter.unusedSimpArgs false
namespace Go.Proofs.YtbpembafoloinaaGreatDoor
open Go Go.Ab
set_option maxRecDepth 100000
instance laidChecked : Laid Tryz.checked.prog := laidHere
theorem own : ownKnob Tryz.prog.godebug = none := by kernel_rfl
theorem laidOut : laidOutB Tryz.prog = true := by kernel_rfl
theorem full : ∀ t e, t < Tryz.prog.types.size → Tryz.prog.underlying t = some (.slice e) → 0 < Tryz.prog.cellsOf e := slices_full_of _ (by kernel_rfl)
theorem laid_facts {W : World} (h : laidMetH Tryz.prog LL W) : Laid.facts Tryz.prog (ghAll Tryz.prog.globals.size W) := by
  have h' := laid_h h
  have ht : Lib.TabIs Tryz.prog W "internal/strconv.uint64pow10" .u64 Lib.pow10Tab :=
    tab_of_mem (g := 3) (t := 181) (e := 139) (n := 20) (by kernel_rfl) (by kernel_rfl) (by kernel_rfl) (by kernel_rfl) (by kernel_rfl) (by kernel_rfl) (l := LL) (List.mem_cons_of_mem _ (List.mem_cons_of_mem _ List.mem_cons_self)) h'
  have hn : Tryz.prog.globalNamed "internal/strconv.uint64pow10" = some 3 := by kernel_rfl
  obtain ⟨t1, t2⟩ := ghAll_table (ng := Tryz.prog.globals.size) hn ht
  refine ⟨t1, t2, ?_, ?_⟩
  · exact ghAll_err (P := Tryz.prog) (name := "strconv.ErrSyntax") (ti := 114) (by kernel_rfl) (by kernel_rfl) Tryz.underlying114 (l := LL) (List.mem_cons_of_mem _ (List.mem_cons_of_mem _ (List.mem_cons_of_mem _ (List.mem_cons_of_mem _ List.mem_cons_self)))) h'
  · exact ghAll_err (P := Tryz.prog) (name := "strconv.ErrRange") (ti := 114) (by kernel_rfl) (by kernel_rfl) Tryz.underlying114 (l := LL) (List.mem_cons_of_mem _ (List.mem_cons_of_mem _ (List.mem_cons_of_mem _ List.mem_cons_self))) h'
end Go.Proofs.YtbpembafoloinaaGreatDoor
