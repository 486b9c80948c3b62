/- What the laid variables give; how the arguments of the laws of the store are read. -/
import Derived.Test.YtbpembafoloinaaDoorS26
import Derived.Test.YtbpembafoloinaaDoorFwL
import Derived.Test.YtbpembafoloinaaDoorLaid
import Derived.Test.YtbpembafoloinaaDoorCards
import Derived.Test.YtbpembafoloinaaDoorTie
set_option linter.unusedVariables false
set_option linter.unusedSimpArgs false
namespace Go.Proofs.YtbpembafoloinaaDoor
open Go Go.Ab
set_option maxRecDepth 100000
instance laidChecked : Laid Tryd.checked.prog := laidHere
theorem own : ownKnob Tryd.prog.godebug = none := by kernel_rfl
theorem laidOut : laidOutB Tryd.prog = true := by kernel_rfl
theorem full : ∀ t e, t < Tryd.prog.types.size → Tryd.prog.underlying t = some (.slice e) → 0 < Tryd.prog.cellsOf e := slices_full_of _ (by kernel_rfl)
theorem laid_facts {W : World} (h : laidMetH Tryd.prog LL W) : Laid.facts Tryd.prog (ghAll Tryd.prog.globals.size W) := by
  have h' := laid_h h
  have ht : Lib.TabIs Tryd.prog W "internal/strconv.uint64pow10" .u64 Lib.pow10Tab :=
    tab_of_mem (g := 3) (t := 117) (e := 99) (n := 20) (by kernel_rfl) (by kernel_rfl) (by kernel_rfl) (by kernel_rfl) (by kernel_rfl) (by kernel_rfl) (l := LL) (List.mem_cons_of_mem _ (List.mem_cons_of_mem _ List.mem_cons_self)) h'
  have hn : Tryd.prog.globalNamed "internal/strconv.uint64pow10" = some 3 := by kernel_rfl
  obtain ⟨t1, t2⟩ := ghAll_table (ng := Tryd.prog.globals.size) hn ht
  refine ⟨t1, t2, ?_, ?_⟩
  · exact ghAll_err (P := Tryd.prog) (name := "strconv.ErrSyntax") (ti := 66) (by kernel_rfl) (by kernel_rfl) Tryd.underlying66 (l := LL) (List.mem_cons_of_mem _ (List.mem_cons_of_mem _ (List.mem_cons_of_mem _ (List.mem_cons_of_mem _ List.mem_cons_self)))) h'
  · exact ghAll_err (P := Tryd.prog) (name := "strconv.ErrRange") (ti := 66) (by kernel_rfl) (by kernel_rfl) Tryd.underlying66 (l := LL) (List.mem_cons_of_mem _ (List.mem_cons_of_mem _ (List.mem_cons_of_mem _ List.mem_cons_self))) h'
end Go.Proofs.YtbpembafoloinaaDoor
