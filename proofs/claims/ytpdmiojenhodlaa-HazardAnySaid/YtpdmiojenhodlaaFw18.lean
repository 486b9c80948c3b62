/- What the walk lays open at each step; the shapes of tests, loops, ends. -/
import Derived.Test.YtpdmiojenhodlaaFw17
import Derived.Attr
import Derived.Laws.Wrap64
set_option linter.unusedVariables false
set_option linter.unusedSimpArgs false
namespace Go.Ab
attribute [go_sem] callF pureR optR evA evF constA constS put keepF F binX binA boolA aggA eqRes unA convA fieldAddrA fieldA extractA ifaceA boundA lenA maxA minA loadA cellsAt storeA nonNil isFuncF partA
  AV.cells AV.known AV.one slots buildA fillA spl inOrder srcA srcOK idleOp fitS fits eqS eqCells lookupA mapUpdateA mapEntryA entryStoreA rangeA entryA resOk keyFits AV.isAgg

section
variable {P : Program} {x : Ctx} {n : Nat} {Q : AX → AS → Prop} {fr : List (Nat × AV)} {m : Mem} {c : Nat} {ds : List AD}
/-- A test on a slot. -/
theorem S_if {t : Nat} {c1 c2 d : Code} {b : Bool} (ht : (decide (t < n)) = true) (hv : F fr t = .bool b) (h1 : b = true → T P x n c1 ⟨fr, m, c, ds⟩ (Then (fun s' => T P x n d s' Q) Q)) (h2 : b = false → T P x n c2 ⟨fr, m, c, ds⟩ (Then (fun s' => T P x n d s' Q) Q)) :
    T P x n (.seq (.cond (.tmp t) c1 c2) d) ⟨fr, m, c, ds⟩ Q :=
  T_seq (T_cond (b := b) (.bool b) (by simp only [of_decide_eq_true ht, if_true]; exact hv) rfl (by cases b; exact h2 rfl; exact h1 rfl))
theorem R_if {t : Nat} {c1 c2 : Code} {b : Bool} (ht : (decide (t < n)) = true) (hv : F fr t = .bool b) (h1 : b = true → T P x n c1 ⟨fr, m, c, ds⟩ Q) (h2 : b = false → T P x n c2 ⟨fr, m, c, ds⟩ Q) :
    T P x n (.cond (.tmp t) c1 c2) ⟨fr, m, c, ds⟩ Q :=
  T_cond (b := b) (.bool b) (by simp only [of_decide_eq_true ht, if_true]; exact hv) rfl (by cases b; exact h2 rfl; exact h1 rfl)
/-- The test of a loop: on, or out of its block. -/
theorem S_test {t id : Nat} {d : Code} {b : Bool} (ht : (decide (t < n)) = true) (hv : F fr t = .bool b) (h1 : b = true → T P x n d ⟨fr, m, c, ds⟩ Q) (h2 : b = false → Q (.exit id) ⟨fr, m, c, ds⟩) :
    T P x n (.seq (.cond (.tmp t) .skip (.exit id)) d) ⟨fr, m, c, ds⟩ Q :=
  S_if ht hv (fun h => T_skip (h1 h)) (fun h => T_exit (h2 h))
/-- A loop in its block, and what follows: an invariant, a measure. -/
theorem S_loop {id : Nat} {b d : Code} (I : Nat → AS → Prop) (k : Nat) (h0 : I k ⟨fr, m, c, ds⟩)
    (round : ∀ k s, I k s → T P x n b s (Then (fun s' => ∃ k', k' < k ∧ I k' s') (AX.inBlock id (Then (fun s' => T P x n d s' Q) Q)))) : T P x n (.seq (.block id (.loop b)) d) ⟨fr, m, c, ds⟩ Q :=
  T_seq (T_block (T_loop I k h0 round))
end

theorem callOK_of' {P : Program} {f : FuncId} {fn : Func} {n : Nat} {rs : List ResultVar} {c : Code} {xs : List AV} {p : Oid} {e : Eff} (hf : P.funcs[f]? = some fn) (hn : fn.ntmps = n) (hr : fn.results.toList = rs) (hnm : (fn.name != "runtime.NumGoroutine") = true)
    (hl : (Nat.ble xs.length n) = true) (hb : fn.body = some c)
    (hT : ∀ x : Ctx, x.p = p → x.rd = none → P.globals.size ≤ x.ng → T P x n c ⟨slots 0 xs, Mem.of e.need, 0, []⟩ (Done n rs e.need e.upd e.val)) : CallOK P f xs (Oid.under p) e := by
  subst hn; subst hr
  exact callOK_of hf hb hnm (Nat.le_of_ble_eq_true hl) hT

theorem w64 {n : Int} (h1 : -9223372036854775808 ≤ n) (h2 : n ≤ 9223372036854775807) : IntKind.i64.wrap n = n := by
  rw [IntKind.wrap_i64]; omega
end Go.Ab
