/- Filter: how many words there are, walked in the model's own words (a range over a text's runes). -/
import Derived.Test.YtiaiggbimlbkfaaGreatDoorQL4
import Derived.WalkKit
import Derived.BigQuiet
import Derived.Deep.QuietTactic
import Derived.Laws.Externs
import Derived.Laws.BitsLemmas
import Derived.Laws.RangeString
import Derived.Laws.RangeAny
import Derived.LoopTactic
import Derived.KernelRfl
set_option linter.unusedVariables false
set_option linter.unusedSimpArgs false
namespace Go.Proofs.YtiaiggbimlbkfaaGreatDoor
open Go Go.Ab Go.RowKit
set_option maxRecDepth 1000000
set_option maxHeartbeats 2000000
theorem words_run (l : Str) (hl : l.length ≤ 4000000000) (w : World) :
    Calls Tryz.prog 60 #[.string ⟨l.toArray⟩] w fun e w' => e = .returned (.int .i64 (wordsB true l : Nat)) ∧ ∃ pos, w' = w.iter ⟨l.toArray⟩ pos := by
  have hsz : (ByteArray.mk l.toArray).size = l.length := by show l.toArray.size = _; simp
  have htot := wordsB_le l true
  go_enter Tryz.func60, Tryz.ntmps60
  go_wp2
  go_loopw [2, 3] (fun n v w' => ∃ (pos acc : Nat) (ws : Bool), w' = w.iter ⟨l.toArray⟩ pos ∧ n = .int .i64 (acc : Int) ∧ v = .bool ws ∧ acc + wordsB ws (l.drop pos) = wordsB true l) (fun _ _ w' => l.length - w'.iterPos w.heap.size)
  case atStart => exact ⟨0, 0, true, rfl, rfl, rfl, by simp⟩
  case round =>
    obtain ⟨pos, acc, ws, rfl, rfl, rfl, hc⟩ := hrel
    by_cases hp : pos < l.length
    · have hp' : pos < (ByteArray.mk l.toArray).size := by rw [hsz]; exact hp
      have hnx : ∀ ty, (Instr.next (.pointer (some ⟨w.heap.size, 0, none⟩)) true ty).run Tryz.prog (w.iter ⟨l.toArray⟩ pos) = _ := fun ty => run_next_any w _ pos ty hp'
      obtain ⟨h1, h2, h3⟩ := rune_step l pos hp ws
      rw [h3] at hc
      have hcm := decode_le ⟨l.toArray⟩ pos
      change runeAt l pos ≤ _ at hcm
      have hd : Utf8.decode ⟨l.toArray⟩ pos = (runeAt l pos, wideAt l pos) := rfl
      simp only [hd] at hnx
      clear hd
      generalize runeAt l pos = c at hnx hc hcm
      generalize wideAt l pos = d at hnx hc h1 h2
      have hacc : acc ≤ 4000000000 := by omega
      have hwr : IntKind.i64.wrap ((acc : Int) + 1) = (acc : Int) + 1 := by rw [IntKind.wrap_i64]; omega
      by_cases c0 : c = 32
      · subst c0
        rw [show blankN 32 = true from rfl] at hc
        simp only [Bool.true_eq_false, and_false, if_false, Nat.zero_add] at hc
        cases ws with
        | true =>
          go_wp2
          go_roundw
          case rel => exact ⟨pos + d, acc, true, rfl, rfl, rfl, hc⟩
          case measure =>
            simp
            omega
        | false =>
          go_wp2
          go_roundw
          case rel => exact ⟨pos + d, acc, true, rfl, rfl, rfl, hc⟩
          case measure =>
            simp
            omega
      by_cases c1 : c = 9
      · subst c1
        rw [show blankN 9 = true from rfl] at hc
        simp only [Bool.true_eq_false, and_false, if_false, Nat.zero_add] at hc
        cases ws with
        | true =>
          go_wp2
          go_roundw
          case rel => exact ⟨pos + d, acc, true, rfl, rfl, rfl, hc⟩
          case measure =>
            simp
            omega
        | false =>
          go_wp2
          go_roundw
          case rel => exact ⟨pos + d, acc, true, rfl, rfl, rfl, hc⟩
          case measure =>
            simp
            omega
      by_cases c2 : c = 10
      · subst c2
        rw [show blankN 10 = true from rfl] at hc
        simp only [Bool.true_eq_false, and_false, if_false, Nat.zero_add] at hc
        cases ws with
        | true =>
          go_wp2
          go_roundw
          case rel => exact ⟨pos + d, acc, true, rfl, rfl, rfl, hc⟩
          case measure =>
            simp
            omega
        | false =>
          go_wp2
          go_roundw
          case rel => exact ⟨pos + d, acc, true, rfl, rfl, rfl, hc⟩
          case measure =>
            simp
            omega
      have i0 : ((c : Int) == 32) = false := by simp; omega
      have i1 : ((c : Int) == 9) = false := by simp; omega
      have i2 : ((c : Int) == 10) = false := by simp; omega
      rw [show blankN c = false by simp [blankN, c0, c1, c2]] at hc
      cases ws with
      | true =>
        simp only [and_self, if_true] at hc
        go_wp2
        go_roundw
        case rel => exact ⟨pos + d, acc + 1, false, rfl, rfl, rfl, by omega⟩
        case measure =>
          simp
          omega
      | false =>
        simp only [Bool.false_eq_true, false_and, if_false, Nat.zero_add] at hc
        go_wp2
        go_roundw
        case rel => exact ⟨pos + d, acc, false, rfl, rfl, rfl, hc⟩
        case measure =>
          simp
          omega
    · have hp' : ¬ pos < (ByteArray.mk l.toArray).size := by rw [hsz]; exact hp
      have hnx : ∀ ty, (Instr.next (.pointer (some ⟨w.heap.size, 0, none⟩)) true ty).run Tryz.prog (w.iter ⟨l.toArray⟩ pos) = _ := fun ty => run_next_end w _ pos ty hp'
      rw [List.drop_eq_nil_of_le (by omega)] at hc
      simp only [wordsB, Nat.add_zero] at hc
      subst hc
      go_wp2
      go_ret
      exact ⟨rfl, _, rfl⟩
end Go.Proofs.YtiaiggbimlbkfaaGreatDoor
