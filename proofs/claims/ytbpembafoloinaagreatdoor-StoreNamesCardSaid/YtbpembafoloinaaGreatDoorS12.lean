/- The law's own path and entry; store.New. -/
import Derived.Test.YtbpembafoloinaaGreatDoorS11
set_option linter.unusedVariables false
set_option linter.unusedSimpArgs false
namespace Go.Proofs.YtbpembafoloinaaGreatDoor
open Go Go.Ab
set_option maxRecDepth 20000
set_option maxHeartbeats 4000000
def paths : List Str := [[], [47, 97], [47, 98], [47, 97, 47, 97], [47, 97, 47, 98], [47, 98, 47, 97], [97], [47, 97, 47, 97, 47, 97], [47], [47, 97, 98]]
def pathT (i : UInt8) : Str := paths.getD (i.toNat % 10) default
theorem path_ok (i : UInt8) (p : Oid) : CallOK Tryz.prog 19 [.int .u8 i.toNat] (Oid.under p) ⟨[], .str (pathT i), []⟩ := by
  have hP : [AV.str [], AV.str [47, 97], AV.str [47, 98], AV.str [47, 97, 47, 97], AV.str [47, 97, 47, 98], AV.str [47, 98, 47, 97], AV.str [97], AV.str [47, 97, 47, 97, 47, 97], AV.str [47], AV.str [47, 97, 98]] = paths.map AV.str := rfl
  have hPl : paths.length = 10 := rfl
  have h10 : ((i.toNat : Int)).tmod ((10 : Nat) : Int) = ((i.toNat % 10 : Nat) : Int) := tmod_nat i.toNat 10
  have hlt := i.toNat_lt
  have hm : i.toNat % 10 < 10 := Nat.mod_lt _ (by decide)
  refine fnOK (n := 13) (rs := [.tmp 2]) Tryz.func19 rfl rfl (by decide) rfl rfl rfl ?_; rintro x rfl hrd hng
  (repeat (with_reducible (first | refine K_seq ?_ | refine K_next ?_ | refine K_skip ?_ | refine K_bend ?_ | refine K_block ?_ | refine K_exit ?_ | refine X_code ?_ | refine X_lend ?_ | refine X_here ?_ | refine X_on (by decide) ?_ | refine K_lendL ?_)))
  refine K_ev nmd [] hng (by kernel_rfl) fun hf C S K hC1 hC hS hK => ?_; simp (disch := first | omega | assumption) only [go_sem, ↓reduceIte, Nat.reduceEqDiff, Nat.reduceAdd, Nat.reduceMul, Nat.reduceLT, Nat.reduceLeDiff, reduceCtorEq, Nat.reduceBEq, Int.reduceToNat, Int.reduceNeg]
  refine hK ?_; clear hK hS hC hC1 K S C hf
  (repeat (with_reducible (first | refine K_seq ?_ | refine K_next ?_ | refine K_skip ?_ | refine K_bend ?_ | refine K_block ?_ | refine K_exit ?_ | refine X_code ?_ | refine X_lend ?_ | refine X_here ?_ | refine X_on (by decide) ?_ | refine K_lendL ?_)))
  refine K_ev nmd [] hng (by kernel_rfl) fun hf C S K hC1 hC hS hK => ?_; simp (disch := first | omega | assumption) only [go_sem, ↓reduceIte, Nat.reduceEqDiff, Nat.reduceAdd, Nat.reduceMul, Nat.reduceLT, Nat.reduceLeDiff, reduceCtorEq, Nat.reduceBEq, Int.reduceToNat, Int.reduceNeg]
  refine hK ?_; clear hK hS hC hC1 K S C hf
  (repeat (with_reducible (first | refine K_seq ?_ | refine K_next ?_ | refine K_skip ?_ | refine K_bend ?_ | refine K_block ?_ | refine K_exit ?_ | refine X_code ?_ | refine X_lend ?_ | refine X_here ?_ | refine X_on (by decide) ?_ | refine K_lendL ?_)))
  refine K_ev nmd [] hng (by kernel_rfl) fun hf C S K hC1 hC hS hK => ?_; simp (disch := first | omega | assumption) only [go_sem, ↓reduceIte, Nat.reduceEqDiff, Nat.reduceAdd, Nat.reduceMul, Nat.reduceLT, Nat.reduceLeDiff, reduceCtorEq, Nat.reduceBEq, Int.reduceToNat, Int.reduceNeg, h10, hP, hPl]
  refine hK ?_; clear hK hS hC hC1 K S C hf
  (repeat (first | (with_reducible (first | refine K_seq ?_ | refine K_next ?_ | refine K_skip ?_ | refine K_bend ?_ | refine K_block ?_ | refine K_exit ?_ | refine X_code ?_ | refine X_lend ?_ | refine X_here ?_ | refine X_on (by decide) ?_ | refine K_lendL ?_)) | (refine K_ifT rfl rfl ?_) | (refine K_ifF rfl rfl ?_) | (refine K_ev nmd [] hng (by kernel_rfl) fun hf C S K hC1 hC hS hK => ?_; simp (disch := first | omega | assumption) only [go_sem, ↓reduceIte, Nat.reduceEqDiff, Nat.reduceAdd, Nat.reduceMul, Nat.reduceLT, Nat.reduceLeDiff, reduceCtorEq, Nat.reduceBEq, Int.reduceToNat, Int.reduceNeg]; refine hK ?_; clear hK hS hC hC1 K S C hf)))
  exact K_ret (done1 rfl)
def entryB (m k l : UInt8) : Bits :=
  ⟨(m.toNat % 4 : Nat), (k.toNat % 8 : Nat), if m.toNat % 4 = 1 ∨ m.toNat % 4 = 3 then ([120, 121, 122] : Str).drop (l.toNat % 3) else []⟩
theorem lentry_ok (a b m k l : UInt8) (p : Oid) : CallOK Tryz.prog 20 [.agg [.int .u8 a.toNat, .int .u8 b.toNat, .int .u8 m.toNat, .int .u8 k.toNat, .int .u8 l.toNat]] (Oid.under p) ⟨[], (entryB m k l).av, []⟩ := by
  have h1 : ((m.toNat : Int)).tmod 4 = ((m.toNat % 4 : Nat) : Int) := tmod_nat _ 4
  have h2 : ((k.toNat : Int)).tmod 8 = ((k.toNat % 8 : Nat) : Int) := tmod_nat _ 8
  have h3 : ((l.toNat : Int)).tmod 3 = ((l.toNat % 3 : Nat) : Int) := tmod_nat _ 3
  have g1 := m.toNat_lt
  have g2 := k.toNat_lt
  have g3 := l.toNat_lt
  have g4 : l.toNat % 3 < 3 := Nat.mod_lt _ (by decide)
  refine fnOK (n := 28) (rs := [.cell 2 30]) Tryz.func20 rfl rfl (by decide) rfl rfl rfl ?_; rintro x rfl hrd hng
  (repeat (first | (with_reducible (first | refine K_seq ?_ | refine K_next ?_ | refine K_skip ?_ | refine K_bend ?_ | refine K_block ?_ | refine K_exit ?_ | refine X_code ?_ | refine X_lend ?_ | refine X_here ?_ | refine X_on (by decide) ?_ | refine K_lendL ?_)) | (refine K_ifT rfl rfl ?_) | (refine K_ifF rfl rfl ?_) | (refine K_ev nmd [] hng (by kernel_rfl) fun hf C S K hC1 hC hS hK => ?_; simp (disch := first | omega | assumption) only [go_sem, ↓reduceIte, Nat.reduceEqDiff, Nat.reduceAdd, Nat.reduceMul, Nat.reduceLT, Nat.reduceLeDiff, reduceCtorEq, Nat.reduceBEq, Int.reduceToNat, Int.reduceNeg, h1, h2]; refine hK ?_; clear hK hS hC hC1 K S C hf)))
  refine K_ev nmd [(3, 16)] hng (by kernel_rfl) fun hf C S K hC1 hC hS hK => ?_; simp (disch := first | omega | assumption) only [go_sem, ↓reduceIte, Nat.reduceEqDiff, Nat.reduceAdd, Nat.reduceMul, Nat.reduceLT, Nat.reduceLeDiff, reduceCtorEq, Nat.reduceBEq, Int.reduceToNat, Int.reduceNeg]
  (repeat' (first | (refine evG_split (fun hv => ?_) (fun hv => ?_) <;> (try simp only [decide_eq_true_eq, decide_eq_false_iff_not, Bool.not_eq_true', Bool.not_eq_false', Bool.and_eq_true] at hv) <;> simp (disch := first | omega | assumption) only [go_sem, ↓reduceIte, Nat.reduceEqDiff, Nat.reduceAdd, Nat.reduceMul, Nat.reduceLT, Nat.reduceLeDiff, reduceCtorEq, Nat.reduceBEq, Int.reduceToNat, Int.reduceNeg, hv]) | (refine hK ?_; clear hK hS hC hC1 K S C hf)))
  all_goals (repeat (first | (with_reducible (first | refine K_seq ?_ | refine K_next ?_ | refine K_skip ?_ | refine K_bend ?_ | refine K_block ?_ | refine K_exit ?_ | refine X_code ?_ | refine X_lend ?_ | refine X_here ?_ | refine X_on (by decide) ?_ | refine K_lendL ?_)) | (refine K_ifT rfl rfl ?_) | (refine K_ifF rfl rfl ?_) | (refine K_ev nmd [] hng (by kernel_rfl) fun hf C S K hC1 hC hS hK => ?_; simp (disch := first | omega | assumption) only [go_sem, ↓reduceIte, Nat.reduceEqDiff, Nat.reduceAdd, Nat.reduceMul, Nat.reduceLT, Nat.reduceLeDiff, reduceCtorEq, Nat.reduceBEq, Int.reduceToNat, Int.reduceNeg, h3]; refine hK ?_; clear hK hS hC hC1 K S C hf)))
  · refine K_ifd rfl rfl (fun hb => ?_) (fun hb => ?_)
    · have hm : m.toNat % 4 = 3 := by omega
      have hE : entryB m k l = ⟨((m.toNat % 4 : Nat) : Int), ((k.toNat % 8 : Nat) : Int), ([120, 121, 122] : Str).drop (l.toNat % 3)⟩ := by rw [entryB, if_pos (.inr hm)]
      rw [hE]
      (repeat (first | (with_reducible (first | refine K_seq ?_ | refine K_next ?_ | refine K_skip ?_ | refine K_bend ?_ | refine K_block ?_ | refine K_exit ?_ | refine X_code ?_ | refine X_lend ?_ | refine X_here ?_ | refine X_on (by decide) ?_ | refine K_lendL ?_)) | (refine K_ifT rfl rfl ?_) | (refine K_ifF rfl rfl ?_) | (refine K_ev nmd [] hng (by kernel_rfl) fun hf C S K hC1 hC hS hK => ?_; simp (disch := first | omega | assumption) only [go_sem, ↓reduceIte, Nat.reduceEqDiff, Nat.reduceAdd, Nat.reduceMul, Nat.reduceLT, Nat.reduceLeDiff, reduceCtorEq, Nat.reduceBEq, Int.reduceToNat, Int.reduceNeg, h3]; refine hK ?_; clear hK hS hC hC1 K S C hf)))
      exact K_ret (done_plain (by simp (disch := first | omega | assumption) only [go_sem, ↓reduceIte, Nat.reduceEqDiff, Nat.reduceAdd, Nat.reduceMul, Nat.reduceLT, Nat.reduceLeDiff, reduceCtorEq, Nat.reduceBEq, Int.reduceToNat, Int.reduceNeg, Bits.av]))
    · have hE : entryB m k l = ⟨((m.toNat % 4 : Nat) : Int), ((k.toNat % 8 : Nat) : Int), []⟩ := by rw [entryB, if_neg (by omega)]
      rw [hE]
      (repeat (first | (with_reducible (first | refine K_seq ?_ | refine K_next ?_ | refine K_skip ?_ | refine K_bend ?_ | refine K_block ?_ | refine K_exit ?_ | refine X_code ?_ | refine X_lend ?_ | refine X_here ?_ | refine X_on (by decide) ?_ | refine K_lendL ?_)) | (refine K_ifT rfl rfl ?_) | (refine K_ifF rfl rfl ?_) | (refine K_ev nmd [] hng (by kernel_rfl) fun hf C S K hC1 hC hS hK => ?_; simp (disch := first | omega | assumption) only [go_sem, ↓reduceIte, Nat.reduceEqDiff, Nat.reduceAdd, Nat.reduceMul, Nat.reduceLT, Nat.reduceLeDiff, reduceCtorEq, Nat.reduceBEq, Int.reduceToNat, Int.reduceNeg]; refine hK ?_; clear hK hS hC hC1 K S C hf)))
      exact K_ret (done_plain (by simp (disch := first | omega | assumption) only [go_sem, ↓reduceIte, Nat.reduceEqDiff, Nat.reduceAdd, Nat.reduceMul, Nat.reduceLT, Nat.reduceLeDiff, reduceCtorEq, Nat.reduceBEq, Int.reduceToNat, Int.reduceNeg, Bits.av]))
  · have hm : m.toNat % 4 = 1 := by omega
    have hE : entryB m k l = ⟨1, ((k.toNat % 8 : Nat) : Int), ([120, 121, 122] : Str).drop (l.toNat % 3)⟩ := by rw [entryB, if_pos (.inl hm), hm]; rfl
    rw [hE]
    exact K_ret (done_plain (by simp (disch := first | omega | assumption) only [go_sem, ↓reduceIte, Nat.reduceEqDiff, Nat.reduceAdd, Nat.reduceMul, Nat.reduceLT, Nat.reduceLeDiff, reduceCtorEq, Nat.reduceBEq, Int.reduceToNat, Int.reduceNeg, Bits.av]))
theorem new_ok (p : Oid) : CallOK Tryz.prog 7 [] (Oid.under p) ⟨[], .ptr (.sub 1 2 p) 0, [(.sub 1 2 p, some (.cells [.map (.sub 1 0 p), .nilPtr])), (.sub 1 0 p, some (.map [.ss] false [] 0))]⟩ := by
  refine fnOK (n := 4) (rs := [.tmp 0]) Tryz.func7 rfl rfl (by decide) rfl rfl rfl ?_; rintro x rfl hrd hng
  (repeat (first | (with_reducible (first | refine K_seq ?_ | refine K_next ?_ | refine K_skip ?_ | refine K_bend ?_ | refine K_block ?_ | refine K_exit ?_ | refine X_code ?_ | refine X_lend ?_ | refine X_here ?_ | refine X_on (by decide) ?_ | refine K_lendL ?_)) | (refine K_ifT rfl rfl ?_) | (refine K_ifF rfl rfl ?_) | (refine K_ev nmd [] hng (by kernel_rfl) fun hf C S K hC1 hC hS hK => ?_; simp (disch := first | omega | assumption) only [go_sem, ↓reduceIte, Nat.reduceEqDiff, Nat.reduceAdd, Nat.reduceMul, Nat.reduceLT, Nat.reduceLeDiff, reduceCtorEq, Nat.reduceBEq, Int.reduceToNat, Int.reduceNeg]; refine hK ?_; clear hK hS hC hC1 K S C hf)))
  refine K_ret (done_upd rfl ?_ ?_)
  all_goals simp [Mem.of_cons_at]
end Go.Proofs.YtbpembafoloinaaGreatDoor
