/- Filter: what is told; the map of utilities; Run. -/
import Derived.Test.YtiaiggbimlbkfaaGreatDoorQ1
set_option linter.unusedVariables false
set_option linter.unusedSimpArgs false
namespace Go.Proofs.YtiaiggbimlbkfaaGreatDoor
open Go Go.Ab
set_option maxRecDepth 20000
set_option maxHeartbeats 4000000
structure Res where
  st : Int
  out : Str
  err : Str
  deriving DecidableEq
def Res.av (r : Res) : AV := .agg [.int .i64 r.st, .str r.out, .str r.err]
def usageR (n : Str) : Res := ⟨2, [], n ++ [58, 32, 117, 115, 97, 103, 101, 10]⟩
def toldR (s : Str) : Res := ⟨0, s, []⟩
def badR : Res := ⟨0, [], []⟩
theorem told_ok (s : Str) (p : Oid) : CallOK Tryz.prog 52 [.str s] (Oid.under p) ⟨[], .tuple [(toldR s).av, .bool true], []⟩ := by
  refine fnOK (n := 6) (rs := [.cell 2 32, .tmp 3]) Tryz.func52 rfl rfl (by decide) rfl rfl rfl ?_; rintro x rfl hrd hng
  (repeat (first | (refine K_ifT rfl rfl ?_) | (refine K_ifF rfl rfl ?_) | (refine K_ev nmd [] hng (by kernel_rfl) fun hf C S K hC1 hC hS hK => ?_; simp (disch := first | omega | assumption) only [go_sem]; refine hK ?_; clear hK hS hC hC1 K S C hf) | ((first | refine zk ?_ | refine zn ?_ | refine ze ?_); with_reducible (constructor; repeat constructor); try refine zl ?_)))
  exact K_ret (done_plain (by simp (disch := first | omega | assumption) only [go_sem, Res.av, toldR, badR, usageR]))
theorem bad_ok (p : Oid) : CallOK Tryz.prog 55 [] (Oid.under p) ⟨[], .tuple [badR.av, .bool false], []⟩ := by
  refine fnOK (n := 3) (rs := [.cell 0 32, .tmp 1]) Tryz.func55 rfl rfl (by decide) rfl rfl rfl ?_; rintro x rfl hrd hng
  (repeat (first | (refine K_ifT rfl rfl ?_) | (refine K_ifF rfl rfl ?_) | (refine K_ev nmd [] hng (by kernel_rfl) fun hf C S K hC1 hC hS hK => ?_; simp (disch := first | omega | assumption) only [go_sem]; refine hK ?_; clear hK hS hC hC1 K S C hf) | ((first | refine zk ?_ | refine zn ?_ | refine ze ?_); with_reducible (constructor; repeat constructor); try refine zl ?_)))
  exact K_ret (done_plain (by simp (disch := first | omega | assumption) only [go_sem, Res.av, toldR, badR, usageR]))
theorem usage_ok (s : Str) (hl : s.length ≤ 4000000000) (p : Oid) : CallOK Tryz.prog 40 [.str s] (Oid.under p) ⟨[], (usageR s).av, []⟩ := by
  refine fnOK (n := 6) (rs := [.cell 2 32]) Tryz.func40 rfl rfl (by decide) rfl rfl rfl ?_; rintro x rfl hrd hng
  (repeat (first | (refine K_ifT rfl rfl ?_) | (refine K_ifF rfl rfl ?_) | (refine K_ev nmd [] hng (by kernel_rfl) fun hf C S K hC1 hC hS hK => ?_; simp (disch := first | omega | assumption) only [go_sem]; refine hK ?_; clear hK hS hC hC1 K S C hf) | ((first | refine zk ?_ | refine zn ?_ | refine ze ?_); with_reducible (constructor; repeat constructor); try refine zl ?_)))
  exact K_ret (done_plain (by simp (disch := first | omega | assumption) only [go_sem, Res.av, toldR, badR, usageR]))
theorem usageR_ok (s : Str) (hl : s.length ≤ 4000000000) (p : Oid) : CallOK Tryz.prog 49 [.str s] (Oid.under p) ⟨[], (usageR s).av, []⟩ := by
  refine fnOK (n := 6) (rs := [.cell 2 32]) Tryz.func49 rfl rfl (by decide) rfl rfl rfl ?_; rintro x rfl hrd hng
  (repeat (first | (refine K_ifT rfl rfl ?_) | (refine K_ifF rfl rfl ?_) | (refine K_ev nmd [] hng (by kernel_rfl) fun hf C S K hC1 hC hS hK => ?_; simp (disch := first | omega | assumption) only [go_sem]; refine hK ?_; clear hK hS hC hC1 K S C hf) | ((first | refine zk ?_ | refine zn ?_ | refine ze ?_); with_reducible (constructor; repeat constructor); try refine zl ?_)))
  exact K_ret (done_plain (by simp (disch := first | omega | assumption) only [go_sem, Res.av, toldR, badR, usageR]))
/-- The map of utilities, as it grows. -/
def allU : List ME := [⟨.str [116, 114, 117, 101], .fn (.func 27) [] [], 0⟩, ⟨.str [102, 97, 108, 115, 101], .fn (.func 28) [] [], 1⟩, ⟨.str [101, 99, 104, 111], .fn (.func 29) [] [], 2⟩, ⟨.str [104, 101, 97, 100], .fn (.func 30) [] [], 3⟩, ⟨.str [116, 97, 105, 108], .fn (.func 31) [] [], 4⟩, ⟨.str [119, 99], .fn (.func 32) [] [], 5⟩, ⟨.str [115, 111, 114, 116], .fn (.func 33) [] [], 6⟩, ⟨.str [117, 110, 105, 113], .fn (.func 34) [] [], 7⟩, ⟨.str [99, 117, 116], .fn (.func 35) [] [], 8⟩, ⟨.str [116, 114], .fn (.func 36) [] [], 9⟩, ⟨.str [103, 114, 101, 112], .fn (.func 37) [] [], 10⟩, ⟨.str [98, 97, 115, 101, 110, 97, 109, 101], .fn (.func 38) [] [], 11⟩, ⟨.str [100, 105, 114, 110, 97, 109, 101], .fn (.func 39) [] [], 12⟩]
def FM (n : Nat) : List ME := allU.take n
theorem fm_s0 : setE (.str [116, 114, 117, 101]) (.fn (.func 27) [] []) 0 [] = FM 1 := by kernel_rfl
theorem fm_h0 : hasE (.str [116, 114, 117, 101]) [] = false := by kernel_rfl
theorem fm_s1 : setE (.str [102, 97, 108, 115, 101]) (.fn (.func 28) [] []) 1 (FM 1) = FM 2 := by kernel_rfl
theorem fm_h1 : hasE (.str [102, 97, 108, 115, 101]) (FM 1) = false := by kernel_rfl
theorem fm_s2 : setE (.str [101, 99, 104, 111]) (.fn (.func 29) [] []) 2 (FM 2) = FM 3 := by kernel_rfl
theorem fm_h2 : hasE (.str [101, 99, 104, 111]) (FM 2) = false := by kernel_rfl
theorem fm_s3 : setE (.str [104, 101, 97, 100]) (.fn (.func 30) [] []) 3 (FM 3) = FM 4 := by kernel_rfl
theorem fm_h3 : hasE (.str [104, 101, 97, 100]) (FM 3) = false := by kernel_rfl
theorem fm_s4 : setE (.str [116, 97, 105, 108]) (.fn (.func 31) [] []) 4 (FM 4) = FM 5 := by kernel_rfl
theorem fm_h4 : hasE (.str [116, 97, 105, 108]) (FM 4) = false := by kernel_rfl
theorem fm_s5 : setE (.str [119, 99]) (.fn (.func 32) [] []) 5 (FM 5) = FM 6 := by kernel_rfl
theorem fm_h5 : hasE (.str [119, 99]) (FM 5) = false := by kernel_rfl
theorem fm_s6 : setE (.str [115, 111, 114, 116]) (.fn (.func 33) [] []) 6 (FM 6) = FM 7 := by kernel_rfl
theorem fm_h6 : hasE (.str [115, 111, 114, 116]) (FM 6) = false := by kernel_rfl
theorem fm_s7 : setE (.str [117, 110, 105, 113]) (.fn (.func 34) [] []) 7 (FM 7) = FM 8 := by kernel_rfl
theorem fm_h7 : hasE (.str [117, 110, 105, 113]) (FM 7) = false := by kernel_rfl
theorem fm_s8 : setE (.str [99, 117, 116]) (.fn (.func 35) [] []) 8 (FM 8) = FM 9 := by kernel_rfl
theorem fm_h8 : hasE (.str [99, 117, 116]) (FM 8) = false := by kernel_rfl
theorem fm_s9 : setE (.str [116, 114]) (.fn (.func 36) [] []) 9 (FM 9) = FM 10 := by kernel_rfl
theorem fm_h9 : hasE (.str [116, 114]) (FM 9) = false := by kernel_rfl
theorem fm_s10 : setE (.str [103, 114, 101, 112]) (.fn (.func 37) [] []) 10 (FM 10) = FM 11 := by kernel_rfl
theorem fm_h10 : hasE (.str [103, 114, 101, 112]) (FM 10) = false := by kernel_rfl
theorem fm_s11 : setE (.str [98, 97, 115, 101, 110, 97, 109, 101]) (.fn (.func 38) [] []) 11 (FM 11) = FM 12 := by kernel_rfl
theorem fm_h11 : hasE (.str [98, 97, 115, 101, 110, 97, 109, 101]) (FM 11) = false := by kernel_rfl
theorem fm_s12 : setE (.str [100, 105, 114, 110, 97, 109, 101]) (.fn (.func 39) [] []) 12 (FM 12) = FM 13 := by kernel_rfl
theorem fm_h12 : hasE (.str [100, 105, 114, 110, 97, 109, 101]) (FM 12) = false := by kernel_rfl
theorem run_nil (t : Str) (p : Oid) : CallOK Tryz.prog 19 [.list 1 [], .str t] (Oid.under p) ⟨[], .tuple [badR.av, .bool false], []⟩ := by
  refine fnOK (n := 42) (rs := [.cell 4 32, .tmp 5]) Tryz.func19 rfl rfl (by decide) rfl rfl rfl ?_; rintro x rfl hrd hng
  (try ((first | refine zk ?_ | refine zn ?_ | refine ze ?_); with_reducible (constructor; repeat constructor)); try refine zl ?_)
  refine K_ev nmd [] hng (by kernel_rfl) fun hf C S K hC1 hC hS hK => ?_; simp (disch := first | omega | assumption) only [go_sem]
  refine hK ?_; clear hK hS hC hC1 K S C hf
  (try ((first | refine zk ?_ | refine zn ?_ | refine ze ?_); with_reducible (constructor; repeat constructor)); try refine zl ?_)
  refine K_ev nmd [] hng (by kernel_rfl) fun hf C S K hC1 hC hS hK => ?_; simp (disch := first | omega | assumption) only [go_sem, Nat.reduceAdd, Bool.false_eq_true, if_false, fm_s0, fm_h0, fm_s1, fm_h1, fm_s2, fm_h2, fm_s3, fm_h3, fm_s4, fm_h4, fm_s5, fm_h5, fm_s6, fm_h6, fm_s7, fm_h7, fm_s8, fm_h8, fm_s9, fm_h9, fm_s10, fm_h10, fm_s11, fm_h11, fm_s12, fm_h12]
  refine hK ?_; clear hK hS hC hC1 K S C hf
  (repeat (first | (refine K_ifT rfl rfl ?_) | (refine K_ifF rfl rfl ?_) | (refine K_ev nmd [] hng (by kernel_rfl) fun hf C S K hC1 hC hS hK => ?_; simp (disch := first | omega | assumption) only [go_sem]; refine hK ?_; clear hK hS hC hC1 K S C hf) | ((first | refine zk ?_ | refine zn ?_ | refine ze ?_); with_reducible (constructor; repeat constructor); try refine zl ?_)))
  exact K_ret (done_plain (by simp (disch := first | omega | assumption) only [go_sem, Res.av, toldR, badR, usageR]))
theorem run_none (nm : Str) (args : List Str) (t : Str) (hh : hasE (.str nm) (FM 13) = false) (p : Oid) : CallOK Tryz.prog 19 [.list 1 ((nm :: args).map AV.str), .str t] (Oid.under p) ⟨[], .tuple [badR.av, .bool false], []⟩ := by
  refine fnOK (n := 42) (rs := [.cell 4 32, .tmp 5]) Tryz.func19 rfl rfl (by decide) rfl rfl rfl ?_; rintro x rfl hrd hng
  (try ((first | refine zk ?_ | refine zn ?_ | refine ze ?_); with_reducible (constructor; repeat constructor)); try refine zl ?_)
  refine K_ev nmd [] hng (by kernel_rfl) fun hf C S K hC1 hC hS hK => ?_; simp (disch := first | omega | assumption) only [go_sem]
  refine hK ?_; clear hK hS hC hC1 K S C hf
  (try ((first | refine zk ?_ | refine zn ?_ | refine ze ?_); with_reducible (constructor; repeat constructor)); try refine zl ?_)
  refine K_ev nmd [] hng (by kernel_rfl) fun hf C S K hC1 hC hS hK => ?_; simp (disch := first | omega | assumption) only [go_sem, Nat.reduceAdd, Bool.false_eq_true, if_false, fm_s0, fm_h0, fm_s1, fm_h1, fm_s2, fm_h2, fm_s3, fm_h3, fm_s4, fm_h4, fm_s5, fm_h5, fm_s6, fm_h6, fm_s7, fm_h7, fm_s8, fm_h8, fm_s9, fm_h9, fm_s10, fm_h10, fm_s11, fm_h11, fm_s12, fm_h12]
  refine hK ?_; clear hK hS hC hC1 K S C hf
  (repeat (first | (refine K_ifT rfl rfl ?_) | (refine K_ifF rfl rfl ?_) | (refine K_ev nmd [] hng (by kernel_rfl) fun hf C S K hC1 hC hS hK => ?_; simp (disch := first | omega | assumption) only [go_sem, hh]; (repeat ((first | refine hC1 _ () (by simp (disch := first | omega | assumption) only [go_sem]) ?_); simp (disch := first | omega | assumption) only [go_sem])); refine hK ?_; clear hK hS hC hC1 K S C hf) | ((first | refine zk ?_ | refine zn ?_ | refine ze ?_); with_reducible (constructor; repeat constructor); try refine zl ?_)))
  exact K_ret (done_plain (by simp (disch := first | omega | assumption) only [go_sem, Res.av, toldR, badR, usageR]))
theorem run_any (nm : Str) (hn : nm.length ≤ 4000000000) (args : List Str) (t : Str) (fu : Nat) (hh : hasE (.str nm) (FM 13) = true) (hv : valE (.str nm) .nilFn (FM 13) = .fn (.func fu) [] []) (r : Res) (ok : Bool) (p : Oid)
    (hU : ∀ p, p.mono = false → CallOK Tryz.prog fu [.list 1 (args.map AV.str), .str t] (Oid.under p) ⟨[], .tuple [r.av, .bool ok], []⟩) (hp : p.mono = false) :
    CallOK Tryz.prog 19 [.list 1 ((nm :: args).map AV.str), .str t] (Oid.under p) ⟨[], .tuple [(if ok = true then r else usageR nm).av, .bool true], []⟩ := by
  obtain ⟨st, out, err⟩ := r
  refine fnOK (n := 42) (rs := [.cell 4 32, .tmp 5]) Tryz.func19 rfl rfl (by decide) rfl rfl rfl ?_; rintro x rfl hrd hng
  (try ((first | refine zk ?_ | refine zn ?_ | refine ze ?_); with_reducible (constructor; repeat constructor)); try refine zl ?_)
  refine K_ev nmd [] hng (by kernel_rfl) fun hf C S K hC1 hC hS hK => ?_; simp (disch := first | omega | assumption) only [go_sem]
  refine hK ?_; clear hK hS hC hC1 K S C hf
  (try ((first | refine zk ?_ | refine zn ?_ | refine ze ?_); with_reducible (constructor; repeat constructor)); try refine zl ?_)
  refine K_ev nmd [] hng (by kernel_rfl) fun hf C S K hC1 hC hS hK => ?_; simp (disch := first | omega | assumption) only [go_sem, Nat.reduceAdd, Bool.false_eq_true, if_false, fm_s0, fm_h0, fm_s1, fm_h1, fm_s2, fm_h2, fm_s3, fm_h3, fm_s4, fm_h4, fm_s5, fm_h5, fm_s6, fm_h6, fm_s7, fm_h7, fm_s8, fm_h8, fm_s9, fm_h9, fm_s10, fm_h10, fm_s11, fm_h11, fm_s12, fm_h12]
  refine hK ?_; clear hK hS hC hC1 K S C hf
  (repeat (first | (refine K_ifT rfl rfl ?_) | (refine K_ifF rfl rfl ?_) | (refine K_ev nmd [] hng (by kernel_rfl) fun hf C S K hC1 hC hS hK => ?_; simp (disch := first | omega | assumption) only [go_sem, hh, hv]; (repeat ((first | refine hC1 _ () (by simp (disch := first | omega | assumption) only [go_sem]) ?_); simp (disch := first | omega | assumption) only [go_sem])); refine hK ?_; clear hK hS hC hC1 K S C hf) | ((first | refine zk ?_ | refine zn ?_ | refine ze ?_); with_reducible (constructor; repeat constructor); try refine zl ?_)))
  refine K_ev nmd [] hng (by kernel_rfl) fun hf C S K hC1 hC hS hK => ?_; simp (disch := first | omega | assumption) only [go_sem, Res.av]
  (repeat' (first | (refine evG_split (fun hv => ?_) (fun hv => ?_) <;> (try simp only [zb1, zb2, zb3, zb4, zb5] at hv) <;> simp (disch := first | omega | assumption) only [go_sem, hv, Res.av]) | (refine hC1 _ (hU _ (mono_sub' rfl hp)) (by simp (disch := first | omega | assumption) only [go_sem, Res.av]) ?_; simp (disch := first | omega | assumption) only [go_sem, Res.av]) | (refine hK ?_; clear hK hS hC hC1 K S C hf)))
  (repeat (first | (refine K_ifT rfl rfl ?_) | (refine K_ifF rfl rfl ?_) | (refine K_ev nmd [] hng (by kernel_rfl) fun hf C S K hC1 hC hS hK => ?_; simp (disch := first | omega | assumption) only [go_sem]; refine hK ?_; clear hK hS hC hC1 K S C hf) | ((first | refine zk ?_ | refine zn ?_ | refine ze ?_); with_reducible (constructor; repeat constructor); try refine zl ?_)))
  cases ok with
  | true =>
    (repeat (first | (refine K_ifT rfl rfl ?_) | (refine K_ifF rfl rfl ?_) | (refine K_ev nmd [] hng (by kernel_rfl) fun hf C S K hC1 hC hS hK => ?_; simp (disch := first | omega | assumption) only [go_sem, Bool.not_true, Res.av]; (repeat ((first | refine hC1 _ () (by simp (disch := first | omega | assumption) only [go_sem]) ?_); simp (disch := first | omega | assumption) only [go_sem])); refine hK ?_; clear hK hS hC hC1 K S C hf) | ((first | refine zk ?_ | refine zn ?_ | refine ze ?_); with_reducible (constructor; repeat constructor); try refine zl ?_)))
    exact K_ret (done_plain (by simp (disch := first | omega | assumption) only [go_sem, Res.av, toldR, badR, usageR]))
  | false =>
    (repeat (first | (refine K_ifT rfl rfl ?_) | (refine K_ifF rfl rfl ?_) | (refine K_ev nmd [] hng (by kernel_rfl) fun hf C S K hC1 hC hS hK => ?_; simp (disch := first | omega | assumption) only [go_sem, Bool.not_false, Res.av, usageR]; (repeat ((first | refine hC1 _ (usage_ok nm hn _) (by simp (disch := first | omega | assumption) only [go_sem]) ?_); simp (disch := first | omega | assumption) only [go_sem])); refine hK ?_; clear hK hS hC hC1 K S C hf) | ((first | refine zk ?_ | refine zn ?_ | refine ze ?_); with_reducible (constructor; repeat constructor); try refine zl ?_)))
    exact K_ret (done_plain (by simp (disch := first | omega | assumption) only [go_sem, Res.av, toldR, badR, usageR]))
end Go.Proofs.YtiaiggbimlbkfaaGreatDoor
