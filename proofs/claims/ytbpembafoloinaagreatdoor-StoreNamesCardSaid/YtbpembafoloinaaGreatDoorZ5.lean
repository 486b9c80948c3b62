/- The reference's store: a place put. -/
import Derived.Test.YtbpembafoloinaaGreatDoorZ4
set_option linter.unusedVariables false
set_option linter.unusedSimpArgs false
namespace Go.Proofs.YtbpembafoloinaaGreatDoor
open Go Go.Ab
set_option maxRecDepth 20000
set_option maxHeartbeats 4000000
def putW (tr : Bool) (n : Str) (W : WL) : WL := if n = [] then W else if tr then insG ltB n (some ()) W else W
theorem done_updR {P : Program} {rs : List ResultVar} {need : List (Oid × AObj)} {fr : List (Nat × AV)} {m : Mem} {c : Nat} {val : AV} {upd : List (Oid × Option AObj)} (h1 : retM P m fr rs = some val)
    (h2 : ∀ q, q ∈ upd → ∀ o, q.2 = some o → m q.1 = some o) (h3 : ∀ q, q ∈ need → (∀ r, r ∈ upd → ¬ r.1 = q.1) → m q.1 = some q.2) : DoneN P rs need (fun v u => v = val ∧ u = upd) (fun _ _ => False) .ret ⟨fr, m, c, []⟩ :=
  done_ret val upd h1 ⟨rfl, rfl⟩ (upd_sub h2 h3)
theorem putR_ok (r : Oid) (OO RR : AV) (L : PL) (hL : L.length ≤ 1000000) (W : WL) (hW : W.length ≤ 1000000) (hWs : SortG ltB W) (tr : Bool) (n : Str) (b : Bits) (p : Oid) (hr : ¬ Oid.under p r) :
    CallOK Tryz.prog 10 [.ptr r 0, .str n, b.av] (Oid.under p) ⟨[(r, .cells [.list 4 (L.map pairAV), OO, RR, .list 1 (W.map fun q => .str q.1), .bool tr])], .tuple [], [(r, some (.cells [.list 4 ((putP n b L).map pairAV), OO, RR, .list 1 ((putW tr n W).map fun q => .str q.1), .bool tr]))]⟩ := by
  have hr' : ∀ c i, ¬ Oid.under (.sub c i p) r := fun c i h => hr (Oid.under_sub h)
  simp only [Bits.av]
  refine fnOK (n := 141) (rs := []) Tryz.func10 rfl rfl (by decide) rfl rfl rfl ?_; rintro x rfl hrd hng
  refine T_gend ?_
  (repeat (first | (with_reducible (first | refine K_seq ?_ | refine K_next ?_ | refine K_skip ?_ | refine K_bend ?_ | refine K_block ?_ | refine K_exit ?_ | refine X_code ?_ | refine X_lend ?_ | refine X_here ?_ | refine X_on (by decide) ?_ | refine K_lendL ?_)) | (refine K_ifT rfl rfl ?_) | (refine K_ifF rfl rfl ?_) | (refine K_ev nmd [] hng (by kernel_rfl) fun hf C S K hC1 hC hS hK => ?_; simp (disch := first | omega | assumption) only [go_sem, ↓reduceIte, Nat.reduceEqDiff, Nat.reduceAdd, Nat.reduceMul, Nat.reduceLT, Nat.reduceLeDiff, reduceCtorEq, Nat.reduceBEq, Int.reduceToNat, Int.reduceNeg, Oid.not_under_sub hr, Oid.sub_not_under hr]; refine hK ?_; clear hK hS hC hC1 K S C hf)))
  refine K_ifd rfl rfl (fun hb => ?_) (fun hb => ?_)
  · have h1 : putP n b L = L := if_pos hb
    have h2 : putW tr n W = W := if_pos hb
    rw [h1, h2]
    (repeat (first | (with_reducible (first | refine K_seq ?_ | refine K_next ?_ | refine K_skip ?_ | refine K_bend ?_ | refine K_block ?_ | refine K_exit ?_ | refine X_code ?_ | refine X_lend ?_ | refine X_here ?_ | refine X_on (by decide) ?_ | refine K_lendL ?_)) | (refine K_ifT rfl rfl ?_) | (refine K_ifF rfl rfl ?_) | (refine K_ev nmd [] hng (by kernel_rfl) fun hf C S K hC1 hC hS hK => ?_; simp (disch := first | omega | assumption) only [go_sem, ↓reduceIte, Nat.reduceEqDiff, Nat.reduceAdd, Nat.reduceMul, Nat.reduceLT, Nat.reduceLeDiff, reduceCtorEq, Nat.reduceBEq, Int.reduceToNat, Int.reduceNeg, Oid.not_under_sub hr, Oid.sub_not_under hr]; refine hK ?_; clear hK hS hC hC1 K S C hf)))
    refine K_ret (.now (done_updR rfl ?_ ?_))
    all_goals simp only [List.mem_cons, List.not_mem_nil, or_false, forall_eq_or_imp, forall_eq, Option.some.injEq, forall_eq', Mem.of_cons_at, eq_self, if_true, ↓reduceIte, reduceCtorEq, implies_true, not_true_eq_false, false_imp_iff, true_and, and_true, false_and, and_false, imp_self]
  · have hn : ¬ n = [] := hb
    (repeat (with_reducible (first | refine K_seq ?_ | refine K_next ?_ | refine K_skip ?_ | refine K_bend ?_ | refine K_block ?_ | refine K_exit ?_ | refine X_code ?_ | refine X_lend ?_ | refine X_here ?_ | refine X_on (by decide) ?_ | refine K_lendL ?_)))
    refine K_ev nmd [] hng (by kernel_rfl) fun hf C S K hC1 hC hS hK => ?_; simp (disch := first | omega | assumption) only [go_sem, ↓reduceIte, Nat.reduceEqDiff, Nat.reduceAdd, Nat.reduceMul, Nat.reduceLT, Nat.reduceLeDiff, reduceCtorEq, Nat.reduceBEq, Int.reduceToNat, Int.reduceNeg, Oid.not_under_sub hr, Oid.sub_not_under hr]
    refine hK ?_; clear hK hS hC hC1 K S C hf
    refine K_next ?_
    refine K_cut [0, 1, 5] (fun s' => ∃ (B : Bits) (c : Nat), 0 < c ∧ s' = ⟨[(0, .ptr r 0), (1, .str n), (5, .ptr (.sub 0 0 x.p) 0)], Mem.of [(r, .cells [.list 4 (L.map pairAV), OO, RR, .list 1 (W.map fun q => .str q.1), .bool tr]), (.sub 0 0 x.p, .cells [.int .i64 B.k, .int .i64 B.m, .str B.l])], c, []⟩ ∧ (B.k = 0 ↔ b.k = 0) ∧ (¬ b.k = 0 → B = b)) ?_ ?_
    · refine K_ifd rfl rfl (fun hb => ?_) (fun hb => ?_)
      · (repeat (first | (with_reducible (first | refine K_seq ?_ | refine K_next ?_ | refine K_skip ?_ | refine K_bend ?_ | refine K_block ?_ | refine K_exit ?_ | refine X_code ?_ | refine X_lend ?_ | refine X_here ?_ | refine X_on (by decide) ?_ | refine K_lendL ?_)) | (refine K_ifT rfl rfl ?_) | (refine K_ifF rfl rfl ?_) | (refine K_ev nmd [] hng (by kernel_rfl) fun hf C S K hC1 hC hS hK => ?_; simp (disch := first | omega | assumption) only [go_sem, ↓reduceIte, Nat.reduceEqDiff, Nat.reduceAdd, Nat.reduceMul, Nat.reduceLT, Nat.reduceLeDiff, reduceCtorEq, Nat.reduceBEq, Int.reduceToNat, Int.reduceNeg, Oid.not_under_sub hr, Oid.sub_not_under hr]; refine hK ?_; clear hK hS hC hC1 K S C hf)))
        exact K_cutN ⟨Bits.no, 4, by decide, rfl, ⟨fun _ => hb, fun _ => rfl⟩, fun h => absurd hb h⟩
      · (repeat (first | (with_reducible (first | refine K_seq ?_ | refine K_next ?_ | refine K_skip ?_ | refine K_bend ?_ | refine K_block ?_ | refine K_exit ?_ | refine X_code ?_ | refine X_lend ?_ | refine X_here ?_ | refine X_on (by decide) ?_ | refine K_lendL ?_)) | (refine K_ifT rfl rfl ?_) | (refine K_ifF rfl rfl ?_) | (refine K_ev nmd [] hng (by kernel_rfl) fun hf C S K hC1 hC hS hK => ?_; simp (disch := first | omega | assumption) only [go_sem, ↓reduceIte, Nat.reduceEqDiff, Nat.reduceAdd, Nat.reduceMul, Nat.reduceLT, Nat.reduceLeDiff, reduceCtorEq, Nat.reduceBEq, Int.reduceToNat, Int.reduceNeg, Oid.not_under_sub hr, Oid.sub_not_under hr]; refine hK ?_; clear hK hS hC hC1 K S C hf)))
        exact K_cutN ⟨b, 3, by decide, rfl, Iff.rfl, fun _ => rfl⟩
    rintro s' ⟨B, c, hc, rfl, hB0, hB1⟩
    refine K_seq ?_
    refine K_cutG [0, 1, 5] (fun s' => ∃ c2 : Nat, 0 < c2 ∧ s' = ⟨[(0, .ptr r 0), (1, .str n), (5, .ptr (.sub 0 0 x.p) 0)], Mem.of [(r, .cells [.list 4 (L.map pairAV), OO, RR, .list 1 ((putW tr n W).map fun q => .str q.1), .bool tr]), (.sub 0 0 x.p, .cells [.int .i64 B.k, .int .i64 B.m, .str B.l])], c2, []⟩) ?_ ?_
    · refine K_seq ?_
      refine K_cut [0, 1, 5, 25] (fun s' => ∃ q : Bool, s' = ⟨[(0, .ptr r 0), (1, .str n), (5, .ptr (.sub 0 0 x.p) 0), (25, .bool q)], Mem.of [(r, .cells [.list 4 (L.map pairAV), OO, RR, .list 1 (W.map fun q => .str q.1), .bool tr]), (.sub 0 0 x.p, .cells [.int .i64 B.k, .int .i64 B.m, .str B.l])], c + 1, []⟩ ∧ q = (tr && !(lookG n W).isSome)) ?_ ?_
      · cases tr with
        | false =>
          refine K_ev nmd [(4, 20)] hng (by kernel_rfl) fun hf C S K hC1 hC hS hK => ?_; simp (disch := first | omega | assumption) only [go_sem, ↓reduceIte, Nat.reduceEqDiff, Nat.reduceAdd, Nat.reduceMul, Nat.reduceLT, Nat.reduceLeDiff, reduceCtorEq, Nat.reduceBEq, Int.reduceToNat, Int.reduceNeg, Oid.not_under_sub hr, Oid.sub_not_under hr]
          refine hK ?_; clear hK hS hC hC1 K S C hf
          exact K_cutN ⟨false, rfl, rfl⟩
        | true =>
          refine K_ev nmd [(4, 20)] hng (by kernel_rfl) fun hf C S K hC1 hC hS hK => ?_; simp (disch := first | omega | assumption) only [go_sem, ↓reduceIte, Nat.reduceEqDiff, Nat.reduceAdd, Nat.reduceMul, Nat.reduceLT, Nat.reduceLeDiff, reduceCtorEq, Nat.reduceBEq, Int.reduceToNat, Int.reduceNeg, Oid.not_under_sub hr, Oid.sub_not_under hr]
          refine hC1 _ (wrote_ok r (.list 4 (L.map pairAV)) OO RR (.bool true) W (by omega) n _ (hr' _ _)) (by simp (disch := first | omega | assumption) only [go_sem, ↓reduceIte, Nat.reduceEqDiff, Nat.reduceAdd, Nat.reduceMul, Nat.reduceLT, Nat.reduceLeDiff, reduceCtorEq, Nat.reduceBEq, Int.reduceToNat, Int.reduceNeg, Oid.not_under_sub hr, Oid.sub_not_under hr]) ?_
          simp (disch := first | omega | assumption) only [go_sem, ↓reduceIte, Nat.reduceEqDiff, Nat.reduceAdd, Nat.reduceMul, Nat.reduceLT, Nat.reduceLeDiff, reduceCtorEq, Nat.reduceBEq, Int.reduceToNat, Int.reduceNeg, Oid.not_under_sub hr, Oid.sub_not_under hr]
          refine hK ?_; clear hK hS hC hC1 K S C hf
          exact K_cutN ⟨_, rfl, by rw [Bool.true_and]⟩
      rintro s' ⟨q, rfl, hq⟩
      refine K_if rfl rfl (fun hb => ?_) (fun hb => ?_)
      · rw [hb] at hq
        have hq1 : tr = true ∧ (lookG n W).isSome = false := by simpa using hq.symm
        obtain ⟨rfl, hls⟩ := hq1
        have hput : putW true n W = insG ltB n (some ()) W := by unfold putW; rw [if_neg hn, if_pos rfl]
        (repeat (first | (with_reducible (first | refine K_seq ?_ | refine K_next ?_ | refine K_skip ?_ | refine K_bend ?_ | refine K_block ?_ | refine K_exit ?_ | refine X_code ?_ | refine X_lend ?_ | refine X_here ?_ | refine X_on (by decide) ?_ | refine K_lendL ?_)) | (refine K_ifT rfl rfl ?_) | (refine K_ifF rfl rfl ?_) | (refine K_ev nmd [] hng (by kernel_rfl) fun hf C S K hC1 hC hS hK => ?_; simp (disch := first | omega | assumption) only [go_sem, ↓reduceIte, Nat.reduceEqDiff, Nat.reduceAdd, Nat.reduceMul, Nat.reduceLT, Nat.reduceLeDiff, reduceCtorEq, Nat.reduceBEq, Int.reduceToNat, Int.reduceNeg]; refine hK ?_; clear hK hS hC hC1 K S C hf)))
        refine K_loop [0, 1, 5, 6] (fun k s' => ∃ i c' : Nat, k = W.length - i ∧ i ≤ W.length ∧ 0 < c' ∧ (∀ j q, j < i → W[j]? = some q → ltB q.1 n) ∧ s' = ⟨[(0, .ptr r 0), (1, .str n), (5, .ptr (.sub 0 0 x.p) 0), (6, .int .i64 i)], Mem.of [(r, .cells [.list 4 (L.map pairAV), OO, RR, .list 1 (W.map fun q => .str q.1), .bool true]), (.sub 0 0 x.p, .cells [.int .i64 B.k, .int .i64 B.m, .str B.l])], c', []⟩) _ ⟨0, _, rfl, Nat.zero_le _, by omega, fun j q h => by omega, rfl⟩ ?_
        rintro k s' ⟨i, c', rfl, hi, hc', hlt, rfl⟩
        have hc0 : ¬ c' = 0 := by omega
        (repeat (with_reducible (first | refine K_seq ?_ | refine K_next ?_ | refine K_skip ?_ | refine K_bend ?_ | refine K_block ?_ | refine K_exit ?_ | refine X_code ?_ | refine X_lend ?_ | refine X_here ?_ | refine X_on (by decide) ?_ | refine K_lendL ?_)))
        refine K_cut [0, 1, 5, 6, 43] (fun s' => ∃ q : Bool, s' = ⟨[(0, .ptr r 0), (1, .str n), (5, .ptr (.sub 0 0 x.p) 0), (6, .int .i64 i), (43, .bool q)], Mem.of [(r, .cells [.list 4 (L.map pairAV), OO, RR, .list 1 (W.map fun q => .str q.1), .bool true]), (.sub 0 0 x.p, .cells [.int .i64 B.k, .int .i64 B.m, .str B.l])], c' + 1, []⟩ ∧ (q = true ↔ ∃ e, W[i]? = some e ∧ ltB e.1 n)) ?_ ?_
        · refine K_ev nmd [(7, 33)] hng (by kernel_rfl) fun hf C S K hC1 hC hS hK => ?_; simp (disch := first | omega | assumption) only [go_sem, ↓reduceIte, Nat.reduceEqDiff, Nat.reduceAdd, Nat.reduceMul, Nat.reduceLT, Nat.reduceLeDiff, reduceCtorEq, Nat.reduceBEq, Int.reduceToNat, Int.reduceNeg, Oid.not_under_sub hr, Oid.sub_not_under hr]
          (repeat' (first | (refine evG_split (fun hv => ?_) (fun hv => ?_) <;> (try simp only [decide_eq_true_eq, decide_eq_false_iff_not, Bool.not_eq_true', Bool.not_eq_false', Bool.and_eq_true] at hv) <;> simp (disch := first | omega | assumption) only [go_sem, ↓reduceIte, Nat.reduceEqDiff, Nat.reduceAdd, Nat.reduceMul, Nat.reduceLT, Nat.reduceLeDiff, reduceCtorEq, Nat.reduceBEq, Int.reduceToNat, Int.reduceNeg, hv, Oid.not_under_sub hr, Oid.sub_not_under hr]) | (refine hK ?_; clear hK hS hC hC1 K S C hf)))
          · have hl : i < W.length := by omega
            exact K_cutN ⟨_, rfl, ⟨fun h => ⟨W.getD i default, by rw [getD_in hl, List.getElem?_eq_getElem hl], h⟩, fun ⟨e, he, h⟩ => by
              rw [List.getElem?_eq_getElem hl] at he
              simp only [Option.some.injEq] at he
              rw [getD_in hl, he]; exact h⟩⟩
          · exact K_cutN ⟨_, rfl, ⟨fun h => (by cases h), fun ⟨e, he, h⟩ => by rw [List.getElem?_eq_none (by omega)] at he; cases he⟩⟩
        rintro s' ⟨q, rfl, hq⟩
        refine K_if rfl rfl (fun hb => ?_) (fun hb => ?_)
        · obtain ⟨e, he, hle⟩ := hq.1 hb
          have hl : i < W.length := (List.getElem?_eq_some_iff.1 he).1
          (repeat (first | (with_reducible (first | refine K_seq ?_ | refine K_next ?_ | refine K_skip ?_ | refine K_bend ?_ | refine K_block ?_ | refine K_exit ?_ | refine X_code ?_ | refine X_lend ?_ | refine X_here ?_ | refine X_on (by decide) ?_ | refine K_lendL ?_)) | (refine K_ifT rfl rfl ?_) | (refine K_ifF rfl rfl ?_) | (refine K_ev nmd [] hng (by kernel_rfl) fun hf C S K hC1 hC hS hK => ?_; simp (disch := first | omega | assumption) only [go_sem, ↓reduceIte, Nat.reduceEqDiff, Nat.reduceAdd, Nat.reduceMul, Nat.reduceLT, Nat.reduceLeDiff, reduceCtorEq, Nat.reduceBEq, Int.reduceToNat, Int.reduceNeg]; refine hK ?_; clear hK hS hC hC1 K S C hf)))
          refine ⟨_, _, by omega, fun _ _ h => h, i + 1, _, rfl, by omega, by omega, fun j q' hj hq' => ?_, rfl⟩
          rcases Nat.lt_or_ge j i with h | h
          · exact hlt j q' h hq'
          · obtain rfl : j = i := by omega
            rw [he] at hq'; simp only [Option.some.injEq] at hq'; rw [← hq']; exact hle
        · have hnl : ∀ q, W[i]? = some q → ¬ ltB q.1 n := fun q' h1 h2 => by rw [hq.2 ⟨q', h1, h2⟩] at hb; cases hb
          have hsp := insG_split (lt := ltB) n (some ()) W i hi hlt hnl
          have hno : ∀ q, W[i]? = some q → ¬ q.1 = n := fun q' h1 h2 => by
            have := (lookG_mem (hWs.nodup ordB) (n := n) (b := q'.2)).2 (by rw [← h2]; exact List.mem_of_getElem? h1)
            rw [this] at hls; cases hls
          have hsp2 : insG ltB n (some ()) W = W.take i ++ [(n, ())] ++ W.drop i := by
            rw [hsp]
            cases hwi : W[i]? with
            | none =>
              have hd : W.drop i = [] := List.drop_eq_nil_of_le (List.getElem?_eq_none_iff.1 hwi)
              simp only [hd, tipG, List.append_nil]
            | some q' => simp only [if_neg (hno q' hwi)]; rfl
          (repeat (first | (with_reducible (first | refine K_seq ?_ | refine K_next ?_ | refine K_skip ?_ | refine K_bend ?_ | refine K_block ?_ | refine K_exit ?_ | refine X_code ?_ | refine X_lend ?_ | refine X_here ?_ | refine X_on (by decide) ?_ | refine K_lendL ?_)) | (refine K_ifT rfl rfl ?_) | (refine K_ifF rfl rfl ?_) | (refine K_ev nmd [] hng (by kernel_rfl) fun hf C S K hC1 hC hS hK => ?_; simp (disch := first | omega | assumption) only [go_sem, ↓reduceIte, Nat.reduceEqDiff, Nat.reduceAdd, Nat.reduceMul, Nat.reduceLT, Nat.reduceLeDiff, reduceCtorEq, Nat.reduceBEq, Int.reduceToNat, Int.reduceNeg, Oid.not_under_sub hr, Oid.sub_not_under hr]; refine hK ?_; clear hK hS hC hC1 K S C hf)))
          refine K_cutGN ?_
          refine G_freezeM (.sub (c' + 1 + 1 + 1 + 1) 8 x.p) r 1 ((insG ltB n (some ()) W).map fun q => .str q.1) [.list 4 (L.map pairAV), OO, RR, .sl (.sub (c' + 1 + 1 + 1 + 1) 8 x.p) 1 (min i W.length + 1 + (W.length - i)), .bool true] [.list 4 (L.map pairAV), OO, RR, .list 1 ((insG ltB n (some ()) W).map fun q => .str q.1), .bool true] ?_ ?_ ?_ ?_ ?_
          · simp (disch := first | omega | assumption) only [go_sem, ↓reduceIte, Nat.reduceEqDiff, Nat.reduceAdd, Nat.reduceMul, Nat.reduceLT, Nat.reduceLeDiff, reduceCtorEq, Nat.reduceBEq, Int.reduceToNat, Int.reduceNeg, Oid.not_under_sub hr, Oid.sub_not_under hr]
            rw [hsp2]; simp
          · simp (disch := first | omega | assumption) only [go_sem, ↓reduceIte, Nat.reduceEqDiff, Nat.reduceAdd, Nat.reduceMul, Nat.reduceLT, Nat.reduceLeDiff, reduceCtorEq, Nat.reduceBEq, Int.reduceToNat, Int.reduceNeg, Oid.not_under_sub hr, Oid.sub_not_under hr]
          · exact fun e => hr (e ▸ Oid.under_sub (Oid.under_refl _))
          · exact .keep (.keep (.keep (.turn (by rw [hsp2]; simp only [List.length_map, List.length_append, List.length_take, List.length_drop, List.length_cons, List.length_nil]) (.keep .nil))))
          · simp (disch := first | omega | assumption) only [go_sem, ↓reduceIte, Nat.reduceEqDiff, Nat.reduceAdd, Nat.reduceMul, Nat.reduceLT, Nat.reduceLeDiff, reduceCtorEq, Nat.reduceBEq, Int.reduceToNat, Int.reduceNeg, Oid.not_under_sub hr, Oid.sub_not_under hr]
            rw [hput]
            exact .now ⟨_, fun _ _ h => h, c' + 1 + 1 + 1 + 1 + 1, by omega, rfl⟩
      · rw [hb] at hq
        have hpw : putW tr n W = W := by
          unfold putW
          rw [if_neg hn]
          cases tr with
          | false => rfl
          | true =>
            have hs : (lookG n W).isSome = true := by simpa using hq.symm
            obtain ⟨u, hu⟩ := Option.isSome_iff_exists.1 hs
            rw [if_pos rfl]
            exact insG_same ordB hWs hu
        rw [hpw]
        (repeat (first | (with_reducible (first | refine K_seq ?_ | refine K_next ?_ | refine K_skip ?_ | refine K_bend ?_ | refine K_block ?_ | refine K_exit ?_ | refine X_code ?_ | refine X_lend ?_ | refine X_here ?_ | refine X_on (by decide) ?_ | refine K_lendL ?_)) | (refine K_ifT rfl rfl ?_) | (refine K_ifF rfl rfl ?_) | (refine K_ev nmd [] hng (by kernel_rfl) fun hf C S K hC1 hC hS hK => ?_; simp (disch := first | omega | assumption) only [go_sem, ↓reduceIte, Nat.reduceEqDiff, Nat.reduceAdd, Nat.reduceMul, Nat.reduceLT, Nat.reduceLeDiff, reduceCtorEq, Nat.reduceBEq, Int.reduceToNat, Int.reduceNeg]; refine hK ?_; clear hK hS hC hC1 K S C hf)))
        exact K_cutGN (.now ⟨_, fun _ _ h => h, c + 1, by omega, rfl⟩)
    rintro s' ⟨c2, hc2, rfl⟩
    generalize putW tr n W = V
    have hput : putP n b L = insG ltB n (if b.k = 0 then none else some b) L := if_neg hn
    rw [hput]
    generalize ho : (if b.k = 0 then none else some b) = o
    (repeat (first | (with_reducible (first | refine K_seq ?_ | refine K_next ?_ | refine K_skip ?_ | refine K_bend ?_ | refine K_block ?_ | refine K_exit ?_ | refine X_code ?_ | refine X_lend ?_ | refine X_here ?_ | refine X_on (by decide) ?_ | refine K_lendL ?_)) | (refine K_ifT rfl rfl ?_) | (refine K_ifF rfl rfl ?_) | (refine K_ev nmd [] hng (by kernel_rfl) fun hf C S K hC1 hC hS hK => ?_; simp (disch := first | omega | assumption) only [go_sem, ↓reduceIte, Nat.reduceEqDiff, Nat.reduceAdd, Nat.reduceMul, Nat.reduceLT, Nat.reduceLeDiff, reduceCtorEq, Nat.reduceBEq, Int.reduceToNat, Int.reduceNeg]; refine hK ?_; clear hK hS hC hC1 K S C hf)))
    refine K_void 8 4 rfl ?_
    simp (disch := first | omega | assumption) only [go_sem, ↓reduceIte, Nat.reduceEqDiff, Nat.reduceAdd, Nat.reduceMul, Nat.reduceLT, Nat.reduceLeDiff, reduceCtorEq, Nat.reduceBEq, Int.reduceToNat, Int.reduceNeg]
    refine K_loop [0, 1, 5, 8, 9] (fun k s' => ∃ (i d j c : Nat), k = L.length - i ∧ i ≤ L.length ∧ 0 < d ∧ d < c ∧ (∀ j q, j < i → L[j]? = some q → ltB q.1 n) ∧ s' = ⟨[(0, .ptr r 0), (1, .str n), (5, .ptr (.sub 0 0 x.p) 0), (8, .sl (.sub d j x.p) 4 i), (9, .int .i64 i)], Mem.of [(r, .cells [.list 4 (L.map pairAV), OO, RR, .list 1 (V.map fun q => .str q.1), .bool tr]), (.sub 0 0 x.p, .cells [.int .i64 B.k, .int .i64 B.m, .str B.l]), (.sub d j x.p, .arr 4 ((L.take i).map pairAV))], c, []⟩) _ ⟨0, c2 + 1 + 1, 0, _, rfl, Nat.zero_le _, by omega, Nat.lt_succ_self _, fun j q h => by omega, ?_⟩ ?_
    · rfl
    rintro k s' ⟨i, d, j, c, rfl, hi, hd, hdc, hlt, rfl⟩
    have hd0 : ¬ d = 0 := by omega
    have hc0 : ¬ c = 0 := by omega
    (repeat (with_reducible (first | refine K_seq ?_ | refine K_next ?_ | refine K_skip ?_ | refine K_bend ?_ | refine K_block ?_ | refine K_exit ?_ | refine X_code ?_ | refine X_lend ?_ | refine X_here ?_ | refine X_on (by decide) ?_ | refine K_lendL ?_)))
    refine K_cut [0, 1, 5, 8, 9, 87] (fun s' => ∃ q : Bool, s' = ⟨[(0, .ptr r 0), (1, .str n), (5, .ptr (.sub 0 0 x.p) 0), (8, .sl (.sub d j x.p) 4 i), (9, .int .i64 i), (87, .bool q)], Mem.of [(r, .cells [.list 4 (L.map pairAV), OO, RR, .list 1 (V.map fun q => .str q.1), .bool tr]), (.sub 0 0 x.p, .cells [.int .i64 B.k, .int .i64 B.m, .str B.l]), (.sub d j x.p, .arr 4 ((L.take i).map pairAV))], c + 1, []⟩ ∧ (q = true ↔ ∃ e, L[i]? = some e ∧ ltB e.1 n)) ?_ ?_
    · generalize hg : L.getD i default = q
      obtain ⟨qn, qk, qm, ql⟩ := q
      refine K_ev nmd [(7, 76)] hng (by kernel_rfl) fun hf C S K hC1 hC hS hK => ?_; simp (disch := first | omega | assumption) only [go_sem, ↓reduceIte, Nat.reduceEqDiff, Nat.reduceAdd, Nat.reduceMul, Nat.reduceLT, Nat.reduceLeDiff, reduceCtorEq, Nat.reduceBEq, Int.reduceToNat, Int.reduceNeg, Oid.not_under_sub hr, Oid.sub_not_under hr, hg, pairAV, AV.cells]
      (repeat' (first | (refine evG_split (fun hv => ?_) (fun hv => ?_) <;> (try simp only [decide_eq_true_eq, decide_eq_false_iff_not, Bool.not_eq_true', Bool.not_eq_false', Bool.and_eq_true] at hv) <;> simp (disch := first | omega | assumption) only [go_sem, ↓reduceIte, Nat.reduceEqDiff, Nat.reduceAdd, Nat.reduceMul, Nat.reduceLT, Nat.reduceLeDiff, reduceCtorEq, Nat.reduceBEq, Int.reduceToNat, Int.reduceNeg, hv, Oid.not_under_sub hr, Oid.sub_not_under hr, hg, pairAV, AV.cells]) | (refine hK ?_; clear hK hS hC hC1 K S C hf)))
      · have hl : i < L.length := by omega
        rw [getD_in hl] at hg
        exact K_cutN ⟨_, rfl, ⟨fun h => ⟨(qn, ⟨qk, qm, ql⟩), by rw [List.getElem?_eq_getElem hl, hg], h⟩, fun ⟨e, he, h⟩ => by
          rw [List.getElem?_eq_getElem hl, hg] at he
          simp only [Option.some.injEq] at he
          rw [← he] at h; exact h⟩⟩
      · exact K_cutN ⟨_, rfl, ⟨fun h => (by cases h), fun ⟨e, he, h⟩ => by rw [List.getElem?_eq_none (by omega)] at he; cases he⟩⟩
    rintro s' ⟨q, rfl, hq⟩
    refine K_if rfl rfl (fun hb => ?_) (fun hb => ?_)
    · obtain ⟨e, he, hle⟩ := hq.1 hb
      have hl : i < L.length := (List.getElem?_eq_some_iff.1 he).1
      have hts := take_map_snoc pairAV hl
      generalize hg : L.getD i default = g at hts
      obtain ⟨qn, qk, qm, ql⟩ := g
      simp only [pairAV] at hts
      (repeat (first | (with_reducible (first | refine K_seq ?_ | refine K_next ?_ | refine K_skip ?_ | refine K_bend ?_ | refine K_block ?_ | refine K_exit ?_ | refine X_code ?_ | refine X_lend ?_ | refine X_here ?_ | refine X_on (by decide) ?_ | refine K_lendL ?_)) | (refine K_ifT rfl rfl ?_) | (refine K_ifF rfl rfl ?_) | (refine K_ev nmd [] hng (by kernel_rfl) fun hf C S K hC1 hC hS hK => ?_; simp (disch := first | omega | assumption) only [go_sem, ↓reduceIte, Nat.reduceEqDiff, Nat.reduceAdd, Nat.reduceMul, Nat.reduceLT, Nat.reduceLeDiff, reduceCtorEq, Nat.reduceBEq, Int.reduceToNat, Int.reduceNeg, Oid.not_under_sub hr, Oid.sub_not_under hr, hg, pairAV, AV.cells]; refine hK ?_; clear hK hS hC hC1 K S C hf)))
      refine ⟨_, _, by omega, fun _ _ h => h, i + 1, c + 1, 9, c + 1 + 1 + 1, rfl, by omega, by omega, by omega, fun j q' hj hq' => ?_, ?_⟩
      · rcases Nat.lt_or_ge j i with h | h
        · exact hlt j q' h hq'
        · obtain rfl : j = i := by omega
          rw [he] at hq'; simp only [Option.some.injEq] at hq'; rw [← hq']; exact hle
      · rw [hts]; rfl
    · have hnl : ∀ q, L[i]? = some q → ¬ ltB q.1 n := fun q' h1 h2 => by rw [hq.2 ⟨q', h1, h2⟩] at hb; cases hb
      have hsp := insG_split (lt := ltB) n o L i hi hlt hnl
      (repeat (with_reducible (first | refine K_seq ?_ | refine K_next ?_ | refine K_skip ?_ | refine K_bend ?_ | refine K_block ?_ | refine K_exit ?_ | refine X_code ?_ | refine X_lend ?_ | refine X_here ?_ | refine X_on (by decide) ?_ | refine K_lendL ?_)))
      refine K_ev nmd [] hng (by kernel_rfl) fun hf C S K hC1 hC hS hK => ?_; simp (disch := first | omega | assumption) only [go_sem, ↓reduceIte, Nat.reduceEqDiff, Nat.reduceAdd, Nat.reduceMul, Nat.reduceLT, Nat.reduceLeDiff, reduceCtorEq, Nat.reduceBEq, Int.reduceToNat, Int.reduceNeg, Oid.not_under_sub hr, Oid.sub_not_under hr]
      refine hK ?_; clear hK hS hC hC1 K S C hf
      refine K_next ?_
      refine K_cut [0, 1, 5, 8, 9] (fun s' => ∃ (d j c : Nat), 0 < d ∧ d < c ∧ s' = ⟨[(0, .ptr r 0), (1, .str n), (5, .ptr (.sub 0 0 x.p) 0), (8, .sl (.sub d j x.p) 4 (i + (tipG n o).length)), (9, .int .i64 i)], Mem.of [(r, .cells [.list 4 (L.map pairAV), OO, RR, .list 1 (V.map fun q => .str q.1), .bool tr]), (.sub 0 0 x.p, .cells [.int .i64 B.k, .int .i64 B.m, .str B.l]), (.sub d j x.p, .arr 4 ((L.take i ++ tipG n o).map pairAV))], c, []⟩) ?_ ?_
      · refine K_ifd rfl rfl (fun hb => ?_) (fun hb => ?_)
        · have hk : ¬ b.k = 0 := fun h => hb (hB0.2 h)
          obtain rfl := hB1 hk
          rw [if_neg hk] at ho
          subst ho
          (repeat (first | (with_reducible (first | refine K_seq ?_ | refine K_next ?_ | refine K_skip ?_ | refine K_bend ?_ | refine K_block ?_ | refine K_exit ?_ | refine X_code ?_ | refine X_lend ?_ | refine X_here ?_ | refine X_on (by decide) ?_ | refine K_lendL ?_)) | (refine K_ifT rfl rfl ?_) | (refine K_ifF rfl rfl ?_) | (refine K_ev nmd [] hng (by kernel_rfl) fun hf C S K hC1 hC hS hK => ?_; simp (disch := first | omega | assumption) only [go_sem, ↓reduceIte, Nat.reduceEqDiff, Nat.reduceAdd, Nat.reduceMul, Nat.reduceLT, Nat.reduceLeDiff, reduceCtorEq, Nat.reduceBEq, Int.reduceToNat, Int.reduceNeg, Oid.not_under_sub hr, Oid.sub_not_under hr]; refine hK ?_; clear hK hS hC hC1 K S C hf)))
          exact K_cutN ⟨c + 1 + 1, 5, c + 1 + 1 + 1, by omega, by omega, by rw [List.map_append]; rfl⟩
        · have hk : b.k = 0 := hB0.1 (by simpa using hb)
          rw [if_pos hk] at ho
          subst ho
          (repeat (first | (with_reducible (first | refine K_seq ?_ | refine K_next ?_ | refine K_skip ?_ | refine K_bend ?_ | refine K_block ?_ | refine K_exit ?_ | refine X_code ?_ | refine X_lend ?_ | refine X_here ?_ | refine X_on (by decide) ?_ | refine K_lendL ?_)) | (refine K_ifT rfl rfl ?_) | (refine K_ifF rfl rfl ?_) | (refine K_ev nmd [] hng (by kernel_rfl) fun hf C S K hC1 hC hS hK => ?_; simp (disch := first | omega | assumption) only [go_sem, ↓reduceIte, Nat.reduceEqDiff, Nat.reduceAdd, Nat.reduceMul, Nat.reduceLT, Nat.reduceLeDiff, reduceCtorEq, Nat.reduceBEq, Int.reduceToNat, Int.reduceNeg, Oid.not_under_sub hr, Oid.sub_not_under hr]; refine hK ?_; clear hK hS hC hC1 K S C hf)))
          exact K_cutN ⟨d, j, c + 1 + 1, hd, by omega, by simp only [tipG, List.append_nil]; rfl⟩
      rintro s' ⟨d, j, c, hd, hdc, rfl⟩
      have hd0 : ¬ d = 0 := by omega
      have hc0 : ¬ c = 0 := by omega
      refine K_seq ?_
      refine K_cut [0, 1, 5, 8, 9] (fun s' => ∃ (i' c2 : Nat), i' ≤ L.length ∧ d < c2 ∧ s' = ⟨[(0, .ptr r 0), (1, .str n), (5, .ptr (.sub 0 0 x.p) 0), (8, .sl (.sub d j x.p) 4 (i + (tipG n o).length)), (9, .int .i64 i')], Mem.of [(r, .cells [.list 4 (L.map pairAV), OO, RR, .list 1 (V.map fun q => .str q.1), .bool tr]), (.sub 0 0 x.p, .cells [.int .i64 B.k, .int .i64 B.m, .str B.l]), (.sub d j x.p, .arr 4 ((L.take i ++ tipG n o).map pairAV))], c2, []⟩ ∧ insG ltB n o L = L.take i ++ tipG n o ++ L.drop i') ?_ ?_
      · generalize hg : L.getD i default = g
        obtain ⟨qn, qk, qm, ql⟩ := g
        generalize htl : (tipG n o).length = tl
        generalize hrow : (L.take i ++ tipG n o).map pairAV = row
        refine K_seq ?_
        refine K_ev nmd [(7, 116)] hng (by kernel_rfl) fun hf C S K hC1 hC hS hK => ?_; simp (disch := first | omega | assumption) only [go_sem, ↓reduceIte, Nat.reduceEqDiff, Nat.reduceAdd, Nat.reduceMul, Nat.reduceLT, Nat.reduceLeDiff, reduceCtorEq, Nat.reduceBEq, Int.reduceToNat, Int.reduceNeg, Oid.not_under_sub hr, Oid.sub_not_under hr, hg, pairAV, AV.cells]
        (repeat' (first | (refine evG_split (fun hv => ?_) (fun hv => ?_) <;> (try simp only [decide_eq_true_eq, decide_eq_false_iff_not, Bool.not_eq_true', Bool.not_eq_false', Bool.and_eq_true] at hv) <;> simp (disch := first | omega | assumption) only [go_sem, ↓reduceIte, Nat.reduceEqDiff, Nat.reduceAdd, Nat.reduceMul, Nat.reduceLT, Nat.reduceLeDiff, reduceCtorEq, Nat.reduceBEq, Int.reduceToNat, Int.reduceNeg, hv, Oid.not_under_sub hr, Oid.sub_not_under hr, hg, pairAV, AV.cells]) | (refine hK ?_; clear hK hS hC hC1 K S C hf)))
        · have hl : i < L.length := by omega
          rw [getD_in hl] at hg
          rw [List.getElem?_eq_getElem hl, hg] at hsp
          refine K_next ?_
          refine K_ifd rfl rfl (fun hb => ?_) (fun hb => ?_)
          · (repeat (first | (with_reducible (first | refine K_seq ?_ | refine K_next ?_ | refine K_skip ?_ | refine K_bend ?_ | refine K_block ?_ | refine K_exit ?_ | refine X_code ?_ | refine X_lend ?_ | refine X_here ?_ | refine X_on (by decide) ?_ | refine K_lendL ?_)) | (refine K_ifT rfl rfl ?_) | (refine K_ifF rfl rfl ?_) | (refine K_ev nmd [] hng (by kernel_rfl) fun hf C S K hC1 hC hS hK => ?_; simp (disch := first | omega | assumption) only [go_sem, ↓reduceIte, Nat.reduceEqDiff, Nat.reduceAdd, Nat.reduceMul, Nat.reduceLT, Nat.reduceLeDiff, reduceCtorEq, Nat.reduceBEq, Int.reduceToNat, Int.reduceNeg]; refine hK ?_; clear hK hS hC hC1 K S C hf)))
            exact K_cutN ⟨i + 1, c + 1 + 1, by omega, by omega, rfl, by rw [hsp]; simp only [if_pos hb]⟩
          · (repeat (first | (with_reducible (first | refine K_seq ?_ | refine K_next ?_ | refine K_skip ?_ | refine K_bend ?_ | refine K_block ?_ | refine K_exit ?_ | refine X_code ?_ | refine X_lend ?_ | refine X_here ?_ | refine X_on (by decide) ?_ | refine K_lendL ?_)) | (refine K_ifT rfl rfl ?_) | (refine K_ifF rfl rfl ?_) | (refine K_ev nmd [] hng (by kernel_rfl) fun hf C S K hC1 hC hS hK => ?_; simp (disch := first | omega | assumption) only [go_sem, ↓reduceIte, Nat.reduceEqDiff, Nat.reduceAdd, Nat.reduceMul, Nat.reduceLT, Nat.reduceLeDiff, reduceCtorEq, Nat.reduceBEq, Int.reduceToNat, Int.reduceNeg]; refine hK ?_; clear hK hS hC hC1 K S C hf)))
            exact K_cutN ⟨i, c + 1, by omega, by omega, rfl, by rw [hsp]; simp only [if_neg hb]⟩
        · rw [List.getElem?_eq_none (by omega)] at hsp
          (repeat (first | (with_reducible (first | refine K_seq ?_ | refine K_next ?_ | refine K_skip ?_ | refine K_bend ?_ | refine K_block ?_ | refine K_exit ?_ | refine X_code ?_ | refine X_lend ?_ | refine X_here ?_ | refine X_on (by decide) ?_ | refine K_lendL ?_)) | (refine K_ifT rfl rfl ?_) | (refine K_ifF rfl rfl ?_) | (refine K_ev nmd [] hng (by kernel_rfl) fun hf C S K hC1 hC hS hK => ?_; simp (disch := first | omega | assumption) only [go_sem, ↓reduceIte, Nat.reduceEqDiff, Nat.reduceAdd, Nat.reduceMul, Nat.reduceLT, Nat.reduceLeDiff, reduceCtorEq, Nat.reduceBEq, Int.reduceToNat, Int.reduceNeg]; refine hK ?_; clear hK hS hC hC1 K S C hf)))
          exact K_cutN ⟨i, c + 1, by omega, by omega, rfl, by rw [hsp]; simp [List.drop_eq_nil_of_le (show L.length ≤ i by omega)]⟩
      rintro s' ⟨i', c2, hi', hdc2, rfl, hins⟩
      have hc20 : ¬ c2 = 0 := by omega
      have htl : (tipG n o).length ≤ 1 := by cases o <;> simp [tipG]
      (repeat (with_reducible (first | refine K_seq ?_ | refine K_next ?_ | refine K_skip ?_ | refine K_bend ?_ | refine K_block ?_ | refine K_exit ?_ | refine X_code ?_ | refine X_lend ?_ | refine X_here ?_ | refine X_on (by decide) ?_ | refine K_lendL ?_)))
      refine K_ev nmd [] hng (by kernel_rfl) fun hf C S K hC1 hC hS hK => ?_; simp (disch := first | omega | assumption) only [go_sem, ↓reduceIte, Nat.reduceEqDiff, Nat.reduceAdd, Nat.reduceMul, Nat.reduceLT, Nat.reduceLeDiff, reduceCtorEq, Nat.reduceBEq, Int.reduceToNat, Int.reduceNeg, Oid.not_under_sub hr, Oid.sub_not_under hr]
      refine hK ?_; clear hK hS hC hC1 K S C hf
      refine K_nil (G_freezeM (.sub c2 8 x.p) r 4 ((insG ltB n o L).map pairAV) [.sl (.sub c2 8 x.p) 4 (i + (tipG n o).length + (L.length - i')), OO, RR, .list 1 (V.map fun q => .str q.1), .bool tr] [.list 4 ((insG ltB n o L).map pairAV), OO, RR, .list 1 (V.map fun q => .str q.1), .bool tr] ?_ ?_ ?_ (.turn ?_ (.keep (.keep (.keep (.keep .nil))))) (.now (done_updN rfl ?_ ?_)))
      · simp (disch := first | omega | assumption) only [go_sem, ↓reduceIte, Nat.reduceEqDiff, Nat.reduceAdd, Nat.reduceMul, Nat.reduceLT, Nat.reduceLeDiff, reduceCtorEq, Nat.reduceBEq, Int.reduceToNat, Int.reduceNeg, Oid.not_under_sub hr, Oid.sub_not_under hr]
        rw [hins]; simp
      · simp (disch := first | omega | assumption) only [go_sem, ↓reduceIte, Nat.reduceEqDiff, Nat.reduceAdd, Nat.reduceMul, Nat.reduceLT, Nat.reduceLeDiff, reduceCtorEq, Nat.reduceBEq, Int.reduceToNat, Int.reduceNeg, Oid.not_under_sub hr, Oid.sub_not_under hr]
      · exact fun e => hr (e ▸ Oid.under_sub (Oid.under_refl _))
      · rw [hins]; simp only [List.length_map, List.length_append, List.length_take, List.length_drop]; omega
      · simp (disch := first | omega | assumption) only [go_sem, ↓reduceIte, Nat.reduceEqDiff, Nat.reduceAdd, Nat.reduceMul, Nat.reduceLT, Nat.reduceLeDiff, reduceCtorEq, Nat.reduceBEq, Int.reduceToNat, Int.reduceNeg, Oid.not_under_sub hr, Oid.sub_not_under hr]
        all_goals simp only [List.mem_cons, List.not_mem_nil, or_false, forall_eq_or_imp, forall_eq, Option.some.injEq, forall_eq', Mem.of_cons_at, eq_self, if_true, ↓reduceIte, reduceCtorEq, implies_true, not_true_eq_false, false_imp_iff, true_and, and_true, false_and, and_false, imp_self]
      · simp (disch := first | omega | assumption) only [go_sem, ↓reduceIte, Nat.reduceEqDiff, Nat.reduceAdd, Nat.reduceMul, Nat.reduceLT, Nat.reduceLeDiff, reduceCtorEq, Nat.reduceBEq, Int.reduceToNat, Int.reduceNeg, Oid.not_under_sub hr, Oid.sub_not_under hr]
        all_goals simp only [List.mem_cons, List.not_mem_nil, or_false, forall_eq_or_imp, forall_eq, Option.some.injEq, forall_eq', Mem.of_cons_at, eq_self, if_true, ↓reduceIte, reduceCtorEq, implies_true, not_true_eq_false, false_imp_iff, true_and, and_true, false_and, and_false, imp_self]
end Go.Proofs.YtbpembafoloinaaGreatDoor
