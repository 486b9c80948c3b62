/- What a step touches is taken. -/
import Derived.Test.YtpdmiojenhodlaaH9
set_option linter.unusedVariables false
set_option linter.unusedSimpArgs false
namespace Go.Proofs.Ytpdmiojenhodlaa
open Go Go.Ab
set_option maxRecDepth 20000
set_option maxHeartbeats 4000000
theorem born_f (p : Str) (n : Bool) (v u : AV) (L : List (Fct × AV)) : bornE (bornOf (.agg [.str p, .bool n]) L.length (esA Fct.av L 0)) u (esA Fct.av (putA ⟨p, n⟩ v L) 0) = esA Fct.av (putA ⟨p, n⟩ u L) 0 := bornE_esA fct_enc ⟨p, n⟩ v u L 0 L.length (by simp)
theorem anyb_f (p : Str) (n : Bool) (v : AV) (L : List (Fct × AV)) : ((esA Fct.av (putA ⟨p, n⟩ v L) 0).any fun e => e.born == bornOf (.agg [.str p, .bool n]) L.length (esA Fct.av L 0)) = true := any_born fct_enc ⟨p, n⟩ v L 0 L.length (by simp)
theorem set_f (p : Str) (n : Bool) (v : AV) (L : List (Fct × AV)) : setE (.agg [.str p, .bool n]) v L.length (esA Fct.av L 0) = esA Fct.av (putA ⟨p, n⟩ v L) 0 := setE_esA fct_enc ⟨p, n⟩ v L 0 L.length (by simp)
theorem len_f (p : Str) (n : Bool) (L : List (Fct × AV)) : (if hasE (.agg [.str p, .bool n]) (esA Fct.av L 0) = true then L.length else L.length + 1) = (putA ⟨p, n⟩ AV.undef L).length := by
  rw [show hasE (.agg [.str p, .bool n]) (esA Fct.av L 0) = hasA L ⟨p, n⟩ from hasE_esA fct_enc ⟨p, n⟩ L 0, putA_length]
theorem gdR_T (e : OpR) : gdR True e = e := gdR_pos trivial
structure Src (N0 : List Oid) (p : Oid) (R W : Rw) : Prop where
  src : ∀ i ∈ nmR R ++ nmR W, i ∈ N0 ∨ Oid.under p i
theorem Src.set {N0 : List Oid} {p : Oid} {R W : Rw} (h : Src N0 p R W) (hn : (nmR R).Nodup) {f : Fct} {c j : Nat} {l : List Nat} : Src N0 p (setR f (.sub c j p) l R) W :=
  ⟨fun i hi => by
    rcases List.mem_append.1 hi with hi | hi
    · rcases set_names hn hi with rfl | ⟨h1, _⟩
      · exact .inr (Oid.under_sub (Oid.under_refl _))
      · exact h.src _ (List.mem_append_left _ h1)
    · exact h.src _ (List.mem_append_right _ hi)⟩
theorem Src.swap {N0 : List Oid} {p : Oid} {R W : Rw} (h : Src N0 p R W) : Src N0 p W R := ⟨fun i hi => h.src i (List.mem_append.2 (List.mem_append.1 hi).symm)⟩
theorem row_short {B : Nat} {R : Rw} (h : ∀ q ∈ R, q.2.2.length ≤ B) (f : Fct) : (rowR f R).length ≤ B := by
  cases hn : nameR f R with
  | none => rw [row_none f R hn]; exact Nat.zero_le _
  | some i => exact h _ (name_mem f i R hn)
theorem set_short {B : Nat} {R : Rw} (h : ∀ q ∈ R, q.2.2.length ≤ B) (f : Fct) (i : Oid) (l : List Nat) (hl : l.length ≤ B + 1) : ∀ q ∈ setR f i l R, q.2.2.length ≤ B + 1 := by
  induction R with
  | nil => simp only [setR, List.mem_singleton]; rintro q rfl; exact hl
  | cons a R ih =>
    intro q hq
    simp only [setR] at hq
    by_cases hf : f = a.1
    · rw [if_pos hf] at hq
      rcases List.mem_cons.1 hq with rfl | hq
      · exact hl
      · exact Nat.le_succ_of_le (h q (List.mem_cons_of_mem _ hq))
    · rw [if_neg hf] at hq
      rcases List.mem_cons.1 hq with rfl | hq
      · exact Nat.le_succ_of_le (h _ List.mem_cons_self)
      · exact ih (fun q hq => h q (List.mem_cons_of_mem _ hq)) q hq
theorem rows_same {s r w o p : Oid} {c : Nat} {R W : Rw} {B : List (Oid × AObj)} {m : Mem} (h : Names s r w o p c R W) (hB : ∀ q, q ∈ B → m q.1 = some q.2)
    (hm : ∀ j ∈ nmR R ++ nmR W, m j = Mem.of (rowsM R ++ rowsM W) j) : ∀ q, q ∈ B ++ (rowsM R ++ rowsM W) → m q.1 = some q.2 := by
  intro q hq
  rcases List.mem_append.1 hq with hq | hq
  · exact hB q hq
  · rw [hm _ (by rw [← rows_names, ← rows_names, ← List.map_append]; exact List.mem_map.2 ⟨q, hq, rfl⟩)]
    exact h.get hq
def tkMem (s r w o : Oid) (R W : Rw) (O : List Hz) : List (Oid × AObj) := [(s, .cells [.map r, .map w, .map o]), (r, .map kF true (esA Fct.av (entV R) 0) (entV R).length), (w, .map kF true (esA Fct.av (entV W) 0) (entV W).length), (o, .map kH true (esA Hz.av (O.map fun h => (h, .bool true)) 0) O.length)] ++ (rowsM R ++ rowsM W)
theorem Names.of_swap {s r w o p : Oid} {c : Nat} {R W : Rw} (h : Names s r w o p c R W) {j : Oid} (hj : j ∈ nmR R ++ nmR W) : Mem.of (rowsM R ++ rowsM W) j = Mem.of (rowsM W ++ rowsM R) j := by
  have : ∃ q, q ∈ rowsM R ++ rowsM W ∧ q.1 = j := by
    rcases List.mem_append.1 hj with hj | hj <;> (rw [← rows_names] at hj; obtain ⟨q, h1, h2⟩ := List.mem_map.1 hj)
    · exact ⟨q, List.mem_append_left _ h1, h2⟩
    · exact ⟨q, List.mem_append_right _ h1, h2⟩
  obtain ⟨q, h1, rfl⟩ := this
  rw [h.get h1, h.swap.get (List.mem_append.2 (List.mem_append.1 h1).symm)]
theorem rows_setW {s r w o p : Oid} {c : Nat} {R W : Rw} {f : Fct} {B : List (Oid × AObj)} {m : Mem} {i : Oid} {l : List Nat} (h : Names s r w o p c R W) (hB : ∀ q, q ∈ B → m q.1 = some q.2) (hi : m i = some (.arr 1 (ints l)))
    (hm : ∀ j ∈ nmR R ++ nmR W, ¬ nameR f W = some j → m j = Mem.of (rowsM R ++ rowsM W) j) : ∀ q, q ∈ B ++ (rowsM R ++ rowsM (setR f i l W)) → m q.1 = some q.2 := fun q hq =>
  rows_set h.swap hB hi (fun j hj hn => by
    have hj' := List.mem_append.2 (List.mem_append.1 hj).symm
    rw [hm j hj' hn, h.of_swap hj']) q (by
    rcases List.mem_append.1 hq with hq | hq
    · exact List.mem_append_left _ hq
    · exact List.mem_append_right _ (List.mem_append.2 (List.mem_append.1 hq).symm))
theorem note_at {s r w o p : Oid} {c : Nat} {R W : Rw} (h : Names s r w o p c R W) (hrs : ¬ r = s) (hws : ¬ w = s) (hwr : ¬ w = r) (hos : ¬ o = s) (hor : ¬ o = r) (how : ¬ o = w) (hs : ¬ Oid.under p s) (hr : ¬ Oid.under p r) (hw : ¬ Oid.under p w) (ho : ¬ Oid.under p o)
    {B : Nat} (hR : ∀ q ∈ R, q.2.2.length ≤ B) (hW : ∀ q ∈ W, q.2.2.length ≤ B) (hB : B ≤ 1000000000) (f : Fct) (k d j : Nat) (O : List Hz) (hd : c ≤ d) :
    CallOK Try.prog 22 [.ptr s 0, f.av, .int .i64 k] (Oid.under (.sub d j p)) ⟨[(s, .cells [.map r, .map w, .map o]), (r, .map kF true (esA Fct.av (entV R) 0) (entV R).length), (w, .map kF true (esA Fct.av (entV W) 0) (entV W).length), (o, .map kH true (esA Hz.av (O.map fun h => (h, .bool true)) 0) O.length)] ++ rowM (nameR f R) (rowR f R) ++ rowM (nameR f W) (rowR f W), .tuple [], [(o, some (.map kH true (esA Hz.av ((noteF (plR R) (plR W) f k O).map fun h => (h, .bool true)) 0) (noteF (plR R) (plR W) f k O).length))]⟩ :=
  note_ok s r w o (nameR f R) (nameR f W) f k (entV R) (entV W) O (rowR f R) (rowR f W) (.sub d j p) (getA_ent f R) (getA_ent f W) (row_none f R) (row_none f W)
    (by have := row_short hR f; omega) (by have := row_short hW f; omega) hrs hws hwr hos hor how (fun e => hs (Oid.under_sub e)) (fun e => hr (Oid.under_sub e)) (fun e => hw (Oid.under_sub e)) (fun e => ho (Oid.under_sub e))
    (fun i hi => let ⟨a1, a2, a3, a4, _, a6⟩ := h.ne i (List.mem_append_left _ (name_in hi)); ⟨a1, a2, a3, a4, a6 d j hd⟩)
    (fun i hi => let ⟨a1, a2, a3, a4, _, a6⟩ := h.ne i (List.mem_append_right _ (name_in hi)); ⟨a1, a2, a3, a4, fun e => h.dis (name_in e.symm) (name_in hi), a6 d j hd⟩)
theorem note_need {s r w o p : Oid} {c : Nat} {R W : Rw} {O : List Hz} (h : Names s r w o p c R W) {m : Mem} {f : Fct} (hB : ∀ q, q ∈ [(s, .cells [.map r, .map w, .map o]), (r, .map kF true (esA Fct.av (entV R) 0) (entV R).length), (w, .map kF true (esA Fct.av (entV W) 0) (entV W).length), (o, .map kH true (esA Hz.av (O.map fun h => (h, .bool true)) 0) O.length)] → m q.1 = some q.2) (hm : ∀ j ∈ nmR R ++ nmR W, m j = Mem.of (rowsM R ++ rowsM W) j) :
    ∀ q, q ∈ [(s, .cells [.map r, .map w, .map o]), (r, .map kF true (esA Fct.av (entV R) 0) (entV R).length), (w, .map kF true (esA Fct.av (entV W) 0) (entV W).length), (o, .map kH true (esA Hz.av (O.map fun h => (h, .bool true)) 0) O.length)] ++ rowM (nameR f R) (rowR f R) ++ rowM (nameR f W) (rowR f W) → m q.1 = some q.2 := by
  intro q hq
  rcases List.mem_append.1 hq with hq | hq
  · rcases List.mem_append.1 hq with hq | hq
    · exact hB q hq
    · obtain ⟨h1, h2⟩ := row_names hq
      rw [hm _ (List.mem_append_left _ (name_in h1)), h.rowR h1, h2]
  · obtain ⟨h1, h2⟩ := row_names hq
    rw [hm _ (List.mem_append_right _ (name_in h1)), h.rowW h1, h2]
theorem take_ok (s r w o : Oid) (z : Stp) (k B : Nat) (R W : Rw) (O : List Hz) (p : Oid)
    (hrs : ¬ r = s) (hws : ¬ w = s) (hwr : ¬ w = r) (hos : ¬ o = s) (hor : ¬ o = r) (how : ¬ o = w) (hs : ¬ Oid.under p s) (hr : ¬ Oid.under p r) (hw : ¬ Oid.under p w) (ho : ¬ Oid.under p o)
    (hN0 : Names s r w o p 0 R W) (hBR : ∀ q ∈ R, q.2.2.length ≤ B) (hBW : ∀ q ∈ W, q.2.2.length ≤ B) (hB : B + z.reads.length + z.writes.length ≤ 1000000000) (hP : ∀ t ∈ z.writes, t.path.length ≤ 140737488355328) :
    CallND Try.prog 14 [.ptr s 0, z.av, .int .i64 k] (Oid.under p) ([(s, .cells [.map r, .map w, .map o]), (r, .map kF true (esA Fct.av (entV R) 0) (entV R).length), (w, .map kF true (esA Fct.av (entV W) 0) (entV W).length), (o, .map kH true (esA Hz.av (O.map fun h => (h, .bool true)) 0) O.length)] ++ (rowsM R ++ rowsM W)) (fun v u => v = .tuple [] ∧ ∃ R' W' : Rw, plR R' = (takeF ⟨plR R, plR W, O⟩ z k).r ∧ plR W' = (takeF ⟨plR R, plR W, O⟩ z k).w ∧
      (∃ c, Names s r w o p c R' W') ∧ Src (nmR R ++ nmR W) p R' W' ∧ (∀ q ∈ R', q.2.2.length ≤ B + z.reads.length) ∧ (∀ q ∈ W', q.2.2.length ≤ B + z.writes.length) ∧ u = clr (tkMem s r w o R W O) ++ sets (tkMem s r w o R' W' (takeF ⟨plR R, plR W, O⟩ z k).o)) (fun _ _ => False) := by
  refine fnND (n := 85) (rs := []) Try.func14 rfl rfl (by decide) rfl rfl rfl ?_; rintro x rfl hrd hng
  have hS0 : Src (nmR R ++ nmR W) x.p R W := ⟨fun i hi => .inl hi⟩
  generalize hSN : nmR R ++ nmR W = N0 at hS0
  generalize hQ : DoneN Try.prog [] ([(s, .cells [.map r, .map w, .map o]), (r, .map kF true (esA Fct.av (entV R) 0) (entV R).length), (w, .map kF true (esA Fct.av (entV W) 0) (entV W).length), (o, .map kH true (esA Hz.av (O.map fun h => (h, .bool true)) 0) O.length)] ++ (rowsM R ++ rowsM W)) _ _ = Q
  (repeat (with_reducible (first | refine K_seq ?_ | refine K_next ?_ | refine K_skip ?_ | refine K_bend ?_ | refine K_block ?_ | refine K_exit ?_ | refine X_code ?_ | refine X_lend ?_ | refine X_here ?_ | refine X_on (by decide) ?_ | refine K_lendL ?_)))
  refine K_cut [0, 2, 4] (fun s' => s' = ⟨[(0, .ptr s 0), (2, .int .i64 k), (4, .ptr (.sub 0 0 x.p) 0)], Mem.of ([(s, .cells [.map r, .map w, .map o]), (r, .map kF true (esA Fct.av (entV R) 0) (entV R).length), (w, .map kF true (esA Fct.av (entV W) 0) (entV W).length), (o, .map kH true (esA Hz.av (O.map fun h => (h, .bool true)) 0) O.length), (.sub 0 0 x.p, .cells [.list 3 (z.reads.map Tch.av), .list 3 (z.writes.map Tch.av)])] ++ (rowsM R ++ rowsM W)), 1, []⟩) ?_ ?_
  · refine K_ev nmd [] hng (by kernel_rfl) fun hf C S K hC1 hC hS hK => ?_; simp (disch := first | omega | assumption) only [go_sem, ↓reduceIte, Nat.reduceEqDiff, Nat.reduceAdd, Nat.reduceMul, Nat.reduceLT, Nat.reduceLeDiff, reduceCtorEq, Nat.reduceBEq, Int.reduceToNat, Int.reduceNeg]
    refine hK ?_; clear hK hS hC hC1 K S C hf
    refine K_cutM (Mem.of ([(s, .cells [.map r, .map w, .map o]), (r, .map kF true (esA Fct.av (entV R) 0) (entV R).length), (w, .map kF true (esA Fct.av (entV W) 0) (entV W).length), (o, .map kH true (esA Hz.av (O.map fun h => (h, .bool true)) 0) O.length), (.sub 0 0 x.p, .cells [.list 3 (z.reads.map Tch.av), .list 3 (z.writes.map Tch.av)])] ++ (rowsM R ++ rowsM W))) (mem_end (rows_same hN0 ?_ ?_)) rfl
    · simp only [fa_cons, fa_nil, Mem.of_cons_at, Mem.of_nil_at, Mem.of_upds, Mem.of_putL, putLs, putL, List.cons_append, List.nil_append, List.append_nil, ↓reduceIte, eq_self, and_true, true_and, and_self, and_false, false_and, reduceCtorEq, Oid.sub.injEq, Nat.reduceEqDiff, Fct.av, AV.cells, hrs, hws, hwr, hos, hor, how, Oid.sub_not_under hs, Oid.sub_not_under hr, Oid.sub_not_under hw, Oid.sub_not_under ho, Oid.not_under_sub hs, Oid.not_under_sub hr, Oid.not_under_sub hw, Oid.not_under_sub ho, of_put_at]
    · intro j hj
      obtain ⟨a1, a2, a3, a4, a5, a6⟩ := hN0.ne j hj
      simp only [fa_cons, fa_nil, Mem.of_cons_at, Mem.of_nil_at, Mem.of_upds, Mem.of_putL, putLs, putL, List.cons_append, List.nil_append, List.append_nil, ↓reduceIte, eq_self, and_true, true_and, and_self, and_false, false_and, reduceCtorEq, Oid.sub.injEq, Nat.reduceEqDiff, Fct.av, AV.cells, hrs, hws, hwr, hos, hor, how, Oid.sub_not_under hs, Oid.sub_not_under hr, Oid.sub_not_under hw, Oid.sub_not_under ho, Oid.not_under_sub hs, Oid.not_under_sub hr, Oid.not_under_sub hw, Oid.not_under_sub ho, of_put_at, a1, a2, a3, a4, a5]
  rintro s' rfl
  have hN := hN0.mono (Nat.zero_le 1)
  clear hN0
  refine K_seq ?_
  refine K_cut [0, 2, 4] (fun s' => ∃ (R' : Rw) (c : Nat), s' = ⟨[(0, .ptr s 0), (2, .int .i64 k), (4, .ptr (.sub 0 0 x.p) 0)], Mem.of ([(s, .cells [.map r, .map w, .map o]), (r, .map kF true (esA Fct.av (entV R') 0) (entV R').length), (w, .map kF true (esA Fct.av (entV W) 0) (entV W).length), (o, .map kH true (esA Hz.av (O.map fun h => (h, .bool true)) 0) O.length), (.sub 0 0 x.p, .cells [.list 3 (z.reads.map Tch.av), .list 3 (z.writes.map Tch.av)])] ++ (rowsM R' ++ rowsM W)), c, []⟩ ∧ 0 < c ∧ Names s r w o x.p c R' W ∧ Src N0 x.p R' W ∧ (∀ q ∈ R', q.2.2.length ≤ B + z.reads.length) ∧ plR R' = z.reads.foldl (fun r t => rowAdd ⟨t.path, t.names⟩ k r) (plR R)) ?_ ?_
  · generalize hrd1 : z.reads.foldl (fun r t => rowAdd ⟨t.path, t.names⟩ k r) (plR R) = R1
    (repeat (first | (with_reducible (first | refine K_seq ?_ | refine K_next ?_ | refine K_skip ?_ | refine K_bend ?_ | refine K_block ?_ | refine K_exit ?_ | refine X_code ?_ | refine X_lend ?_ | refine X_here ?_ | refine X_on (by decide) ?_ | refine K_lendL ?_)) | (refine K_ifT rfl rfl ?_) | (refine K_ifF rfl rfl ?_) | (refine K_ev nmd [] hng (by kernel_rfl) fun hf C S K hC1 hC hS hK => ?_; simp (disch := first | omega | assumption) only [go_sem, ↓reduceIte, Nat.reduceEqDiff, Nat.reduceAdd, Nat.reduceMul, Nat.reduceLT, Nat.reduceLeDiff, reduceCtorEq, Nat.reduceBEq, Int.reduceToNat, Int.reduceNeg]; refine hK ?_; clear hK hS hC hC1 K S C hf)))
    refine K_loop [0, 2, 4, 15, 16, 17] (fun q s' => ∃ (i c : Nat) (R : Rw), s' = ⟨[(0, .ptr s 0), (2, .int .i64 k), (4, .ptr (.sub 0 0 x.p) 0), (15, .list 3 (z.reads.map Tch.av)), (16, .int .i64 z.reads.length), (17, .int .i64 i)], Mem.of ([(s, .cells [.map r, .map w, .map o]), (r, .map kF true (esA Fct.av (entV R) 0) (entV R).length), (w, .map kF true (esA Fct.av (entV W) 0) (entV W).length), (o, .map kH true (esA Hz.av (O.map fun h => (h, .bool true)) 0) O.length), (.sub 0 0 x.p, .cells [.list 3 (z.reads.map Tch.av), .list 3 (z.writes.map Tch.av)])] ++ (rowsM R ++ rowsM W)), c, []⟩ ∧ 0 < c ∧ q = z.reads.length - i ∧ i ≤ z.reads.length ∧
      Names s r w o x.p c R W ∧ Src N0 x.p R W ∧ (∀ q ∈ R, q.2.2.length ≤ B + i) ∧ (z.reads.drop i).foldl (fun r t => rowAdd ⟨t.path, t.names⟩ k r) (plR R) = R1) _ ⟨0, _, R, rfl, by omega, rfl, Nat.zero_le _, hN.mono (by omega), hS0, hBR, hrd1⟩ ?_
    clear hQ hSN hN hBR hrd1 hS0 R
    rintro q s' ⟨i, c, R, rfl, hc, rfl, hi, hN, hS0, hBR, hrd1⟩
    (repeat (first | (with_reducible (first | refine K_seq ?_ | refine K_next ?_ | refine K_skip ?_ | refine K_bend ?_ | refine K_block ?_ | refine K_exit ?_ | refine X_code ?_ | refine X_lend ?_ | refine X_here ?_ | refine X_on (by decide) ?_ | refine K_lendL ?_)) | (refine K_ifT rfl rfl ?_) | (refine K_ifF rfl rfl ?_) | (refine K_ev nmd [] hng (by kernel_rfl) fun hf C S K hC1 hC hS hK => ?_; simp (disch := first | omega | assumption) only [go_sem, ↓reduceIte, Nat.reduceEqDiff, Nat.reduceAdd, Nat.reduceMul, Nat.reduceLT, Nat.reduceLeDiff, reduceCtorEq, Nat.reduceBEq, Int.reduceToNat, Int.reduceNeg]; refine hK ?_; clear hK hS hC hC1 K S C hf)))
    refine K_ifd rfl rfl (fun hb => ?_) (fun hb => ?_)
    · have hb' : i < z.reads.length := by omega
      have hxi := getD_map_in Tch.av hb' .undef
      generalize htt : z.reads.getD i default = t at hxi
      generalize hrest : rowsM R ++ rowsM W = rest
      (repeat (first | (with_reducible (first | refine K_seq ?_ | refine K_next ?_ | refine K_skip ?_ | refine K_bend ?_ | refine K_exit ?_ | refine X_code ?_ | refine X_lend ?_ | refine X_here ?_ | refine X_on (by decide) ?_ | refine K_lendL ?_)) | (refine K_ifT rfl rfl ?_) | (refine K_ifF rfl rfl ?_) | (refine K_ev nmd [] hng (by kernel_rfl) fun hf C S K hC1 hC hS hK => ?_; simp (disch := first | omega | assumption) only [go_sem, ↓reduceIte, Nat.reduceEqDiff, Nat.reduceAdd, Nat.reduceMul, Nat.reduceLT, Nat.reduceLeDiff, reduceCtorEq, Nat.reduceBEq, Int.reduceToNat, Int.reduceNeg]; refine hK ?_; clear hK hS hC hC1 K S C hf))); refine K_block ?_
      (repeat (first | (with_reducible (first | refine K_seq ?_ | refine K_next ?_ | refine K_skip ?_ | refine K_bend ?_ | refine K_exit ?_ | refine X_code ?_ | refine X_lend ?_ | refine X_here ?_ | refine X_on (by decide) ?_ | refine K_lendL ?_)) | (refine K_ifT rfl rfl ?_) | (refine K_ifF rfl rfl ?_) | (refine K_ev nmd [] hng (by kernel_rfl) fun hf C S K hC1 hC hS hK => ?_; simp (disch := first | omega | assumption) only [go_sem, ↓reduceIte, Nat.reduceEqDiff, Nat.reduceAdd, Nat.reduceMul, Nat.reduceLT, Nat.reduceLeDiff, reduceCtorEq, Nat.reduceBEq, Int.reduceToNat, Int.reduceNeg]; refine hK ?_; clear hK hS hC hC1 K S C hf)))
      refine K_ev nmd [] hng (by kernel_rfl) fun hf C S K hC1 hC hS hK => ?_; simp (disch := first | omega | assumption) only [go_sem, ↓reduceIte, Nat.reduceEqDiff, Nat.reduceAdd, Nat.reduceMul, Nat.reduceLT, Nat.reduceLeDiff, reduceCtorEq, Nat.reduceBEq, Int.reduceToNat, Int.reduceNeg, hxi, of_put_at]
      refine hK ?_; clear hK hS hC hC1 K S C hf
      (repeat (first | (with_reducible (first | refine K_seq ?_ | refine K_next ?_ | refine K_skip ?_ | refine K_bend ?_ | refine K_exit ?_ | refine X_code ?_ | refine X_lend ?_ | refine X_here ?_ | refine X_on (by decide) ?_ | refine K_lendL ?_)) | (refine K_ifT rfl rfl ?_) | (refine K_ifF rfl rfl ?_) | (refine K_ev nmd [] hng (by kernel_rfl) fun hf C S K hC1 hC hS hK => ?_; simp (disch := first | omega | assumption) only [go_sem, ↓reduceIte, Nat.reduceEqDiff, Nat.reduceAdd, Nat.reduceMul, Nat.reduceLT, Nat.reduceLeDiff, reduceCtorEq, Nat.reduceBEq, Int.reduceToNat, Int.reduceNeg]; refine hK ?_; clear hK hS hC hC1 K S C hf)))
      refine K_ev nmd [] hng (by kernel_rfl) fun hf C S K hC1 hC hS hK => ?_; simp (disch := first | omega | assumption) only [go_sem, ↓reduceIte, Nat.reduceEqDiff, Nat.reduceAdd, Nat.reduceMul, Nat.reduceLT, Nat.reduceLeDiff, reduceCtorEq, Nat.reduceBEq, Int.reduceToNat, Int.reduceNeg, of_put_at]
      refine hK ?_; clear hK hS hC hC1 K S C hf
      (repeat (first | (with_reducible (first | refine K_seq ?_ | refine K_next ?_ | refine K_skip ?_ | refine K_bend ?_ | refine K_exit ?_ | refine X_code ?_ | refine X_lend ?_ | refine X_here ?_ | refine X_on (by decide) ?_ | refine K_lendL ?_)) | (refine K_ifT rfl rfl ?_) | (refine K_ifF rfl rfl ?_) | (refine K_ev nmd [] hng (by kernel_rfl) fun hf C S K hC1 hC hS hK => ?_; simp (disch := first | omega | assumption) only [go_sem, ↓reduceIte, Nat.reduceEqDiff, Nat.reduceAdd, Nat.reduceMul, Nat.reduceLT, Nat.reduceLeDiff, reduceCtorEq, Nat.reduceBEq, Int.reduceToNat, Int.reduceNeg]; refine hK ?_; clear hK hS hC hC1 K S C hf)))
      subst hrest
      refine K_drop (Mem.of ([(s, .cells [.map r, .map w, .map o]), (r, .map kF true (esA Fct.av (entV R) 0) (entV R).length), (w, .map kF true (esA Fct.av (entV W) 0) (entV W).length), (o, .map kH true (esA Hz.av (O.map fun h => (h, .bool true)) 0) O.length), (.sub 0 0 x.p, .cells [.list 3 (z.reads.map Tch.av), .list 3 (z.writes.map Tch.av)]), (.sub (c + 1 + 1) 5 x.p, .cells [.str t.path, .bool t.names])] ++ (rowsM R ++ rowsM W))) (mem_end (rows_same hN ?_ ?_)) ?_
      · simp only [fa_cons, fa_nil, Mem.of_cons_at, Mem.of_nil_at, Mem.of_upds, Mem.of_putL, putLs, putL, List.cons_append, List.nil_append, List.append_nil, ↓reduceIte, eq_self, and_true, true_and, and_self, and_false, false_and, reduceCtorEq, Oid.sub.injEq, Nat.reduceEqDiff, Fct.av, AV.cells, hrs, hws, hwr, hos, hor, how, Oid.sub_not_under hs, Oid.sub_not_under hr, Oid.sub_not_under hw, Oid.sub_not_under ho, Oid.not_under_sub hs, Oid.not_under_sub hr, Oid.not_under_sub hw, Oid.not_under_sub ho, of_put_at, show ¬ c + 1 + 1 = c + 1 by omega, show ¬ c + 1 + 1 = 0 by omega]
      · intro j hj
        obtain ⟨a1, a2, a3, a4, a5, a6⟩ := hN.ne j hj
        have a7 : ¬ j = .sub (c + 1 + 1) 5 x.p := fun e => a6 (c + 1 + 1) 5 (by omega) (e ▸ Oid.under_refl _)
        have a8 : ¬ j = .sub (c + 1) 2 x.p := fun e => a6 (c + 1) 2 (by omega) (e ▸ Oid.under_refl _)
        simp only [fa_cons, fa_nil, Mem.of_cons_at, Mem.of_nil_at, Mem.of_upds, Mem.of_putL, putLs, putL, List.cons_append, List.nil_append, List.append_nil, ↓reduceIte, eq_self, and_true, true_and, and_self, and_false, false_and, reduceCtorEq, Oid.sub.injEq, Nat.reduceEqDiff, Fct.av, AV.cells, hrs, hws, hwr, hos, hor, how, Oid.sub_not_under hs, Oid.sub_not_under hr, Oid.sub_not_under hw, Oid.sub_not_under ho, Oid.not_under_sub hs, Oid.not_under_sub hr, Oid.not_under_sub hw, Oid.not_under_sub ho, of_put_at, a1, a2, a3, a4, a5, a7, a8]
      have hR := getA_ent ⟨t.path, t.names⟩ R
      generalize hrest : rowsM R ++ rowsM W = rest
      rcases hro : nameR ⟨t.path, t.names⟩ R with _ | ro
      · have hr0 := row_none _ _ hro
        rw [hro] at hR
        refine K_evd nmd [] [(3, 6), (4, 6)] mixed hng (by kernel_rfl) [0, 2, 4, 15, 16, 17] fun hf C S K hC hS hK => ?_; simp (disch := first | omega | assumption) only [go_sem, ↓reduceIte, Nat.reduceEqDiff, Nat.reduceAdd, Nat.reduceMul, Nat.reduceLT, Nat.reduceLeDiff, reduceCtorEq, Nat.reduceBEq, Int.reduceToNat, Int.reduceNeg, of_put_at, hrs, hws, hwr, kF, val_f, hR, set_f, len_f, born_f, anyb_f, gdR_T]
        (first | refine hK (dynN_quiet rfl) ?_ | refine hK (by simp (disch := first | omega | assumption) only [go_sem, ↓reduceIte, Nat.reduceEqDiff, Nat.reduceAdd, Nat.reduceMul, Nat.reduceLT, Nat.reduceLeDiff, reduceCtorEq, Nat.reduceBEq, Int.reduceToNat, Int.reduceNeg, List.reverse_cons, List.reverse_nil, ne_eq, not_false_eq_true, implies_true]) ?_); clear hK hS hC K S C hf
        (repeat (with_reducible (first | refine K_seq ?_ | refine K_next ?_ | refine K_skip ?_ | refine K_bend ?_ | refine K_block ?_ | refine K_exit ?_ | refine X_code ?_ | refine X_lend ?_ | refine X_here ?_ | refine X_on (by decide) ?_ | refine K_lendL ?_)))
        (repeat (first | (with_reducible (first | refine K_seq ?_ | refine K_next ?_ | refine K_skip ?_ | refine K_bend ?_ | refine K_block ?_ | refine K_exit ?_ | refine X_code ?_ | refine X_lend ?_ | refine X_here ?_ | refine X_on (by decide) ?_ | refine K_lendL ?_)) | (refine K_ifT rfl rfl ?_) | (refine K_ifF rfl rfl ?_) | (refine K_ev nmd [] hng (by kernel_rfl) fun hf C S K hC1 hC hS hK => ?_; simp (disch := first | omega | assumption) only [go_sem, ↓reduceIte, Nat.reduceEqDiff, Nat.reduceAdd, Nat.reduceMul, Nat.reduceLT, Nat.reduceLeDiff, reduceCtorEq, Nat.reduceBEq, Int.reduceToNat, Int.reduceNeg]; refine hK ?_; clear hK hS hC hC1 K S C hf)))
        subst hrest
        have hput := put_ent ⟨t.path, t.names⟩ (.sub (c + 1 + 1 + 1) 9 x.p) (rowR ⟨t.path, t.names⟩ R ++ [k]) R
        have hpl := pl_set ⟨t.path, t.names⟩ (.sub (c + 1 + 1 + 1) 9 x.p) k R
        have hnn := hN.set (f := ⟨t.path, t.names⟩) (c0 := c + 1 + 1 + 1) (j := 9) (by omega) (by omega) hs hr hw ho (l := rowR ⟨t.path, t.names⟩ R ++ [k]) (Nat.lt_succ_self _)
        have hsr := hS0.set hN.ndR (f := ⟨t.path, t.names⟩) (c := c + 1 + 1 + 1) (j := 9) (l := rowR ⟨t.path, t.names⟩ R ++ [k])
        have hsh := set_short hBR ⟨t.path, t.names⟩ (.sub (c + 1 + 1 + 1) 9 x.p) (rowR ⟨t.path, t.names⟩ R ++ [k]) (by have := row_short hBR ⟨t.path, t.names⟩; simp only [List.length_append, List.length_cons, List.length_nil]; omega)
        refine ⟨_, Mem.of ([(s, .cells [.map r, .map w, .map o]), (r, .map kF true (esA Fct.av (entV (setR ⟨t.path, t.names⟩ (.sub (c + 1 + 1 + 1) 9 x.p) (rowR ⟨t.path, t.names⟩ R ++ [k]) R)) 0) (entV (setR ⟨t.path, t.names⟩ (.sub (c + 1 + 1 + 1) 9 x.p) (rowR ⟨t.path, t.names⟩ R ++ [k]) R)).length), (w, .map kF true (esA Fct.av (entV W) 0) (entV W).length), (o, .map kH true (esA Hz.av (O.map fun h => (h, .bool true)) 0) O.length), (.sub 0 0 x.p, .cells [.list 3 (z.reads.map Tch.av), .list 3 (z.writes.map Tch.av)])] ++ (rowsM (setR ⟨t.path, t.names⟩ (.sub (c + 1 + 1 + 1) 9 x.p) (rowR ⟨t.path, t.names⟩ R ++ [k]) R) ++ rowsM W)), ?_, mem_end (rows_set (f := ⟨t.path, t.names⟩) (i := .sub (c + 1 + 1 + 1) 9 x.p) (l := rowR ⟨t.path, t.names⟩ R ++ [k]) hN (B := [(s, .cells [.map r, .map w, .map o]), (r, .map kF true (esA Fct.av (entV (setR ⟨t.path, t.names⟩ (.sub (c + 1 + 1 + 1) 9 x.p) (rowR ⟨t.path, t.names⟩ R ++ [k]) R)) 0) (entV (setR ⟨t.path, t.names⟩ (.sub (c + 1 + 1 + 1) 9 x.p) (rowR ⟨t.path, t.names⟩ R ++ [k]) R)).length), (w, .map kF true (esA Fct.av (entV W) 0) (entV W).length), (o, .map kH true (esA Hz.av (O.map fun h => (h, .bool true)) 0) O.length), (.sub 0 0 x.p, .cells [.list 3 (z.reads.map Tch.av), .list 3 (z.writes.map Tch.av)])]) ?_ ?_ ?_), i + 1, _, setR ⟨t.path, t.names⟩ (.sub (c + 1 + 1 + 1) 9 x.p) (rowR ⟨t.path, t.names⟩ R ++ [k]) R, rfl, by omega, rfl, by omega, hnn.mono (by omega), hsr, fun q hq => by have := hsh q hq; omega, ?_⟩
        · omega
        · rw [← hput, hr0]
          simp only [fa_cons, fa_nil, Mem.of_cons_at, Mem.of_nil_at, Mem.of_upds, Mem.of_putL, putLs, putL, List.cons_append, List.nil_append, List.append_nil, ↓reduceIte, eq_self, and_true, true_and, and_self, and_false, false_and, reduceCtorEq, Oid.sub.injEq, Nat.reduceEqDiff, Fct.av, AV.cells, hrs, hws, hwr, hos, hor, how, Oid.sub_not_under hs, Oid.sub_not_under hr, Oid.sub_not_under hw, Oid.sub_not_under ho, Oid.not_under_sub hs, Oid.not_under_sub hr, Oid.not_under_sub hw, Oid.not_under_sub ho, kF, of_put_at, putA_len2 _ .undef (.sl (.sub (c + 1 + 1 + 1) 9 x.p) 1 1), List.length_cons, List.length_nil]
        · rw [hr0]
          simp only [fa_cons, fa_nil, Mem.of_cons_at, Mem.of_nil_at, Mem.of_upds, Mem.of_putL, putLs, putL, List.cons_append, List.nil_append, List.append_nil, ↓reduceIte, eq_self, and_true, true_and, and_self, and_false, false_and, reduceCtorEq, Oid.sub.injEq, Nat.reduceEqDiff, Fct.av, AV.cells, hrs, hws, hwr, hos, hor, how, Oid.sub_not_under hs, Oid.sub_not_under hr, Oid.sub_not_under hw, Oid.sub_not_under ho, Oid.not_under_sub hs, Oid.not_under_sub hr, Oid.not_under_sub hw, Oid.not_under_sub ho, of_put_at, ints, List.map_cons, List.map_nil, show ¬ c + 1 + 1 + 1 = 0 by omega]
        · intro j hj hne
          obtain ⟨a1, a2, a3, a4, a5, a6⟩ := hN.ne j hj
          have a7 : ¬ j = .sub (c + 1 + 1) 5 x.p := fun e => a6 (c + 1 + 1) 5 (by omega) (e ▸ Oid.under_refl _)
          have a8 : ¬ j = .sub (c + 1 + 1 + 1) 9 x.p := fun e => a6 (c + 1 + 1 + 1) 9 (by omega) (e ▸ Oid.under_refl _)
          simp only [fa_cons, fa_nil, Mem.of_cons_at, Mem.of_nil_at, Mem.of_upds, Mem.of_putL, putLs, putL, List.cons_append, List.nil_append, List.append_nil, ↓reduceIte, eq_self, and_true, true_and, and_self, and_false, false_and, reduceCtorEq, Oid.sub.injEq, Nat.reduceEqDiff, Fct.av, AV.cells, hrs, hws, hwr, hos, hor, how, Oid.sub_not_under hs, Oid.sub_not_under hr, Oid.sub_not_under hw, Oid.sub_not_under ho, Oid.not_under_sub hs, Oid.not_under_sub hr, Oid.not_under_sub hw, Oid.not_under_sub ho, of_put_at, a1, a2, a3, a4, a5, a7, a8]
        · rw [foldl_drop _ _ hb', htt] at hrd1
          rw [hpl]; exact hrd1
      · have hrow := hN.rowR hro
        have hnr := name_in hro
        obtain ⟨b1, b2, b3, b4, b5, b6⟩ := hN.ne ro (List.mem_append_left _ hnr)
        have b7 : ¬ ro = .sub (c + 1 + 1) 5 x.p := fun e => b6 (c + 1 + 1) 5 (by omega) (e ▸ Oid.under_refl _)
        have b8 : ¬ ro = .sub (c + 1 + 1 + 1) 9 x.p := fun e => b6 (c + 1 + 1 + 1) 9 (by omega) (e ▸ Oid.under_refl _)
        have hlen := row_short hBR ⟨t.path, t.names⟩
        rw [hrest] at hrow
        rw [hro] at hR
        refine K_evd nmd [] [(3, 6), (4, 6)] mixed hng (by kernel_rfl) [0, 2, 4, 15, 16, 17] fun hf C S K hC hS hK => ?_; simp (disch := first | omega | assumption) only [go_sem, ↓reduceIte, Nat.reduceEqDiff, Nat.reduceAdd, Nat.reduceMul, Nat.reduceLT, Nat.reduceLeDiff, reduceCtorEq, Nat.reduceBEq, Int.reduceToNat, Int.reduceNeg, of_put_at, hrs, hws, hwr, kF, val_f, hR, set_f, len_f, born_f, anyb_f, gdR_T, hrow, b1, b2, b3, b4, b5, b7, b8, ints_len]
        (first | refine hK (dynN_quiet rfl) ?_ | refine hK (by simp (disch := first | omega | assumption) only [go_sem, ↓reduceIte, Nat.reduceEqDiff, Nat.reduceAdd, Nat.reduceMul, Nat.reduceLT, Nat.reduceLeDiff, reduceCtorEq, Nat.reduceBEq, Int.reduceToNat, Int.reduceNeg, List.reverse_cons, List.reverse_nil, ne_eq, not_false_eq_true, implies_true]) ?_); clear hK hS hC K S C hf
        (repeat (with_reducible (first | refine K_seq ?_ | refine K_next ?_ | refine K_skip ?_ | refine K_bend ?_ | refine K_block ?_ | refine K_exit ?_ | refine X_code ?_ | refine X_lend ?_ | refine X_here ?_ | refine X_on (by decide) ?_ | refine K_lendL ?_)))
        (repeat (first | (with_reducible (first | refine K_seq ?_ | refine K_next ?_ | refine K_skip ?_ | refine K_bend ?_ | refine K_block ?_ | refine K_exit ?_ | refine X_code ?_ | refine X_lend ?_ | refine X_here ?_ | refine X_on (by decide) ?_ | refine K_lendL ?_)) | (refine K_ifT rfl rfl ?_) | (refine K_ifF rfl rfl ?_) | (refine K_ev nmd [] hng (by kernel_rfl) fun hf C S K hC1 hC hS hK => ?_; simp (disch := first | omega | assumption) only [go_sem, ↓reduceIte, Nat.reduceEqDiff, Nat.reduceAdd, Nat.reduceMul, Nat.reduceLT, Nat.reduceLeDiff, reduceCtorEq, Nat.reduceBEq, Int.reduceToNat, Int.reduceNeg]; refine hK ?_; clear hK hS hC hC1 K S C hf)))
        subst hrest
        have hput := put_ent ⟨t.path, t.names⟩ (.sub (c + 1 + 1 + 1) 9 x.p) (rowR ⟨t.path, t.names⟩ R ++ [k]) R
        have hpl := pl_set ⟨t.path, t.names⟩ (.sub (c + 1 + 1 + 1) 9 x.p) k R
        have hnn := hN.set (f := ⟨t.path, t.names⟩) (c0 := c + 1 + 1 + 1) (j := 9) (by omega) (by omega) hs hr hw ho (l := rowR ⟨t.path, t.names⟩ R ++ [k]) (Nat.lt_succ_self _)
        have hsr := hS0.set hN.ndR (f := ⟨t.path, t.names⟩) (c := c + 1 + 1 + 1) (j := 9) (l := rowR ⟨t.path, t.names⟩ R ++ [k])
        have hsh := set_short hBR ⟨t.path, t.names⟩ (.sub (c + 1 + 1 + 1) 9 x.p) (rowR ⟨t.path, t.names⟩ R ++ [k]) (by have := row_short hBR ⟨t.path, t.names⟩; simp only [List.length_append, List.length_cons, List.length_nil]; omega)
        refine ⟨_, Mem.of ([(s, .cells [.map r, .map w, .map o]), (r, .map kF true (esA Fct.av (entV (setR ⟨t.path, t.names⟩ (.sub (c + 1 + 1 + 1) 9 x.p) (rowR ⟨t.path, t.names⟩ R ++ [k]) R)) 0) (entV (setR ⟨t.path, t.names⟩ (.sub (c + 1 + 1 + 1) 9 x.p) (rowR ⟨t.path, t.names⟩ R ++ [k]) R)).length), (w, .map kF true (esA Fct.av (entV W) 0) (entV W).length), (o, .map kH true (esA Hz.av (O.map fun h => (h, .bool true)) 0) O.length), (.sub 0 0 x.p, .cells [.list 3 (z.reads.map Tch.av), .list 3 (z.writes.map Tch.av)])] ++ (rowsM (setR ⟨t.path, t.names⟩ (.sub (c + 1 + 1 + 1) 9 x.p) (rowR ⟨t.path, t.names⟩ R ++ [k]) R) ++ rowsM W)), ?_, mem_end (rows_set (f := ⟨t.path, t.names⟩) (i := .sub (c + 1 + 1 + 1) 9 x.p) (l := rowR ⟨t.path, t.names⟩ R ++ [k]) hN (B := [(s, .cells [.map r, .map w, .map o]), (r, .map kF true (esA Fct.av (entV (setR ⟨t.path, t.names⟩ (.sub (c + 1 + 1 + 1) 9 x.p) (rowR ⟨t.path, t.names⟩ R ++ [k]) R)) 0) (entV (setR ⟨t.path, t.names⟩ (.sub (c + 1 + 1 + 1) 9 x.p) (rowR ⟨t.path, t.names⟩ R ++ [k]) R)).length), (w, .map kF true (esA Fct.av (entV W) 0) (entV W).length), (o, .map kH true (esA Hz.av (O.map fun h => (h, .bool true)) 0) O.length), (.sub 0 0 x.p, .cells [.list 3 (z.reads.map Tch.av), .list 3 (z.writes.map Tch.av)])]) ?_ ?_ ?_), i + 1, _, setR ⟨t.path, t.names⟩ (.sub (c + 1 + 1 + 1) 9 x.p) (rowR ⟨t.path, t.names⟩ R ++ [k]) R, rfl, by omega, rfl, by omega, hnn.mono (by omega), hsr, fun q hq => by have := hsh q hq; omega, ?_⟩
        · omega
        · rw [← hput]
          have hl2 := fun n => putA_len2 (⟨t.path, t.names⟩ : Fct) .undef (.sl (.sub (c + 1 + 1 + 1) 9 x.p) 1 n) (entV R)
          simp only [fa_cons, fa_nil, Mem.of_cons_at, Mem.of_nil_at, Mem.of_upds, Mem.of_putL, putLs, putL, List.cons_append, List.nil_append, List.append_nil, ↓reduceIte, eq_self, and_true, true_and, and_self, and_false, false_and, reduceCtorEq, Oid.sub.injEq, Nat.reduceEqDiff, Fct.av, AV.cells, hrs, hws, hwr, hos, hor, how, Oid.sub_not_under hs, Oid.sub_not_under hr, Oid.sub_not_under hw, Oid.sub_not_under ho, Oid.not_under_sub hs, Oid.not_under_sub hr, Oid.not_under_sub hw, Oid.not_under_sub ho, kF, of_put_at, List.length_append, List.length_cons, List.length_nil, Nat.zero_add, hl2 (List.length (rowR ⟨t.path, t.names⟩ R) + 1)]
        · skip
          simp only [fa_cons, fa_nil, Mem.of_cons_at, Mem.of_nil_at, Mem.of_upds, Mem.of_putL, putLs, putL, List.cons_append, List.nil_append, List.append_nil, ↓reduceIte, eq_self, and_true, true_and, and_self, and_false, false_and, reduceCtorEq, Oid.sub.injEq, Nat.reduceEqDiff, Fct.av, AV.cells, hrs, hws, hwr, hos, hor, how, Oid.sub_not_under hs, Oid.sub_not_under hr, Oid.sub_not_under hw, Oid.sub_not_under ho, Oid.not_under_sub hs, Oid.not_under_sub hr, Oid.not_under_sub hw, Oid.not_under_sub ho, of_put_at, ints, List.map_append, List.map_cons, List.map_nil, show ¬ c + 1 + 1 + 1 = 0 by omega]
        · intro j hj hne
          obtain ⟨a1, a2, a3, a4, a5, a6⟩ := hN.ne j hj
          have a7 : ¬ j = .sub (c + 1 + 1) 5 x.p := fun e => a6 (c + 1 + 1) 5 (by omega) (e ▸ Oid.under_refl _)
          have a8 : ¬ j = .sub (c + 1 + 1 + 1) 9 x.p := fun e => a6 (c + 1 + 1 + 1) 9 (by omega) (e ▸ Oid.under_refl _)
          have a9 : ¬ j = ro := fun e => hne (e ▸ hro)
          simp only [fa_cons, fa_nil, Mem.of_cons_at, Mem.of_nil_at, Mem.of_upds, Mem.of_putL, putLs, putL, List.cons_append, List.nil_append, List.append_nil, ↓reduceIte, eq_self, and_true, true_and, and_self, and_false, false_and, reduceCtorEq, Oid.sub.injEq, Nat.reduceEqDiff, Fct.av, AV.cells, hrs, hws, hwr, hos, hor, how, Oid.sub_not_under hs, Oid.sub_not_under hr, Oid.sub_not_under hw, Oid.sub_not_under ho, Oid.not_under_sub hs, Oid.not_under_sub hr, Oid.not_under_sub hw, Oid.not_under_sub ho, of_put_at, a1, a2, a3, a4, a5, a7, a8, a9]
        · rw [foldl_drop _ _ hb', htt] at hrd1
          rw [hpl]; exact hrd1
    · (repeat (with_reducible (first | refine K_seq ?_ | refine K_next ?_ | refine K_skip ?_ | refine K_bend ?_ | refine K_block ?_ | refine K_exit ?_ | refine X_code ?_ | refine X_lend ?_ | refine X_here ?_ | refine X_on (by decide) ?_ | refine K_lendL ?_)))
      obtain rfl : i = z.reads.length := by omega
      rw [List.drop_length, List.foldl_nil] at hrd1
      exact K_cutN ⟨R, _, rfl, by omega, hN.mono (by omega), hS0, hBR, hrd1⟩
  rintro s' ⟨Rn, c1, rfl, hc1, hN1, hS1, hBR1, hpR⟩
  refine K_seq ?_
  have hBW1 : ∀ q ∈ W, q.2.2.length ≤ B + z.reads.length := fun q hq => Nat.le_trans (hBW q hq) (Nat.le_add_right _ _)
  refine K_cut [0, 2, 4] (fun s' => ∃ (O' : List Hz) (c : Nat), s' = ⟨[(0, .ptr s 0), (2, .int .i64 k), (4, .ptr (.sub 0 0 x.p) 0)], Mem.of ([(s, .cells [.map r, .map w, .map o]), (r, .map kF true (esA Fct.av (entV Rn) 0) (entV Rn).length), (w, .map kF true (esA Fct.av (entV W) 0) (entV W).length), (o, .map kH true (esA Hz.av (O'.map fun h => (h, .bool true)) 0) O'.length), (.sub 0 0 x.p, .cells [.list 3 (z.reads.map Tch.av), .list 3 (z.writes.map Tch.av)])] ++ (rowsM Rn ++ rowsM W)), c, []⟩ ∧ c1 ≤ c ∧ O' = z.writes.foldl (fun o t => noteF (plR Rn) (plR W) ⟨aboveF t.path, true⟩ k (noteF (plR Rn) (plR W) ⟨t.path, false⟩ k o)) O) ?_ ?_
  · clear hQ hSN hN hBR hS0
    clear R hpR
    generalize hgoal : z.writes.foldl (fun o t => noteF (plR Rn) (plR W) ⟨aboveF t.path, true⟩ k (noteF (plR Rn) (plR W) ⟨t.path, false⟩ k o)) O = O1
    (repeat (first | (with_reducible (first | refine K_seq ?_ | refine K_next ?_ | refine K_skip ?_ | refine K_bend ?_ | refine K_block ?_ | refine K_exit ?_ | refine X_code ?_ | refine X_lend ?_ | refine X_here ?_ | refine X_on (by decide) ?_ | refine K_lendL ?_)) | (refine K_ifT rfl rfl ?_) | (refine K_ifF rfl rfl ?_) | (refine K_ev nmd [] hng (by kernel_rfl) fun hf C S K hC1 hC hS hK => ?_; simp (disch := first | omega | assumption) only [go_sem, ↓reduceIte, Nat.reduceEqDiff, Nat.reduceAdd, Nat.reduceMul, Nat.reduceLT, Nat.reduceLeDiff, reduceCtorEq, Nat.reduceBEq, Int.reduceToNat, Int.reduceNeg]; refine hK ?_; clear hK hS hC hC1 K S C hf)))
    refine K_loop [0, 2, 4, 39, 40, 41] (fun q s' => ∃ (i c : Nat) (O' : List Hz), s' = ⟨[(0, .ptr s 0), (2, .int .i64 k), (4, .ptr (.sub 0 0 x.p) 0), (39, .list 3 (z.writes.map Tch.av)), (40, .int .i64 z.writes.length), (41, .int .i64 i)], Mem.of ([(s, .cells [.map r, .map w, .map o]), (r, .map kF true (esA Fct.av (entV Rn) 0) (entV Rn).length), (w, .map kF true (esA Fct.av (entV W) 0) (entV W).length), (o, .map kH true (esA Hz.av (O'.map fun h => (h, .bool true)) 0) O'.length), (.sub 0 0 x.p, .cells [.list 3 (z.reads.map Tch.av), .list 3 (z.writes.map Tch.av)])] ++ (rowsM Rn ++ rowsM W)), c, []⟩ ∧ c1 ≤ c ∧ q = z.writes.length - i ∧ i ≤ z.writes.length ∧
      (z.writes.drop i).foldl (fun o t => noteF (plR Rn) (plR W) ⟨aboveF t.path, true⟩ k (noteF (plR Rn) (plR W) ⟨t.path, false⟩ k o)) O' = O1) _ ⟨0, _, O, rfl, by omega, rfl, Nat.zero_le _, hgoal⟩ ?_
    clear hgoal O
    rintro q s' ⟨i, c, O, rfl, hc, rfl, hi, hgoal⟩
    (repeat (first | (with_reducible (first | refine K_seq ?_ | refine K_next ?_ | refine K_skip ?_ | refine K_bend ?_ | refine K_block ?_ | refine K_exit ?_ | refine X_code ?_ | refine X_lend ?_ | refine X_here ?_ | refine X_on (by decide) ?_ | refine K_lendL ?_)) | (refine K_ifT rfl rfl ?_) | (refine K_ifF rfl rfl ?_) | (refine K_ev nmd [] hng (by kernel_rfl) fun hf C S K hC1 hC hS hK => ?_; simp (disch := first | omega | assumption) only [go_sem, ↓reduceIte, Nat.reduceEqDiff, Nat.reduceAdd, Nat.reduceMul, Nat.reduceLT, Nat.reduceLeDiff, reduceCtorEq, Nat.reduceBEq, Int.reduceToNat, Int.reduceNeg]; refine hK ?_; clear hK hS hC hC1 K S C hf)))
    refine K_ifd rfl rfl (fun hb => ?_) (fun hb => ?_)
    · have hb' : i < z.writes.length := by omega
      have hxi := getD_map_in Tch.av hb' .undef
      have htp : (z.writes.getD i default).path.length ≤ 140737488355328 := hP _ (by simp [List.getD_eq_getElem?_getD, List.getElem?_eq_getElem hb'])
      generalize htt : z.writes.getD i default = t at hxi htp
      generalize hrest : rowsM Rn ++ rowsM W = rest
      (repeat (first | (with_reducible (first | refine K_seq ?_ | refine K_next ?_ | refine K_skip ?_ | refine K_bend ?_ | refine K_exit ?_ | refine X_code ?_ | refine X_lend ?_ | refine X_here ?_ | refine X_on (by decide) ?_ | refine K_lendL ?_)) | (refine K_ifT rfl rfl ?_) | (refine K_ifF rfl rfl ?_) | (refine K_ev nmd [] hng (by kernel_rfl) fun hf C S K hC1 hC hS hK => ?_; simp (disch := first | omega | assumption) only [go_sem, ↓reduceIte, Nat.reduceEqDiff, Nat.reduceAdd, Nat.reduceMul, Nat.reduceLT, Nat.reduceLeDiff, reduceCtorEq, Nat.reduceBEq, Int.reduceToNat, Int.reduceNeg]; refine hK ?_; clear hK hS hC hC1 K S C hf))); refine K_block ?_
      (repeat (first | (with_reducible (first | refine K_seq ?_ | refine K_next ?_ | refine K_skip ?_ | refine K_bend ?_ | refine K_exit ?_ | refine X_code ?_ | refine X_lend ?_ | refine X_here ?_ | refine X_on (by decide) ?_ | refine K_lendL ?_)) | (refine K_ifT rfl rfl ?_) | (refine K_ifF rfl rfl ?_) | (refine K_ev nmd [] hng (by kernel_rfl) fun hf C S K hC1 hC hS hK => ?_; simp (disch := first | omega | assumption) only [go_sem, ↓reduceIte, Nat.reduceEqDiff, Nat.reduceAdd, Nat.reduceMul, Nat.reduceLT, Nat.reduceLeDiff, reduceCtorEq, Nat.reduceBEq, Int.reduceToNat, Int.reduceNeg]; refine hK ?_; clear hK hS hC hC1 K S C hf)))
      refine K_ev nmd [] hng (by kernel_rfl) fun hf C S K hC1 hC hS hK => ?_; simp (disch := first | omega | assumption) only [go_sem, ↓reduceIte, Nat.reduceEqDiff, Nat.reduceAdd, Nat.reduceMul, Nat.reduceLT, Nat.reduceLeDiff, reduceCtorEq, Nat.reduceBEq, Int.reduceToNat, Int.reduceNeg, hxi, of_put_at]
      refine hK ?_; clear hK hS hC hC1 K S C hf
      (repeat (first | (with_reducible (first | refine K_seq ?_ | refine K_next ?_ | refine K_skip ?_ | refine K_bend ?_ | refine K_exit ?_ | refine X_code ?_ | refine X_lend ?_ | refine X_here ?_ | refine X_on (by decide) ?_ | refine K_lendL ?_)) | (refine K_ifT rfl rfl ?_) | (refine K_ifF rfl rfl ?_) | (refine K_ev nmd [] hng (by kernel_rfl) fun hf C S K hC1 hC hS hK => ?_; simp (disch := first | omega | assumption) only [go_sem, ↓reduceIte, Nat.reduceEqDiff, Nat.reduceAdd, Nat.reduceMul, Nat.reduceLT, Nat.reduceLeDiff, reduceCtorEq, Nat.reduceBEq, Int.reduceToNat, Int.reduceNeg]; refine hK ?_; clear hK hS hC hC1 K S C hf)))
      refine K_ev nmd [] hng (by kernel_rfl) fun hf C S K hC1 hC hS hK => ?_; simp (disch := first | omega | assumption) only [go_sem, ↓reduceIte, Nat.reduceEqDiff, Nat.reduceAdd, Nat.reduceMul, Nat.reduceLT, Nat.reduceLeDiff, reduceCtorEq, Nat.reduceBEq, Int.reduceToNat, Int.reduceNeg, of_put_at]
      subst hrest
      refine hC1 _ (note_at hN1 hrs hws hwr hos hor how hs hr hw ho hBR1 hBW1 (by omega) ⟨t.path, false⟩ k _ _ O (by omega)) (note_need hN1 ?_ ?_) ?_
      · simp only [fa_cons, fa_nil, Mem.of_cons_at, Mem.of_nil_at, Mem.of_upds, Mem.of_putL, putLs, putL, List.cons_append, List.nil_append, List.append_nil, ↓reduceIte, eq_self, and_true, true_and, and_self, and_false, false_and, reduceCtorEq, Oid.sub.injEq, Nat.reduceEqDiff, Fct.av, AV.cells, hrs, hws, hwr, hos, hor, how, Oid.sub_not_under hs, Oid.sub_not_under hr, Oid.sub_not_under hw, Oid.sub_not_under ho, Oid.not_under_sub hs, Oid.not_under_sub hr, Oid.not_under_sub hw, Oid.not_under_sub ho, of_put_at]
      · intro j hj
        obtain ⟨a1, a2, a3, a4, a5, a6⟩ := hN1.ne j hj
        have a8 : ¬ j = .sub (c + 1) 2 x.p := fun e => a6 (c + 1) 2 (by omega) (e ▸ Oid.under_refl _)
        simp only [fa_cons, fa_nil, Mem.of_cons_at, Mem.of_nil_at, Mem.of_upds, Mem.of_putL, putLs, putL, List.cons_append, List.nil_append, List.append_nil, ↓reduceIte, eq_self, and_true, true_and, and_self, and_false, false_and, reduceCtorEq, Oid.sub.injEq, Nat.reduceEqDiff, Fct.av, AV.cells, hrs, hws, hwr, hos, hor, how, Oid.sub_not_under hs, Oid.sub_not_under hr, Oid.sub_not_under hw, Oid.sub_not_under ho, Oid.not_under_sub hs, Oid.not_under_sub hr, Oid.not_under_sub hw, Oid.not_under_sub ho, of_put_at, a1, a2, a3, a4, a5, a8]
      generalize hO2 : noteF (plR Rn) (plR W) ⟨t.path, false⟩ k O = O2 at *
      generalize hrest : rowsM Rn ++ rowsM W = rest
      simp (disch := first | omega | assumption) only [go_sem, ↓reduceIte, Nat.reduceEqDiff, Nat.reduceAdd, Nat.reduceMul, Nat.reduceLT, Nat.reduceLeDiff, reduceCtorEq, Nat.reduceBEq, Int.reduceToNat, Int.reduceNeg, hos, hor, how]
      refine hK ?_; clear hK hS hC hC1 K S C hf
      (repeat (first | (with_reducible (first | refine K_seq ?_ | refine K_next ?_ | refine K_skip ?_ | refine K_bend ?_ | refine K_exit ?_ | refine X_code ?_ | refine X_lend ?_ | refine X_here ?_ | refine X_on (by decide) ?_ | refine K_lendL ?_)) | (refine K_ifT rfl rfl ?_) | (refine K_ifF rfl rfl ?_) | (refine K_ev nmd [] hng (by kernel_rfl) fun hf C S K hC1 hC hS hK => ?_; simp (disch := first | omega | assumption) only [go_sem, ↓reduceIte, Nat.reduceEqDiff, Nat.reduceAdd, Nat.reduceMul, Nat.reduceLT, Nat.reduceLeDiff, reduceCtorEq, Nat.reduceBEq, Int.reduceToNat, Int.reduceNeg]; refine hK ?_; clear hK hS hC hC1 K S C hf)))
      refine K_evd nmd [] [(2, 5)] mixed hng (by kernel_rfl) [0, 2, 4, 39, 40, 41] fun hf C S K hC hS hK => ?_; simp (disch := first | omega | assumption) only [go_sem, ↓reduceIte, Nat.reduceEqDiff, Nat.reduceAdd, Nat.reduceMul, Nat.reduceLT, Nat.reduceLeDiff, reduceCtorEq, Nat.reduceBEq, Int.reduceToNat, Int.reduceNeg, of_put_at]
      have hlt : -1 ≤ lastI t.path 47 ∧ lastI t.path 47 < t.path.length := lastN_lt t.path 47 t.path.length
      have hmx : (if lastI t.path 47 > 0 then lastI t.path 47 else 0) = ((lastI t.path 47).toNat : Int) := by split <;> omega
      have hnl : (lastI t.path 47).toNat ≤ t.path.length := by omega
      refine hC _ (lastIndexByte_ok t.path 47 (by omega) _) (by simp) ?_
      simp (disch := first | omega | assumption) only [go_sem, ↓reduceIte, Nat.reduceEqDiff, Nat.reduceAdd, Nat.reduceMul, Nat.reduceLT, Nat.reduceLeDiff, reduceCtorEq, Nat.reduceBEq, Int.reduceToNat, Int.reduceNeg, hmx]
      subst hrest
      refine hC _ (note_at hN1 hrs hws hwr hos hor how hs hr hw ho hBR1 hBW1 (by omega) ⟨aboveF t.path, true⟩ k _ _ O2 (by omega)) (note_need hN1 ?_ ?_) ?_
      · simp only [fa_cons, fa_nil, Mem.of_cons_at, Mem.of_nil_at, Mem.of_upds, Mem.of_putL, putLs, putL, List.cons_append, List.nil_append, List.append_nil, ↓reduceIte, eq_self, and_true, true_and, and_self, and_false, false_and, reduceCtorEq, Oid.sub.injEq, Nat.reduceEqDiff, Fct.av, AV.cells, hrs, hws, hwr, hos, hor, how, Oid.sub_not_under hs, Oid.sub_not_under hr, Oid.sub_not_under hw, Oid.sub_not_under ho, Oid.not_under_sub hs, Oid.not_under_sub hr, Oid.not_under_sub hw, Oid.not_under_sub ho, of_put_at]
      · intro j hj
        obtain ⟨a1, a2, a3, a4, a5, a6⟩ := hN1.ne j hj
        have a8 : ¬ j = .sub (c + 1) 2 x.p := fun e => a6 (c + 1) 2 (by omega) (e ▸ Oid.under_refl _)
        simp only [fa_cons, fa_nil, Mem.of_cons_at, Mem.of_nil_at, Mem.of_upds, Mem.of_putL, putLs, putL, List.cons_append, List.nil_append, List.append_nil, ↓reduceIte, eq_self, and_true, true_and, and_self, and_false, false_and, reduceCtorEq, Oid.sub.injEq, Nat.reduceEqDiff, Fct.av, AV.cells, hrs, hws, hwr, hos, hor, how, Oid.sub_not_under hs, Oid.sub_not_under hr, Oid.sub_not_under hw, Oid.sub_not_under ho, Oid.not_under_sub hs, Oid.not_under_sub hr, Oid.not_under_sub hw, Oid.not_under_sub ho, of_put_at, a1, a2, a3, a4, a5, a8]
      generalize hO3 : noteF (plR Rn) (plR W) ⟨aboveF t.path, true⟩ k O2 = O3 at *
      generalize hrest : rowsM Rn ++ rowsM W = rest
      simp (disch := first | omega | assumption) only [go_sem, ↓reduceIte, Nat.reduceEqDiff, Nat.reduceAdd, Nat.reduceMul, Nat.reduceLT, Nat.reduceLeDiff, reduceCtorEq, Nat.reduceBEq, Int.reduceToNat, Int.reduceNeg, hos, hor, how]
      (first | refine hK (dynN_quiet rfl) ?_ | refine hK (by simp (disch := first | omega | assumption) only [go_sem, ↓reduceIte, Nat.reduceEqDiff, Nat.reduceAdd, Nat.reduceMul, Nat.reduceLT, Nat.reduceLeDiff, reduceCtorEq, Nat.reduceBEq, Int.reduceToNat, Int.reduceNeg, List.reverse_cons, List.reverse_nil, ne_eq, not_false_eq_true, implies_true]) ?_); clear hK hS hC K S C hf
      (repeat (with_reducible (first | refine K_seq ?_ | refine K_next ?_ | refine K_skip ?_ | refine K_bend ?_ | refine K_block ?_ | refine K_exit ?_ | refine X_code ?_ | refine X_lend ?_ | refine X_here ?_ | refine X_on (by decide) ?_ | refine K_lendL ?_)))
      (repeat (first | (with_reducible (first | refine K_seq ?_ | refine K_next ?_ | refine K_skip ?_ | refine K_bend ?_ | refine K_block ?_ | refine K_exit ?_ | refine X_code ?_ | refine X_lend ?_ | refine X_here ?_ | refine X_on (by decide) ?_ | refine K_lendL ?_)) | (refine K_ifT rfl rfl ?_) | (refine K_ifF rfl rfl ?_) | (refine K_ev nmd [] hng (by kernel_rfl) fun hf C S K hC1 hC hS hK => ?_; simp (disch := first | omega | assumption) only [go_sem, ↓reduceIte, Nat.reduceEqDiff, Nat.reduceAdd, Nat.reduceMul, Nat.reduceLT, Nat.reduceLeDiff, reduceCtorEq, Nat.reduceBEq, Int.reduceToNat, Int.reduceNeg]; refine hK ?_; clear hK hS hC hC1 K S C hf)))
      subst hrest
      refine ⟨_, Mem.of ([(s, .cells [.map r, .map w, .map o]), (r, .map kF true (esA Fct.av (entV Rn) 0) (entV Rn).length), (w, .map kF true (esA Fct.av (entV W) 0) (entV W).length), (o, .map kH true (esA Hz.av (O3.map fun h => (h, .bool true)) 0) O3.length), (.sub 0 0 x.p, .cells [.list 3 (z.reads.map Tch.av), .list 3 (z.writes.map Tch.av)])] ++ (rowsM Rn ++ rowsM W)), ?_, mem_end (rows_same hN1 ?_ ?_), i + 1, _, O3, rfl, by omega, rfl, by omega, ?_⟩
      · omega
      · simp only [fa_cons, fa_nil, Mem.of_cons_at, Mem.of_nil_at, Mem.of_upds, Mem.of_putL, putLs, putL, List.cons_append, List.nil_append, List.append_nil, ↓reduceIte, eq_self, and_true, true_and, and_self, and_false, false_and, reduceCtorEq, Oid.sub.injEq, Nat.reduceEqDiff, Fct.av, AV.cells, hrs, hws, hwr, hos, hor, how, Oid.sub_not_under hs, Oid.sub_not_under hr, Oid.sub_not_under hw, Oid.sub_not_under ho, Oid.not_under_sub hs, Oid.not_under_sub hr, Oid.not_under_sub hw, Oid.not_under_sub ho, kF, kH, of_put_at]
      · intro j hj
        obtain ⟨a1, a2, a3, a4, a5, a6⟩ := hN1.ne j hj
        have a8 : ¬ j = .sub (c + 1) 2 x.p := fun e => a6 (c + 1) 2 (by omega) (e ▸ Oid.under_refl _)
        simp only [fa_cons, fa_nil, Mem.of_cons_at, Mem.of_nil_at, Mem.of_upds, Mem.of_putL, putLs, putL, List.cons_append, List.nil_append, List.append_nil, ↓reduceIte, eq_self, and_true, true_and, and_self, and_false, false_and, reduceCtorEq, Oid.sub.injEq, Nat.reduceEqDiff, Fct.av, AV.cells, hrs, hws, hwr, hos, hor, how, Oid.sub_not_under hs, Oid.sub_not_under hr, Oid.sub_not_under hw, Oid.sub_not_under ho, Oid.not_under_sub hs, Oid.not_under_sub hr, Oid.not_under_sub hw, Oid.not_under_sub ho, of_put_at, a1, a2, a3, a4, a5, a8]
      · rw [foldl_drop _ _ hb', htt, hO2, hO3] at hgoal; exact hgoal
    · (repeat (with_reducible (first | refine K_seq ?_ | refine K_next ?_ | refine K_skip ?_ | refine K_bend ?_ | refine K_block ?_ | refine K_exit ?_ | refine X_code ?_ | refine X_lend ?_ | refine X_here ?_ | refine X_on (by decide) ?_ | refine K_lendL ?_)))
      obtain rfl : i = z.writes.length := by omega
      rw [List.drop_length, List.foldl_nil] at hgoal
      exact K_cutN ⟨O, _, rfl, by omega, hgoal⟩
  rintro s' ⟨O1, c2, rfl, hc2, hpO⟩
  have hN2 := hN1.mono hc2
  clear hN1
  generalize hW0 : W = W0 at *
  generalize hwd0 : z.writes.foldl (fun w t => rowAdd ⟨t.path, false⟩ k w) (plR W0) = W1
  (repeat (first | (with_reducible (first | refine K_seq ?_ | refine K_next ?_ | refine K_skip ?_ | refine K_bend ?_ | refine K_block ?_ | refine K_exit ?_ | refine X_code ?_ | refine X_lend ?_ | refine X_here ?_ | refine X_on (by decide) ?_ | refine K_lendL ?_)) | (refine K_ifT rfl rfl ?_) | (refine K_ifF rfl rfl ?_) | (refine K_ev nmd [] hng (by kernel_rfl) fun hf C S K hC1 hC hS hK => ?_; simp (disch := first | omega | assumption) only [go_sem, ↓reduceIte, Nat.reduceEqDiff, Nat.reduceAdd, Nat.reduceMul, Nat.reduceLT, Nat.reduceLeDiff, reduceCtorEq, Nat.reduceBEq, Int.reduceToNat, Int.reduceNeg]; refine hK ?_; clear hK hS hC hC1 K S C hf)))
  refine K_loop [0, 2, 4, 64, 65, 66] (fun q s' => ∃ (i c : Nat) (W : Rw), s' = ⟨[(0, .ptr s 0), (2, .int .i64 k), (4, .ptr (.sub 0 0 x.p) 0), (64, .list 3 (z.writes.map Tch.av)), (65, .int .i64 z.writes.length), (66, .int .i64 i)], Mem.of ([(s, .cells [.map r, .map w, .map o]), (r, .map kF true (esA Fct.av (entV Rn) 0) (entV Rn).length), (w, .map kF true (esA Fct.av (entV W) 0) (entV W).length), (o, .map kH true (esA Hz.av (O1.map fun h => (h, .bool true)) 0) O1.length), (.sub 0 0 x.p, .cells [.list 3 (z.reads.map Tch.av), .list 3 (z.writes.map Tch.av)])] ++ (rowsM Rn ++ rowsM W)), c, []⟩ ∧ 0 < c ∧ q = z.writes.length - i ∧ i ≤ z.writes.length ∧
    Names s r w o x.p c Rn W ∧ Src N0 x.p Rn W ∧ (∀ q ∈ W, q.2.2.length ≤ B + i) ∧ (z.writes.drop i).foldl (fun r t => rowAdd ⟨t.path, false⟩ k r) (plR W) = W1) _ ⟨0, _, W0, rfl, by omega, rfl, Nat.zero_le _, hN2.mono (by omega), hS1, hBW, hwd0⟩ ?_
  rintro q s' ⟨i, c, W, rfl, hc, rfl, hi, hN, hS0, hBW, hwd1⟩
  (repeat (first | (with_reducible (first | refine K_seq ?_ | refine K_next ?_ | refine K_skip ?_ | refine K_bend ?_ | refine K_block ?_ | refine K_exit ?_ | refine X_code ?_ | refine X_lend ?_ | refine X_here ?_ | refine X_on (by decide) ?_ | refine K_lendL ?_)) | (refine K_ifT rfl rfl ?_) | (refine K_ifF rfl rfl ?_) | (refine K_ev nmd [] hng (by kernel_rfl) fun hf C S K hC1 hC hS hK => ?_; simp (disch := first | omega | assumption) only [go_sem, ↓reduceIte, Nat.reduceEqDiff, Nat.reduceAdd, Nat.reduceMul, Nat.reduceLT, Nat.reduceLeDiff, reduceCtorEq, Nat.reduceBEq, Int.reduceToNat, Int.reduceNeg]; refine hK ?_; clear hK hS hC hC1 K S C hf)))
  refine K_ifd rfl rfl (fun hb => ?_) (fun hb => ?_)
  · have hb' : i < z.writes.length := by omega
    have hxi := getD_map_in Tch.av hb' .undef
    generalize htt : z.writes.getD i default = t at hxi
    generalize hrest : rowsM Rn ++ rowsM W = rest
    (repeat (first | (with_reducible (first | refine K_seq ?_ | refine K_next ?_ | refine K_skip ?_ | refine K_bend ?_ | refine K_exit ?_ | refine X_code ?_ | refine X_lend ?_ | refine X_here ?_ | refine X_on (by decide) ?_ | refine K_lendL ?_)) | (refine K_ifT rfl rfl ?_) | (refine K_ifF rfl rfl ?_) | (refine K_ev nmd [] hng (by kernel_rfl) fun hf C S K hC1 hC hS hK => ?_; simp (disch := first | omega | assumption) only [go_sem, ↓reduceIte, Nat.reduceEqDiff, Nat.reduceAdd, Nat.reduceMul, Nat.reduceLT, Nat.reduceLeDiff, reduceCtorEq, Nat.reduceBEq, Int.reduceToNat, Int.reduceNeg]; refine hK ?_; clear hK hS hC hC1 K S C hf))); refine K_block ?_
    (repeat (first | (with_reducible (first | refine K_seq ?_ | refine K_next ?_ | refine K_skip ?_ | refine K_bend ?_ | refine K_exit ?_ | refine X_code ?_ | refine X_lend ?_ | refine X_here ?_ | refine X_on (by decide) ?_ | refine K_lendL ?_)) | (refine K_ifT rfl rfl ?_) | (refine K_ifF rfl rfl ?_) | (refine K_ev nmd [] hng (by kernel_rfl) fun hf C S K hC1 hC hS hK => ?_; simp (disch := first | omega | assumption) only [go_sem, ↓reduceIte, Nat.reduceEqDiff, Nat.reduceAdd, Nat.reduceMul, Nat.reduceLT, Nat.reduceLeDiff, reduceCtorEq, Nat.reduceBEq, Int.reduceToNat, Int.reduceNeg]; refine hK ?_; clear hK hS hC hC1 K S C hf)))
    refine K_ev nmd [] hng (by kernel_rfl) fun hf C S K hC1 hC hS hK => ?_; simp (disch := first | omega | assumption) only [go_sem, ↓reduceIte, Nat.reduceEqDiff, Nat.reduceAdd, Nat.reduceMul, Nat.reduceLT, Nat.reduceLeDiff, reduceCtorEq, Nat.reduceBEq, Int.reduceToNat, Int.reduceNeg, hxi, of_put_at]
    refine hK ?_; clear hK hS hC hC1 K S C hf
    (repeat (first | (with_reducible (first | refine K_seq ?_ | refine K_next ?_ | refine K_skip ?_ | refine K_bend ?_ | refine K_exit ?_ | refine X_code ?_ | refine X_lend ?_ | refine X_here ?_ | refine X_on (by decide) ?_ | refine K_lendL ?_)) | (refine K_ifT rfl rfl ?_) | (refine K_ifF rfl rfl ?_) | (refine K_ev nmd [] hng (by kernel_rfl) fun hf C S K hC1 hC hS hK => ?_; simp (disch := first | omega | assumption) only [go_sem, ↓reduceIte, Nat.reduceEqDiff, Nat.reduceAdd, Nat.reduceMul, Nat.reduceLT, Nat.reduceLeDiff, reduceCtorEq, Nat.reduceBEq, Int.reduceToNat, Int.reduceNeg]; refine hK ?_; clear hK hS hC hC1 K S C hf)))
    refine K_ev nmd [] hng (by kernel_rfl) fun hf C S K hC1 hC hS hK => ?_; simp (disch := first | omega | assumption) only [go_sem, ↓reduceIte, Nat.reduceEqDiff, Nat.reduceAdd, Nat.reduceMul, Nat.reduceLT, Nat.reduceLeDiff, reduceCtorEq, Nat.reduceBEq, Int.reduceToNat, Int.reduceNeg, of_put_at]
    refine hK ?_; clear hK hS hC hC1 K S C hf
    (repeat (first | (with_reducible (first | refine K_seq ?_ | refine K_next ?_ | refine K_skip ?_ | refine K_bend ?_ | refine K_exit ?_ | refine X_code ?_ | refine X_lend ?_ | refine X_here ?_ | refine X_on (by decide) ?_ | refine K_lendL ?_)) | (refine K_ifT rfl rfl ?_) | (refine K_ifF rfl rfl ?_) | (refine K_ev nmd [] hng (by kernel_rfl) fun hf C S K hC1 hC hS hK => ?_; simp (disch := first | omega | assumption) only [go_sem, ↓reduceIte, Nat.reduceEqDiff, Nat.reduceAdd, Nat.reduceMul, Nat.reduceLT, Nat.reduceLeDiff, reduceCtorEq, Nat.reduceBEq, Int.reduceToNat, Int.reduceNeg]; refine hK ?_; clear hK hS hC hC1 K S C hf)))
    subst hrest
    refine K_drop (Mem.of ([(s, .cells [.map r, .map w, .map o]), (r, .map kF true (esA Fct.av (entV Rn) 0) (entV Rn).length), (w, .map kF true (esA Fct.av (entV W) 0) (entV W).length), (o, .map kH true (esA Hz.av (O1.map fun h => (h, .bool true)) 0) O1.length), (.sub 0 0 x.p, .cells [.list 3 (z.reads.map Tch.av), .list 3 (z.writes.map Tch.av)]), (.sub (c + 1 + 1) 3 x.p, .cells [.str t.path, .bool false])] ++ (rowsM Rn ++ rowsM W))) (mem_end (rows_same hN ?_ ?_)) ?_
    · simp only [fa_cons, fa_nil, Mem.of_cons_at, Mem.of_nil_at, Mem.of_upds, Mem.of_putL, putLs, putL, List.cons_append, List.nil_append, List.append_nil, ↓reduceIte, eq_self, and_true, true_and, and_self, and_false, false_and, reduceCtorEq, Oid.sub.injEq, Nat.reduceEqDiff, Fct.av, AV.cells, hrs, hws, hwr, hos, hor, how, Oid.sub_not_under hs, Oid.sub_not_under hr, Oid.sub_not_under hw, Oid.sub_not_under ho, Oid.not_under_sub hs, Oid.not_under_sub hr, Oid.not_under_sub hw, Oid.not_under_sub ho, of_put_at, show ¬ c + 1 + 1 = c + 1 by omega, show ¬ c + 1 + 1 = 0 by omega]
    · intro j hj
      obtain ⟨a1, a2, a3, a4, a5, a6⟩ := hN.ne j hj
      have a7 : ¬ j = .sub (c + 1 + 1) 3 x.p := fun e => a6 (c + 1 + 1) 3 (by omega) (e ▸ Oid.under_refl _)
      have a8 : ¬ j = .sub (c + 1) 2 x.p := fun e => a6 (c + 1) 2 (by omega) (e ▸ Oid.under_refl _)
      simp only [fa_cons, fa_nil, Mem.of_cons_at, Mem.of_nil_at, Mem.of_upds, Mem.of_putL, putLs, putL, List.cons_append, List.nil_append, List.append_nil, ↓reduceIte, eq_self, and_true, true_and, and_self, and_false, false_and, reduceCtorEq, Oid.sub.injEq, Nat.reduceEqDiff, Fct.av, AV.cells, hrs, hws, hwr, hos, hor, how, Oid.sub_not_under hs, Oid.sub_not_under hr, Oid.sub_not_under hw, Oid.sub_not_under ho, Oid.not_under_sub hs, Oid.not_under_sub hr, Oid.not_under_sub hw, Oid.not_under_sub ho, of_put_at, a1, a2, a3, a4, a5, a7, a8]
    have hR := getA_ent ⟨t.path, false⟩ W
    generalize hrest : rowsM Rn ++ rowsM W = rest
    rcases hro : nameR ⟨t.path, false⟩ W with _ | ro
    · have hr0 := row_none _ _ hro
      rw [hro] at hR
      refine K_evd nmd [] [(3, 6), (4, 6)] mixed hng (by kernel_rfl) [0, 2, 4, 64, 65, 66] fun hf C S K hC hS hK => ?_; simp (disch := first | omega | assumption) only [go_sem, ↓reduceIte, Nat.reduceEqDiff, Nat.reduceAdd, Nat.reduceMul, Nat.reduceLT, Nat.reduceLeDiff, reduceCtorEq, Nat.reduceBEq, Int.reduceToNat, Int.reduceNeg, of_put_at, hrs, hws, hwr, kF, val_f, hR, set_f, len_f, born_f, anyb_f, gdR_T]
      (first | refine hK (dynN_quiet rfl) ?_ | refine hK (by simp (disch := first | omega | assumption) only [go_sem, ↓reduceIte, Nat.reduceEqDiff, Nat.reduceAdd, Nat.reduceMul, Nat.reduceLT, Nat.reduceLeDiff, reduceCtorEq, Nat.reduceBEq, Int.reduceToNat, Int.reduceNeg, List.reverse_cons, List.reverse_nil, ne_eq, not_false_eq_true, implies_true]) ?_); clear hK hS hC K S C hf
      (repeat (with_reducible (first | refine K_seq ?_ | refine K_next ?_ | refine K_skip ?_ | refine K_bend ?_ | refine K_block ?_ | refine K_exit ?_ | refine X_code ?_ | refine X_lend ?_ | refine X_here ?_ | refine X_on (by decide) ?_ | refine K_lendL ?_)))
      (repeat (first | (with_reducible (first | refine K_seq ?_ | refine K_next ?_ | refine K_skip ?_ | refine K_bend ?_ | refine K_block ?_ | refine K_exit ?_ | refine X_code ?_ | refine X_lend ?_ | refine X_here ?_ | refine X_on (by decide) ?_ | refine K_lendL ?_)) | (refine K_ifT rfl rfl ?_) | (refine K_ifF rfl rfl ?_) | (refine K_ev nmd [] hng (by kernel_rfl) fun hf C S K hC1 hC hS hK => ?_; simp (disch := first | omega | assumption) only [go_sem, ↓reduceIte, Nat.reduceEqDiff, Nat.reduceAdd, Nat.reduceMul, Nat.reduceLT, Nat.reduceLeDiff, reduceCtorEq, Nat.reduceBEq, Int.reduceToNat, Int.reduceNeg]; refine hK ?_; clear hK hS hC hC1 K S C hf)))
      subst hrest
      have hput := put_ent ⟨t.path, false⟩ (.sub (c + 1 + 1 + 1) 9 x.p) (rowR ⟨t.path, false⟩ W ++ [k]) W
      have hpl := pl_set ⟨t.path, false⟩ (.sub (c + 1 + 1 + 1) 9 x.p) k W
      have hnn := hN.swap.set (f := ⟨t.path, false⟩) (c0 := c + 1 + 1 + 1) (j := 9) (by omega) (by omega) hs hr hw ho (l := rowR ⟨t.path, false⟩ W ++ [k]) (Nat.lt_succ_self _)
      have hsr := hS0.swap.set hN.ndW (f := ⟨t.path, false⟩) (c := c + 1 + 1 + 1) (j := 9) (l := rowR ⟨t.path, false⟩ W ++ [k])
      have hsh := set_short hBW ⟨t.path, false⟩ (.sub (c + 1 + 1 + 1) 9 x.p) (rowR ⟨t.path, false⟩ W ++ [k]) (by have := row_short hBW ⟨t.path, false⟩; simp only [List.length_append, List.length_cons, List.length_nil]; omega)
      refine ⟨_, Mem.of ([(s, .cells [.map r, .map w, .map o]), (r, .map kF true (esA Fct.av (entV Rn) 0) (entV Rn).length), (w, .map kF true (esA Fct.av (entV (setR ⟨t.path, false⟩ (.sub (c + 1 + 1 + 1) 9 x.p) (rowR ⟨t.path, false⟩ W ++ [k]) W)) 0) (entV (setR ⟨t.path, false⟩ (.sub (c + 1 + 1 + 1) 9 x.p) (rowR ⟨t.path, false⟩ W ++ [k]) W)).length), (o, .map kH true (esA Hz.av (O1.map fun h => (h, .bool true)) 0) O1.length), (.sub 0 0 x.p, .cells [.list 3 (z.reads.map Tch.av), .list 3 (z.writes.map Tch.av)])] ++ (rowsM Rn ++ rowsM (setR ⟨t.path, false⟩ (.sub (c + 1 + 1 + 1) 9 x.p) (rowR ⟨t.path, false⟩ W ++ [k]) W))), ?_, mem_end (rows_setW (f := ⟨t.path, false⟩) (i := .sub (c + 1 + 1 + 1) 9 x.p) (l := rowR ⟨t.path, false⟩ W ++ [k]) hN (B := [(s, .cells [.map r, .map w, .map o]), (r, .map kF true (esA Fct.av (entV Rn) 0) (entV Rn).length), (w, .map kF true (esA Fct.av (entV (setR ⟨t.path, false⟩ (.sub (c + 1 + 1 + 1) 9 x.p) (rowR ⟨t.path, false⟩ W ++ [k]) W)) 0) (entV (setR ⟨t.path, false⟩ (.sub (c + 1 + 1 + 1) 9 x.p) (rowR ⟨t.path, false⟩ W ++ [k]) W)).length), (o, .map kH true (esA Hz.av (O1.map fun h => (h, .bool true)) 0) O1.length), (.sub 0 0 x.p, .cells [.list 3 (z.reads.map Tch.av), .list 3 (z.writes.map Tch.av)])]) ?_ ?_ ?_), i + 1, _, setR ⟨t.path, false⟩ (.sub (c + 1 + 1 + 1) 9 x.p) (rowR ⟨t.path, false⟩ W ++ [k]) W, rfl, by omega, rfl, by omega, (hnn.swap).mono (by omega), hsr.swap, fun q hq => by have := hsh q hq; omega, ?_⟩
      · omega
      · rw [← hput, hr0]
        simp only [fa_cons, fa_nil, Mem.of_cons_at, Mem.of_nil_at, Mem.of_upds, Mem.of_putL, putLs, putL, List.cons_append, List.nil_append, List.append_nil, ↓reduceIte, eq_self, and_true, true_and, and_self, and_false, false_and, reduceCtorEq, Oid.sub.injEq, Nat.reduceEqDiff, Fct.av, AV.cells, hrs, hws, hwr, hos, hor, how, Oid.sub_not_under hs, Oid.sub_not_under hr, Oid.sub_not_under hw, Oid.sub_not_under ho, Oid.not_under_sub hs, Oid.not_under_sub hr, Oid.not_under_sub hw, Oid.not_under_sub ho, kF, of_put_at, putA_len2 _ .undef (.sl (.sub (c + 1 + 1 + 1) 9 x.p) 1 1), List.length_cons, List.length_nil]
      · rw [hr0]
        simp only [fa_cons, fa_nil, Mem.of_cons_at, Mem.of_nil_at, Mem.of_upds, Mem.of_putL, putLs, putL, List.cons_append, List.nil_append, List.append_nil, ↓reduceIte, eq_self, and_true, true_and, and_self, and_false, false_and, reduceCtorEq, Oid.sub.injEq, Nat.reduceEqDiff, Fct.av, AV.cells, hrs, hws, hwr, hos, hor, how, Oid.sub_not_under hs, Oid.sub_not_under hr, Oid.sub_not_under hw, Oid.sub_not_under ho, Oid.not_under_sub hs, Oid.not_under_sub hr, Oid.not_under_sub hw, Oid.not_under_sub ho, of_put_at, ints, List.map_cons, List.map_nil, show ¬ c + 1 + 1 + 1 = 0 by omega]
      · intro j hj hne
        obtain ⟨a1, a2, a3, a4, a5, a6⟩ := hN.ne j hj
        have a7 : ¬ j = .sub (c + 1 + 1) 3 x.p := fun e => a6 (c + 1 + 1) 3 (by omega) (e ▸ Oid.under_refl _)
        have a8 : ¬ j = .sub (c + 1 + 1 + 1) 9 x.p := fun e => a6 (c + 1 + 1 + 1) 9 (by omega) (e ▸ Oid.under_refl _)
        simp only [fa_cons, fa_nil, Mem.of_cons_at, Mem.of_nil_at, Mem.of_upds, Mem.of_putL, putLs, putL, List.cons_append, List.nil_append, List.append_nil, ↓reduceIte, eq_self, and_true, true_and, and_self, and_false, false_and, reduceCtorEq, Oid.sub.injEq, Nat.reduceEqDiff, Fct.av, AV.cells, hrs, hws, hwr, hos, hor, how, Oid.sub_not_under hs, Oid.sub_not_under hr, Oid.sub_not_under hw, Oid.sub_not_under ho, Oid.not_under_sub hs, Oid.not_under_sub hr, Oid.not_under_sub hw, Oid.not_under_sub ho, of_put_at, a1, a2, a3, a4, a5, a7, a8]
      · rw [foldl_drop _ _ hb', htt] at hwd1
        rw [hpl]; exact hwd1
    · have hrow := hN.rowW hro
      have hnr := name_in hro
      obtain ⟨b1, b2, b3, b4, b5, b6⟩ := hN.ne ro (List.mem_append_right _ hnr)
      have b7 : ¬ ro = .sub (c + 1 + 1) 3 x.p := fun e => b6 (c + 1 + 1) 3 (by omega) (e ▸ Oid.under_refl _)
      have b8 : ¬ ro = .sub (c + 1 + 1 + 1) 9 x.p := fun e => b6 (c + 1 + 1 + 1) 9 (by omega) (e ▸ Oid.under_refl _)
      have hlen := row_short hBW ⟨t.path, false⟩
      rw [hrest] at hrow
      rw [hro] at hR
      refine K_evd nmd [] [(3, 6), (4, 6)] mixed hng (by kernel_rfl) [0, 2, 4, 64, 65, 66] fun hf C S K hC hS hK => ?_; simp (disch := first | omega | assumption) only [go_sem, ↓reduceIte, Nat.reduceEqDiff, Nat.reduceAdd, Nat.reduceMul, Nat.reduceLT, Nat.reduceLeDiff, reduceCtorEq, Nat.reduceBEq, Int.reduceToNat, Int.reduceNeg, of_put_at, hrs, hws, hwr, kF, val_f, hR, set_f, len_f, born_f, anyb_f, gdR_T, hrow, b1, b2, b3, b4, b5, b7, b8, ints_len]
      (first | refine hK (dynN_quiet rfl) ?_ | refine hK (by simp (disch := first | omega | assumption) only [go_sem, ↓reduceIte, Nat.reduceEqDiff, Nat.reduceAdd, Nat.reduceMul, Nat.reduceLT, Nat.reduceLeDiff, reduceCtorEq, Nat.reduceBEq, Int.reduceToNat, Int.reduceNeg, List.reverse_cons, List.reverse_nil, ne_eq, not_false_eq_true, implies_true]) ?_); clear hK hS hC K S C hf
      (repeat (with_reducible (first | refine K_seq ?_ | refine K_next ?_ | refine K_skip ?_ | refine K_bend ?_ | refine K_block ?_ | refine K_exit ?_ | refine X_code ?_ | refine X_lend ?_ | refine X_here ?_ | refine X_on (by decide) ?_ | refine K_lendL ?_)))
      (repeat (first | (with_reducible (first | refine K_seq ?_ | refine K_next ?_ | refine K_skip ?_ | refine K_bend ?_ | refine K_block ?_ | refine K_exit ?_ | refine X_code ?_ | refine X_lend ?_ | refine X_here ?_ | refine X_on (by decide) ?_ | refine K_lendL ?_)) | (refine K_ifT rfl rfl ?_) | (refine K_ifF rfl rfl ?_) | (refine K_ev nmd [] hng (by kernel_rfl) fun hf C S K hC1 hC hS hK => ?_; simp (disch := first | omega | assumption) only [go_sem, ↓reduceIte, Nat.reduceEqDiff, Nat.reduceAdd, Nat.reduceMul, Nat.reduceLT, Nat.reduceLeDiff, reduceCtorEq, Nat.reduceBEq, Int.reduceToNat, Int.reduceNeg]; refine hK ?_; clear hK hS hC hC1 K S C hf)))
      subst hrest
      have hput := put_ent ⟨t.path, false⟩ (.sub (c + 1 + 1 + 1) 9 x.p) (rowR ⟨t.path, false⟩ W ++ [k]) W
      have hpl := pl_set ⟨t.path, false⟩ (.sub (c + 1 + 1 + 1) 9 x.p) k W
      have hnn := hN.swap.set (f := ⟨t.path, false⟩) (c0 := c + 1 + 1 + 1) (j := 9) (by omega) (by omega) hs hr hw ho (l := rowR ⟨t.path, false⟩ W ++ [k]) (Nat.lt_succ_self _)
      have hsr := hS0.swap.set hN.ndW (f := ⟨t.path, false⟩) (c := c + 1 + 1 + 1) (j := 9) (l := rowR ⟨t.path, false⟩ W ++ [k])
      have hsh := set_short hBW ⟨t.path, false⟩ (.sub (c + 1 + 1 + 1) 9 x.p) (rowR ⟨t.path, false⟩ W ++ [k]) (by have := row_short hBW ⟨t.path, false⟩; simp only [List.length_append, List.length_cons, List.length_nil]; omega)
      refine ⟨_, Mem.of ([(s, .cells [.map r, .map w, .map o]), (r, .map kF true (esA Fct.av (entV Rn) 0) (entV Rn).length), (w, .map kF true (esA Fct.av (entV (setR ⟨t.path, false⟩ (.sub (c + 1 + 1 + 1) 9 x.p) (rowR ⟨t.path, false⟩ W ++ [k]) W)) 0) (entV (setR ⟨t.path, false⟩ (.sub (c + 1 + 1 + 1) 9 x.p) (rowR ⟨t.path, false⟩ W ++ [k]) W)).length), (o, .map kH true (esA Hz.av (O1.map fun h => (h, .bool true)) 0) O1.length), (.sub 0 0 x.p, .cells [.list 3 (z.reads.map Tch.av), .list 3 (z.writes.map Tch.av)])] ++ (rowsM Rn ++ rowsM (setR ⟨t.path, false⟩ (.sub (c + 1 + 1 + 1) 9 x.p) (rowR ⟨t.path, false⟩ W ++ [k]) W))), ?_, mem_end (rows_setW (f := ⟨t.path, false⟩) (i := .sub (c + 1 + 1 + 1) 9 x.p) (l := rowR ⟨t.path, false⟩ W ++ [k]) hN (B := [(s, .cells [.map r, .map w, .map o]), (r, .map kF true (esA Fct.av (entV Rn) 0) (entV Rn).length), (w, .map kF true (esA Fct.av (entV (setR ⟨t.path, false⟩ (.sub (c + 1 + 1 + 1) 9 x.p) (rowR ⟨t.path, false⟩ W ++ [k]) W)) 0) (entV (setR ⟨t.path, false⟩ (.sub (c + 1 + 1 + 1) 9 x.p) (rowR ⟨t.path, false⟩ W ++ [k]) W)).length), (o, .map kH true (esA Hz.av (O1.map fun h => (h, .bool true)) 0) O1.length), (.sub 0 0 x.p, .cells [.list 3 (z.reads.map Tch.av), .list 3 (z.writes.map Tch.av)])]) ?_ ?_ ?_), i + 1, _, setR ⟨t.path, false⟩ (.sub (c + 1 + 1 + 1) 9 x.p) (rowR ⟨t.path, false⟩ W ++ [k]) W, rfl, by omega, rfl, by omega, (hnn.swap).mono (by omega), hsr.swap, fun q hq => by have := hsh q hq; omega, ?_⟩
      · omega
      · rw [← hput]
        have hl2 := fun n => putA_len2 (⟨t.path, false⟩ : Fct) .undef (.sl (.sub (c + 1 + 1 + 1) 9 x.p) 1 n) (entV W)
        simp only [fa_cons, fa_nil, Mem.of_cons_at, Mem.of_nil_at, Mem.of_upds, Mem.of_putL, putLs, putL, List.cons_append, List.nil_append, List.append_nil, ↓reduceIte, eq_self, and_true, true_and, and_self, and_false, false_and, reduceCtorEq, Oid.sub.injEq, Nat.reduceEqDiff, Fct.av, AV.cells, hrs, hws, hwr, hos, hor, how, Oid.sub_not_under hs, Oid.sub_not_under hr, Oid.sub_not_under hw, Oid.sub_not_under ho, Oid.not_under_sub hs, Oid.not_under_sub hr, Oid.not_under_sub hw, Oid.not_under_sub ho, kF, of_put_at, List.length_append, List.length_cons, List.length_nil, Nat.zero_add, hl2 (List.length (rowR ⟨t.path, false⟩ W) + 1)]
      · skip
        simp only [fa_cons, fa_nil, Mem.of_cons_at, Mem.of_nil_at, Mem.of_upds, Mem.of_putL, putLs, putL, List.cons_append, List.nil_append, List.append_nil, ↓reduceIte, eq_self, and_true, true_and, and_self, and_false, false_and, reduceCtorEq, Oid.sub.injEq, Nat.reduceEqDiff, Fct.av, AV.cells, hrs, hws, hwr, hos, hor, how, Oid.sub_not_under hs, Oid.sub_not_under hr, Oid.sub_not_under hw, Oid.sub_not_under ho, Oid.not_under_sub hs, Oid.not_under_sub hr, Oid.not_under_sub hw, Oid.not_under_sub ho, of_put_at, ints, List.map_append, List.map_cons, List.map_nil, show ¬ c + 1 + 1 + 1 = 0 by omega]
      · intro j hj hne
        obtain ⟨a1, a2, a3, a4, a5, a6⟩ := hN.ne j hj
        have a7 : ¬ j = .sub (c + 1 + 1) 3 x.p := fun e => a6 (c + 1 + 1) 3 (by omega) (e ▸ Oid.under_refl _)
        have a8 : ¬ j = .sub (c + 1 + 1 + 1) 9 x.p := fun e => a6 (c + 1 + 1 + 1) 9 (by omega) (e ▸ Oid.under_refl _)
        have a9 : ¬ j = ro := fun e => hne (e ▸ hro)
        simp only [fa_cons, fa_nil, Mem.of_cons_at, Mem.of_nil_at, Mem.of_upds, Mem.of_putL, putLs, putL, List.cons_append, List.nil_append, List.append_nil, ↓reduceIte, eq_self, and_true, true_and, and_self, and_false, false_and, reduceCtorEq, Oid.sub.injEq, Nat.reduceEqDiff, Fct.av, AV.cells, hrs, hws, hwr, hos, hor, how, Oid.sub_not_under hs, Oid.sub_not_under hr, Oid.sub_not_under hw, Oid.sub_not_under ho, Oid.not_under_sub hs, Oid.not_under_sub hr, Oid.not_under_sub hw, Oid.not_under_sub ho, of_put_at, a1, a2, a3, a4, a5, a7, a8, a9]
      · rw [foldl_drop _ _ hb', htt] at hwd1
        rw [hpl]; exact hwd1
  · (repeat (with_reducible (first | refine K_seq ?_ | refine K_next ?_ | refine K_skip ?_ | refine K_bend ?_ | refine K_block ?_ | refine K_exit ?_ | refine X_code ?_ | refine X_lend ?_ | refine X_here ?_ | refine X_on (by decide) ?_ | refine K_lendL ?_)))
    obtain rfl : i = z.writes.length := by omega
    rw [List.drop_length, List.foldl_nil] at hwd1
    subst hQ
    refine K_nil (done_normal _ _ rfl ⟨rfl, Rn, W, hpR, by rw [hwd1, ← hwd0]; rfl, ⟨_, hN⟩, hSN ▸ hS0, hBR1, hBW, rfl⟩ ?_)
    have hO : (takeF ⟨plR R, plR W0, O⟩ z k).o = O1 := by rw [hpO, hpR]; rfl
    rw [hO]
    refine (swap_of (sp := fun _ => True) (fun q hq => ?_) fun _ _ => .inr trivial).2
    refine rows_same hN (B := [(s, .cells [.map r, .map w, .map o]), (r, .map kF true (esA Fct.av (entV Rn) 0) (entV Rn).length), (w, .map kF true (esA Fct.av (entV W) 0) (entV W).length), (o, .map kH true (esA Hz.av (O1.map fun h => (h, .bool true)) 0) O1.length)]) ?_ ?_ q hq
    · simp only [fa_cons, fa_nil, Mem.of_cons_at, Mem.of_nil_at, Mem.of_upds, Mem.of_putL, putLs, putL, List.cons_append, List.nil_append, List.append_nil, ↓reduceIte, eq_self, and_true, true_and, and_self, and_false, false_and, reduceCtorEq, Oid.sub.injEq, Nat.reduceEqDiff, Fct.av, AV.cells, hrs, hws, hwr, hos, hor, how, Oid.sub_not_under hs, Oid.sub_not_under hr, Oid.sub_not_under hw, Oid.sub_not_under ho, Oid.not_under_sub hs, Oid.not_under_sub hr, Oid.not_under_sub hw, Oid.not_under_sub ho, of_put_at]
    · intro j hj
      obtain ⟨a1, a2, a3, a4, a5, a6⟩ := hN.ne j hj
      simp only [fa_cons, fa_nil, Mem.of_cons_at, Mem.of_nil_at, Mem.of_upds, Mem.of_putL, putLs, putL, List.cons_append, List.nil_append, List.append_nil, ↓reduceIte, eq_self, and_true, true_and, and_self, and_false, false_and, reduceCtorEq, Oid.sub.injEq, Nat.reduceEqDiff, Fct.av, AV.cells, hrs, hws, hwr, hos, hor, how, Oid.sub_not_under hs, Oid.sub_not_under hr, Oid.sub_not_under hw, Oid.sub_not_under ho, Oid.not_under_sub hs, Oid.not_under_sub hr, Oid.not_under_sub hw, Oid.not_under_sub ho, of_put_at, a1, a2, a3, a4, a5]
end Go.Proofs.Ytpdmiojenhodlaa
