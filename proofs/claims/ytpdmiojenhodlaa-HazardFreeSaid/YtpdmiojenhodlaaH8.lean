/- A part of the proof: contracts of functions of the program. -/
import Derived.Test.YtpdmiojenhodlaaH7
set_option linter.unusedVariables false
set_option linter.unusedSimpArgs false
namespace Go.Proofs.Ytpdmiojenhodlaa
open Go Go.Ab
set_option maxRecDepth 20000
set_option maxHeartbeats 4000000
def kF : List TyS := [.ss, .sb]
def kH : List TyS := [.ss, .sb, .si .i64, .si .i64, .sb]
theorem val_f (p : Str) (n : Bool) (z : AV) (L : List (Fct × AV)) (i : Nat) : valE (.agg [.str p, .bool n]) z (esA Fct.av L i) = getA ⟨p, n⟩ z L := valE_esA fct_enc ⟨p, n⟩ z L i
def ints (l : List Nat) : List AV := l.map fun (i : Nat) => AV.int .i64 (i : Int)
/-- A facet's row: nowhere while it is empty. -/
def rowV : Option Oid → List Nat → AV
  | none, _ => .nilSl
  | some i, xs => .sl i 1 xs.length
def rowM : Option Oid → List Nat → List (Oid × AObj)
  | none, _ => []
  | some i, xs => [(i, .arr 1 (ints xs))]
theorem rowV_none (l : List Nat) : rowV none l = .nilSl := rfl
theorem rowV_some (i : Oid) (l : List Nat) : rowV (some i) l = .sl i 1 l.length := rfl
theorem rowM_none (l : List Nat) : rowM none l = [] := rfl
theorem rowM_some (i : Oid) (l : List Nat) : rowM (some i) l = [(i, .arr 1 (ints l))] := rfl
attribute [go_sem] rowV_none rowV_some rowM_none rowM_some List.append_nil List.cons_append List.nil_append
theorem ints_len (l : List Nat) : (ints l).length = l.length := List.length_map _
theorem ints_at {l : List Nat} {i : Nat} (h : i < l.length) (d : AV) : (ints l).getD i d = .int .i64 (l.getD i default : Nat) := getD_map_in (fun (i : Nat) => AV.int .i64 (i : Int)) h d
theorem has_O (O : List Hz) (h : Hz) : hasA (O.map fun h => (h, AV.bool true)) h = decide (h ∈ O) := by
  rw [Bool.eq_iff_iff]
  simp only [hasA, List.any_map, List.any_eq_true, Function.comp_apply, decide_eq_true_eq, exists_eq_right']
theorem put_O (h : Hz) : ∀ O : List Hz, putA h (.bool true) (O.map fun h => (h, AV.bool true)) = (outAdd O h).map fun h => (h, .bool true)
  | [] => rfl
  | q :: O => by
    have ih := put_O h O
    simp only [List.map_cons, putA, outAdd, List.mem_cons] at ih ⊢
    by_cases hq : h = q
    · simp [hq]
    · rw [if_neg hq, ih]
      by_cases hm : h ∈ O
      · simp [hm]
      · simp [hm, hq]
theorem set_h (p : Str) (n : Bool) (i k : Nat) (l : Bool) (O : List Hz) : setE (.agg [.str p, .bool n, .int .i64 i, .int .i64 k, .bool l]) (.bool true) O.length (esA Hz.av (O.map fun h => (h, .bool true)) 0) = esA Hz.av ((outAdd O ⟨p, n, i, k, l⟩).map fun h => (h, .bool true)) 0 := by
  rw [← put_O]; exact setE_esA hz_enc ⟨p, n, i, k, l⟩ _ _ _ _ (by simp)
theorem len_h (p : Str) (n : Bool) (i k : Nat) (l : Bool) (O : List Hz) : (if hasE (.agg [.str p, .bool n, .int .i64 i, .int .i64 k, .bool l]) (esA Hz.av (O.map fun h => (h, .bool true)) 0) = true then O.length else O.length + 1) = (outAdd O ⟨p, n, i, k, l⟩).length := by
  rw [show hasE (.agg [.str p, .bool n, .int .i64 i, .int .i64 k, .bool l]) (esA Hz.av (O.map fun h => (h, AV.bool true)) 0) = decide ((⟨p, n, i, k, l⟩ : Hz) ∈ O) from (hasE_esA hz_enc ⟨p, n, i, k, l⟩ _ _).trans (has_O _ _)]
  unfold outAdd
  by_cases hm : (⟨p, n, i, k, l⟩ : Hz) ∈ O
  · simp [hm]
  · simp [hm]
theorem T_via {P : Program} {x : Ctx} {n : Nat} {a : Code} {s : AS} {Q : AX → AS → Prop} (R : AS → Prop) (h1 : ∀ s', R s' → T P x n a s' Q) (h2 : (∀ s', R s' → T P x n a s' Q) → T P x n a s Q) : T P x n a s Q := h2 h1
def noteL (xs ys : List Nat) (f : Fct) (k : Nat) (O : List Hz) : List Hz :=
  ys.foldl (fun O i => outAdd O ⟨f.path, false, i, k, false⟩) (xs.foldl (fun O i => outAdd O ⟨f.path, f.names, i, k, true⟩) O)
theorem row_names {ro : Option Oid} {xs : List Nat} {q : Oid × AObj} (h : q ∈ rowM ro xs) : ro = some q.1 ∧ q.2 = .arr 1 (ints xs) := by
  cases ro with
  | none => cases h
  | some i => simp only [rowM, List.mem_singleton] at h; subst h; exact ⟨rfl, rfl⟩
theorem note_ok (s r w o : Oid) (ro wo : Option Oid) (f : Fct) (k : Nat) (Rv Wv : List (Fct × AV)) (O : List Hz) (xs ys : List Nat) (p : Oid)
    (hR : getA f .nilSl Rv = rowV ro xs) (hW : getA f .nilSl Wv = rowV wo ys) (hxs : ro = none → xs = []) (hys : wo = none → ys = []) (hlx : xs.length < 4611686018427387904) (hly : ys.length < 4611686018427387904)
    (hrs : ¬ r = s) (hws : ¬ w = s) (hwr : ¬ w = r) (hos : ¬ o = s) (hor : ¬ o = r) (how : ¬ o = w) (hs : ¬ Oid.under p s) (hr : ¬ Oid.under p r) (hw : ¬ Oid.under p w) (ho : ¬ Oid.under p o)
    (hro : ∀ i, ro = some i → ¬ i = s ∧ ¬ i = r ∧ ¬ i = w ∧ ¬ i = o ∧ ¬ Oid.under p i) (hwo : ∀ i, wo = some i → ¬ i = s ∧ ¬ i = r ∧ ¬ i = w ∧ ¬ i = o ∧ ¬ some i = ro ∧ ¬ Oid.under p i) :
    CallOK Try.prog 22 [.ptr s 0, f.av, .int .i64 k] (Oid.under p) ⟨[(s, .cells [.map r, .map w, .map o]), (r, .map kF true (esA Fct.av Rv 0) Rv.length), (w, .map kF true (esA Fct.av Wv 0) Wv.length), (o, .map kH true (esA Hz.av (O.map fun h => (h, .bool true)) 0) O.length)] ++ rowM ro xs ++ rowM wo ys, .tuple [], [(o, some (.map kH true (esA Hz.av ((noteL xs ys f k O).map fun h => (h, .bool true)) 0) (noteL xs ys f k O).length))]⟩ := by
  refine fnOK (n := 54) (rs := []) Try.func22 rfl rfl (by decide) rfl rfl rfl ?_; rintro x rfl hrd hng
  (repeat (with_reducible (first | refine K_seq ?_ | refine K_next ?_ | refine K_skip ?_ | refine K_bend ?_ | refine K_block ?_ | refine K_exit ?_ | refine X_code ?_ | refine X_lend ?_ | refine X_here ?_ | refine X_on (by decide) ?_ | refine K_lendL ?_)))
  refine K_cut [0, 2, 4] (fun s' => s' = ⟨[(0, .ptr s 0), (2, .int .i64 k), (4, .ptr (.sub 0 0 x.p) 0)], Mem.of ([(s, .cells [.map r, .map w, .map o]), (r, .map kF true (esA Fct.av Rv 0) Rv.length), (w, .map kF true (esA Fct.av Wv 0) Wv.length), (o, .map kH true (esA Hz.av (O.map fun h => (h, .bool true)) 0) O.length), (.sub 0 0 x.p, .cells f.av.cells)] ++ rowM ro xs ++ rowM wo ys), 1, []⟩) ?_ ?_
  · have hwo' := fun i h => (hwo i h).2.2.2.2.2
    rcases ro with _ | ro <;> rcases wo with _ | wo
    · refine K_ev nmd [] hng (by kernel_rfl) fun hf C S K hC1 hC hS hK => ?_; simp (disch := first | omega | assumption) only [go_sem, ↓reduceIte, Nat.reduceEqDiff, Nat.reduceAdd, Nat.reduceMul, Nat.reduceLT, Nat.reduceLeDiff, reduceCtorEq, Nat.reduceBEq, Int.reduceToNat, Int.reduceNeg]
      refine hK ?_; clear hK hS hC hC1 K S C hf
      exact K_cutM _ (mem_end (by simp only [fa_cons, fa_nil, Mem.of_cons_at, Mem.of_nil_at, Mem.of_upds, Mem.of_putL, putLs, putL, List.cons_append, List.nil_append, List.append_nil, ↓reduceIte, eq_self, and_true, true_and, and_self, and_false, false_and, reduceCtorEq, Oid.sub.injEq, Nat.reduceEqDiff, Fct.av, AV.cells, hrs, hws, hwr, hos, hor, how, rowM_none, rowM_some, Oid.sub_not_under hs, Oid.sub_not_under hr, Oid.sub_not_under hw, Oid.sub_not_under ho, Oid.not_under_sub hs, Oid.not_under_sub hr, Oid.not_under_sub hw, Oid.not_under_sub ho])) rfl
    · obtain ⟨h1, h2, h3, h4, h5, h6⟩ := hwo _ rfl
      refine K_ev nmd [] hng (by kernel_rfl) fun hf C S K hC1 hC hS hK => ?_; simp (disch := first | omega | assumption) only [go_sem, ↓reduceIte, Nat.reduceEqDiff, Nat.reduceAdd, Nat.reduceMul, Nat.reduceLT, Nat.reduceLeDiff, reduceCtorEq, Nat.reduceBEq, Int.reduceToNat, Int.reduceNeg]
      refine hK ?_; clear hK hS hC hC1 K S C hf
      exact K_cutM _ (mem_end (by simp only [fa_cons, fa_nil, Mem.of_cons_at, Mem.of_nil_at, Mem.of_upds, Mem.of_putL, putLs, putL, List.cons_append, List.nil_append, List.append_nil, ↓reduceIte, eq_self, and_true, true_and, and_self, and_false, false_and, reduceCtorEq, Oid.sub.injEq, Nat.reduceEqDiff, Fct.av, AV.cells, hrs, hws, hwr, hos, hor, how, rowM_none, rowM_some, Oid.sub_not_under hs, Oid.sub_not_under hr, Oid.sub_not_under hw, Oid.sub_not_under ho, Oid.not_under_sub hs, Oid.not_under_sub hr, Oid.not_under_sub hw, Oid.not_under_sub ho, h1, h2, h3, h4, Oid.sub_not_under h6])) rfl
    · obtain ⟨k1, k2, k3, k4, k5⟩ := hro _ rfl
      refine K_ev nmd [] hng (by kernel_rfl) fun hf C S K hC1 hC hS hK => ?_; simp (disch := first | omega | assumption) only [go_sem, ↓reduceIte, Nat.reduceEqDiff, Nat.reduceAdd, Nat.reduceMul, Nat.reduceLT, Nat.reduceLeDiff, reduceCtorEq, Nat.reduceBEq, Int.reduceToNat, Int.reduceNeg]
      refine hK ?_; clear hK hS hC hC1 K S C hf
      exact K_cutM _ (mem_end (by simp only [fa_cons, fa_nil, Mem.of_cons_at, Mem.of_nil_at, Mem.of_upds, Mem.of_putL, putLs, putL, List.cons_append, List.nil_append, List.append_nil, ↓reduceIte, eq_self, and_true, true_and, and_self, and_false, false_and, reduceCtorEq, Oid.sub.injEq, Nat.reduceEqDiff, Fct.av, AV.cells, hrs, hws, hwr, hos, hor, how, rowM_none, rowM_some, Oid.sub_not_under hs, Oid.sub_not_under hr, Oid.sub_not_under hw, Oid.sub_not_under ho, Oid.not_under_sub hs, Oid.not_under_sub hr, Oid.not_under_sub hw, Oid.not_under_sub ho, k1, k2, k3, k4, Oid.sub_not_under k5])) rfl
    · obtain ⟨h1, h2, h3, h4, h5, h6⟩ := hwo _ rfl
      obtain ⟨k1, k2, k3, k4, k5⟩ := hro _ rfl
      have h5' : ¬ wo = ro := fun e => h5 (congrArg some e)
      refine K_ev nmd [] hng (by kernel_rfl) fun hf C S K hC1 hC hS hK => ?_; simp (disch := first | omega | assumption) only [go_sem, ↓reduceIte, Nat.reduceEqDiff, Nat.reduceAdd, Nat.reduceMul, Nat.reduceLT, Nat.reduceLeDiff, reduceCtorEq, Nat.reduceBEq, Int.reduceToNat, Int.reduceNeg]
      refine hK ?_; clear hK hS hC hC1 K S C hf
      exact K_cutM _ (mem_end (by simp only [fa_cons, fa_nil, Mem.of_cons_at, Mem.of_nil_at, Mem.of_upds, Mem.of_putL, putLs, putL, List.cons_append, List.nil_append, List.append_nil, ↓reduceIte, eq_self, and_true, true_and, and_self, and_false, false_and, reduceCtorEq, Oid.sub.injEq, Nat.reduceEqDiff, Fct.av, AV.cells, hrs, hws, hwr, hos, hor, how, rowM_none, rowM_some, Oid.sub_not_under hs, Oid.sub_not_under hr, Oid.sub_not_under hw, Oid.sub_not_under ho, Oid.not_under_sub hs, Oid.not_under_sub hr, Oid.not_under_sub hw, Oid.not_under_sub ho, h1, h2, h3, h4, h5', k1, k2, k3, k4, Oid.sub_not_under h6, Oid.sub_not_under k5])) rfl
  rintro s' rfl
  (repeat (with_reducible (first | refine K_seq ?_ | refine K_next ?_ | refine K_skip ?_ | refine K_bend ?_ | refine K_block ?_ | refine K_exit ?_ | refine X_code ?_ | refine X_lend ?_ | refine X_here ?_ | refine X_on (by decide) ?_ | refine K_lendL ?_)))
  refine K_cut [0, 2, 4, 15, 16, 17] (fun s' => ∃ (c : Nat), s' = ⟨[(0, .ptr s 0), (2, .int .i64 k), (4, .ptr (.sub 0 0 x.p) 0), (15, rowV ro xs), (16, .int .i64 xs.length), (17, .int .i64 0)], Mem.of ([(s, .cells [.map r, .map w, .map o]), (r, .map kF true (esA Fct.av Rv 0) Rv.length), (w, .map kF true (esA Fct.av Wv 0) Wv.length), (o, .map kH true (esA Hz.av (O.map fun h => (h, .bool true)) 0) O.length), (.sub 0 0 x.p, .cells f.av.cells)] ++ rowM ro xs ++ rowM wo ys), c, []⟩ ∧ 0 < c) ?_ ?_
  · rcases ro with _ | ro
    · obtain rfl := hxs rfl
      refine K_evd nmd [] [] mixed hng (by kernel_rfl) [0, 2, 4, 15, 16, 17] fun hf C S K hC hS hK => ?_; simp (disch := first | omega | assumption) only [go_sem, ↓reduceIte, Nat.reduceEqDiff, Nat.reduceAdd, Nat.reduceMul, Nat.reduceLT, Nat.reduceLeDiff, reduceCtorEq, Nat.reduceBEq, Int.reduceToNat, Int.reduceNeg, val_f, kF, hrs, hws, hwr, hR]
      (first | refine hK (dynN_quiet rfl) ?_ | refine hK (by simp (disch := first | omega | assumption) only [go_sem, ↓reduceIte, Nat.reduceEqDiff, Nat.reduceAdd, Nat.reduceMul, Nat.reduceLT, Nat.reduceLeDiff, reduceCtorEq, Nat.reduceBEq, Int.reduceToNat, Int.reduceNeg, List.reverse_cons, List.reverse_nil, ne_eq, not_false_eq_true, implies_true]) ?_); clear hK hS hC K S C hf
      exact K_cutN ⟨_, rfl, by omega⟩
    · refine K_evd nmd [] [] mixed hng (by kernel_rfl) [0, 2, 4, 15, 16, 17] fun hf C S K hC hS hK => ?_; simp (disch := first | omega | assumption) only [go_sem, ↓reduceIte, Nat.reduceEqDiff, Nat.reduceAdd, Nat.reduceMul, Nat.reduceLT, Nat.reduceLeDiff, reduceCtorEq, Nat.reduceBEq, Int.reduceToNat, Int.reduceNeg, val_f, kF, hrs, hws, hwr, hR]
      (first | refine hK (dynN_quiet rfl) ?_ | refine hK (by simp (disch := first | omega | assumption) only [go_sem, ↓reduceIte, Nat.reduceEqDiff, Nat.reduceAdd, Nat.reduceMul, Nat.reduceLT, Nat.reduceLeDiff, reduceCtorEq, Nat.reduceBEq, Int.reduceToNat, Int.reduceNeg, List.reverse_cons, List.reverse_nil, ne_eq, not_false_eq_true, implies_true]) ?_); clear hK hS hC K S C hf
      exact K_cutN ⟨_, rfl, by omega⟩
  rintro s' ⟨c, rfl, hc⟩
  refine T_via (fun s' => ∃ (id : Oid) (c : Nat), s' = ⟨[(0, .ptr s 0), (2, .int .i64 k), (4, .ptr (.sub 0 0 x.p) 0), (15, .sl id 1 xs.length), (16, .int .i64 xs.length), (17, .int .i64 0)], Mem.of ([(s, .cells [.map r, .map w, .map o]), (r, .map kF true (esA Fct.av Rv 0) Rv.length), (w, .map kF true (esA Fct.av Wv 0) Wv.length), (o, .map kH true (esA Hz.av (O.map fun h => (h, .bool true)) 0) O.length), (.sub 0 0 x.p, .cells f.av.cells), (id, .arr 1 (ints xs))] ++ rowM wo ys), c, []⟩ ∧ 0 < c ∧ (ro = some id ∨ ro = none ∧ ∃ d, id = .sub d 0 x.p ∧ 0 < d ∧ d < c)) ?_ ?_
  rotate_left
  · intro key
    rcases ro with _ | ro
    · obtain rfl := hxs rfl
      have hc0 : ¬ c = 0 := by omega
      refine K_void 15 1 rfl (K_keep [0, 2, 4, 15, 16, 17] ?_)
      simp (disch := first | omega | assumption) only [go_sem, ↓reduceIte, Nat.reduceEqDiff, Nat.reduceAdd, Nat.reduceMul, Nat.reduceLT, Nat.reduceLeDiff, reduceCtorEq, Nat.reduceBEq, Int.reduceToNat, Int.reduceNeg]
      refine K_drop (Mem.of ([(s, .cells [.map r, .map w, .map o]), (r, .map kF true (esA Fct.av Rv 0) Rv.length), (w, .map kF true (esA Fct.av Wv 0) Wv.length), (o, .map kH true (esA Hz.av (O.map fun h => (h, .bool true)) 0) O.length), (.sub 0 0 x.p, .cells f.av.cells), (.sub c 0 x.p, .arr 1 (ints []))] ++ rowM wo ys)) (mem_end ?_) (key _ ⟨.sub c 0 x.p, c + 1, rfl, Nat.succ_pos _, .inr ⟨rfl, c, rfl, hc, Nat.lt_succ_self _⟩⟩)
      rcases wo with _ | wo
      · simp only [fa_cons, fa_nil, Mem.of_cons_at, Mem.of_nil_at, Mem.of_upds, Mem.of_putL, putLs, putL, List.cons_append, List.nil_append, List.append_nil, ↓reduceIte, eq_self, and_true, true_and, and_self, and_false, false_and, reduceCtorEq, Oid.sub.injEq, Nat.reduceEqDiff, Fct.av, AV.cells, hrs, hws, hwr, hos, hor, how, rowM_none, rowM_some, Oid.sub_not_under hs, Oid.sub_not_under hr, Oid.sub_not_under hw, Oid.sub_not_under ho, Oid.not_under_sub hs, Oid.not_under_sub hr, Oid.not_under_sub hw, Oid.not_under_sub ho, hc0]; trivial
      · obtain ⟨h1, h2, h3, h4, h5, h6⟩ := hwo _ rfl
        simp only [fa_cons, fa_nil, Mem.of_cons_at, Mem.of_nil_at, Mem.of_upds, Mem.of_putL, putLs, putL, List.cons_append, List.nil_append, List.append_nil, ↓reduceIte, eq_self, and_true, true_and, and_self, and_false, false_and, reduceCtorEq, Oid.sub.injEq, Nat.reduceEqDiff, Fct.av, AV.cells, hrs, hws, hwr, hos, hor, how, rowM_none, rowM_some, Oid.sub_not_under hs, Oid.sub_not_under hr, Oid.sub_not_under hw, Oid.sub_not_under ho, Oid.not_under_sub hs, Oid.not_under_sub hr, Oid.not_under_sub hw, Oid.not_under_sub ho, hc0, h1, h2, h3, h4, Oid.sub_not_under h6, Oid.not_under_sub h6]; trivial
    · refine K_drop (Mem.of ([(s, .cells [.map r, .map w, .map o]), (r, .map kF true (esA Fct.av Rv 0) Rv.length), (w, .map kF true (esA Fct.av Wv 0) Wv.length), (o, .map kH true (esA Hz.av (O.map fun h => (h, .bool true)) 0) O.length), (.sub 0 0 x.p, .cells f.av.cells), (ro, .arr 1 (ints xs))] ++ rowM wo ys)) (fun i o h => h) (key _ ⟨ro, c, rfl, hc, .inl rfl⟩)
  rintro s' ⟨id, c, rfl, hc, hid⟩
  have hidn : ¬ id = s ∧ ¬ id = r ∧ ¬ id = w ∧ ¬ id = o ∧ ¬ id = .sub 0 0 x.p := by
    rcases hid with rfl | ⟨rfl, d, rfl, hd, hdc⟩
    · obtain ⟨k1, k2, k3, k4, k5⟩ := hro _ rfl
      exact ⟨k1, k2, k3, k4, fun e => k5 (e ▸ Oid.under_sub (Oid.under_refl _))⟩
    · refine ⟨fun e => hs (e ▸ Oid.under_sub (Oid.under_refl _)), fun e => hr (e ▸ Oid.under_sub (Oid.under_refl _)), fun e => hw (e ▸ Oid.under_sub (Oid.under_refl _)), fun e => ho (e ▸ Oid.under_sub (Oid.under_refl _)), fun e => ?_⟩
      simp at e; omega
  obtain ⟨g1, g2, g3, g4, g5⟩ := hidn
  generalize ho1 : xs.foldl (fun O j => outAdd O ⟨f.path, f.names, j, k, true⟩) O = O1
  refine K_cut [0, 2, 4] (fun s' => ∃ (c' : Nat), s' = ⟨[(0, .ptr s 0), (2, .int .i64 k), (4, .ptr (.sub 0 0 x.p) 0)], Mem.of ([(s, .cells [.map r, .map w, .map o]), (r, .map kF true (esA Fct.av Rv 0) Rv.length), (w, .map kF true (esA Fct.av Wv 0) Wv.length), (o, .map kH true (esA Hz.av (O1.map fun h => (h, .bool true)) 0) O1.length), (.sub 0 0 x.p, .cells f.av.cells), (id, .arr 1 (ints xs))] ++ rowM wo ys), c', []⟩ ∧ c ≤ c') ?_ ?_
  · (repeat (with_reducible (first | refine K_seq ?_ | refine K_next ?_ | refine K_skip ?_ | refine K_bend ?_ | refine K_block ?_ | refine K_exit ?_ | refine X_code ?_ | refine X_lend ?_ | refine X_here ?_ | refine X_on (by decide) ?_ | refine K_lendL ?_)))
    refine K_loop [0, 2, 4, 15, 16, 17] (fun q s' => ∃ (i c' : Nat) (O : List Hz), s' = ⟨[(0, .ptr s 0), (2, .int .i64 k), (4, .ptr (.sub 0 0 x.p) 0), (15, .sl id 1 xs.length), (16, .int .i64 xs.length), (17, .int .i64 i)], Mem.of ([(s, .cells [.map r, .map w, .map o]), (r, .map kF true (esA Fct.av Rv 0) Rv.length), (w, .map kF true (esA Fct.av Wv 0) Wv.length), (o, .map kH true (esA Hz.av (O.map fun h => (h, .bool true)) 0) O.length), (.sub 0 0 x.p, .cells f.av.cells), (id, .arr 1 (ints xs))] ++ rowM wo ys), c', []⟩ ∧ c ≤ c' ∧ q = xs.length - i ∧ i ≤ xs.length ∧ (xs.drop i).foldl (fun O j => outAdd O ⟨f.path, f.names, j, k, true⟩) O = O1) _ ⟨0, _, O, rfl, Nat.le_refl _, rfl, Nat.zero_le _, ho1⟩ ?_
    rintro q s' ⟨i, c', O', rfl, hc', rfl, hi, hno⟩
    have hc0 : 0 < c' := Nat.lt_of_lt_of_le hc hc'
    (repeat (first | (with_reducible (first | refine K_seq ?_ | refine K_next ?_ | refine K_skip ?_ | refine K_bend ?_ | refine K_block ?_ | refine K_exit ?_ | refine X_code ?_ | refine X_lend ?_ | refine X_here ?_ | refine X_on (by decide) ?_ | refine K_lendL ?_)) | (refine K_ifT rfl rfl ?_) | (refine K_ifF rfl rfl ?_) | (refine K_ev nmd [] hng (by kernel_rfl) fun hf C S K hC1 hC hS hK => ?_; simp (disch := first | omega | assumption) only [go_sem, ↓reduceIte, Nat.reduceEqDiff, Nat.reduceAdd, Nat.reduceMul, Nat.reduceLT, Nat.reduceLeDiff, reduceCtorEq, Nat.reduceBEq, Int.reduceToNat, Int.reduceNeg]; refine hK ?_; clear hK hS hC hC1 K S C hf)))
    refine K_ifd rfl rfl (fun hb => ?_) (fun hb => ?_)
    · (repeat (first | (with_reducible (first | refine K_seq ?_ | refine K_next ?_ | refine K_skip ?_ | refine K_bend ?_ | refine K_exit ?_ | refine X_code ?_ | refine X_lend ?_ | refine X_here ?_ | refine X_on (by decide) ?_ | refine K_lendL ?_)) | (refine K_ifT rfl rfl ?_) | (refine K_ifF rfl rfl ?_) | (refine K_ev nmd [] hng (by kernel_rfl) fun hf C S K hC1 hC hS hK => ?_; simp (disch := first | omega | assumption) only [go_sem, ↓reduceIte, Nat.reduceEqDiff, Nat.reduceAdd, Nat.reduceMul, Nat.reduceLT, Nat.reduceLeDiff, reduceCtorEq, Nat.reduceBEq, Int.reduceToNat, Int.reduceNeg]; refine hK ?_; clear hK hS hC hC1 K S C hf))); refine K_block ?_
      (repeat (first | (with_reducible (first | refine K_seq ?_ | refine K_next ?_ | refine K_skip ?_ | refine K_bend ?_ | refine K_exit ?_ | refine X_code ?_ | refine X_lend ?_ | refine X_here ?_ | refine X_on (by decide) ?_ | refine K_lendL ?_)) | (refine K_ifT rfl rfl ?_) | (refine K_ifF rfl rfl ?_) | (refine K_ev nmd [] hng (by kernel_rfl) fun hf C S K hC1 hC hS hK => ?_; simp (disch := first | omega | assumption) only [go_sem, ↓reduceIte, Nat.reduceEqDiff, Nat.reduceAdd, Nat.reduceMul, Nat.reduceLT, Nat.reduceLeDiff, reduceCtorEq, Nat.reduceBEq, Int.reduceToNat, Int.reduceNeg]; refine hK ?_; clear hK hS hC hC1 K S C hf)))
      have hb' : i < xs.length := by omega
      have hxi := ints_at hb' .undef
      generalize hxj : xs.getD i default = j at hxi
      refine K_ev nmd [] hng (by kernel_rfl) fun hf C S K hC1 hC hS hK => ?_; simp (disch := first | omega | assumption) only [go_sem, ↓reduceIte, Nat.reduceEqDiff, Nat.reduceAdd, Nat.reduceMul, Nat.reduceLT, Nat.reduceLeDiff, reduceCtorEq, Nat.reduceBEq, Int.reduceToNat, Int.reduceNeg, g1, g2, g3, g4, g5, ints_len, hb', hxi]
      refine hK ?_; clear hK hS hC hC1 K S C hf
      (repeat (first | (with_reducible (first | refine K_seq ?_ | refine K_next ?_ | refine K_skip ?_ | refine K_bend ?_ | refine K_exit ?_ | refine X_code ?_ | refine X_lend ?_ | refine X_here ?_ | refine X_on (by decide) ?_ | refine K_lendL ?_)) | (refine K_ifT rfl rfl ?_) | (refine K_ifF rfl rfl ?_) | (refine K_ev nmd [] hng (by kernel_rfl) fun hf C S K hC1 hC hS hK => ?_; simp (disch := first | omega | assumption) only [go_sem, ↓reduceIte, Nat.reduceEqDiff, Nat.reduceAdd, Nat.reduceMul, Nat.reduceLT, Nat.reduceLeDiff, reduceCtorEq, Nat.reduceBEq, Int.reduceToNat, Int.reduceNeg]; refine hK ?_; clear hK hS hC hC1 K S C hf)))
      refine K_evd nmd [] [] mixed hng (by kernel_rfl) [0, 2, 4, 15, 16, 17] fun hf C S K hC hS hK => ?_; simp (disch := first | omega | assumption) only [go_sem, ↓reduceIte, Nat.reduceEqDiff, Nat.reduceAdd, Nat.reduceMul, Nat.reduceLT, Nat.reduceLeDiff, reduceCtorEq, Nat.reduceBEq, Int.reduceToNat, Int.reduceNeg, hos, hor, how, kH, set_h, len_h]
      (first | refine hK (dynN_quiet rfl) ?_ | refine hK (by simp (disch := first | omega | assumption) only [go_sem, ↓reduceIte, Nat.reduceEqDiff, Nat.reduceAdd, Nat.reduceMul, Nat.reduceLT, Nat.reduceLeDiff, reduceCtorEq, Nat.reduceBEq, Int.reduceToNat, Int.reduceNeg, List.reverse_cons, List.reverse_nil, ne_eq, not_false_eq_true, implies_true]) ?_); clear hK hS hC K S C hf
      (repeat (with_reducible (first | refine K_seq ?_ | refine K_next ?_ | refine K_skip ?_ | refine K_bend ?_ | refine K_block ?_ | refine K_exit ?_ | refine X_code ?_ | refine X_lend ?_ | refine X_here ?_ | refine X_on (by decide) ?_ | refine K_lendL ?_)))
      (repeat (first | (with_reducible (first | refine K_seq ?_ | refine K_next ?_ | refine K_skip ?_ | refine K_bend ?_ | refine K_block ?_ | refine K_exit ?_ | refine X_code ?_ | refine X_lend ?_ | refine X_here ?_ | refine X_on (by decide) ?_ | refine K_lendL ?_)) | (refine K_ifT rfl rfl ?_) | (refine K_ifF rfl rfl ?_) | (refine K_ev nmd [] hng (by kernel_rfl) fun hf C S K hC1 hC hS hK => ?_; simp (disch := first | omega | assumption) only [go_sem, ↓reduceIte, Nat.reduceEqDiff, Nat.reduceAdd, Nat.reduceMul, Nat.reduceLT, Nat.reduceLeDiff, reduceCtorEq, Nat.reduceBEq, Int.reduceToNat, Int.reduceNeg]; refine hK ?_; clear hK hS hC hC1 K S C hf)))
      refine ⟨_, _, ?_, fun _ _ h => h, i + 1, _, _, rfl, by omega, rfl, by omega, ?_⟩
      · omega
      · rw [foldl_drop _ _ hb', hxj] at hno; exact hno
    · (repeat (with_reducible (first | refine K_seq ?_ | refine K_next ?_ | refine K_skip ?_ | refine K_bend ?_ | refine K_block ?_ | refine K_exit ?_ | refine X_code ?_ | refine X_lend ?_ | refine X_here ?_ | refine X_on (by decide) ?_ | refine K_lendL ?_)))
      obtain rfl : i = xs.length := by omega
      simp only [List.drop_length, List.foldl_nil] at hno
      subst hno
      exact K_cutN ⟨_, rfl, by omega⟩
  rintro s' ⟨c1, rfl, hc1⟩
  generalize ho2 : ys.foldl (fun O j => outAdd O ⟨f.path, false, j, k, false⟩) O1 = O2
  (repeat (with_reducible (first | refine K_seq ?_ | refine K_next ?_ | refine K_skip ?_ | refine K_bend ?_ | refine K_block ?_ | refine K_exit ?_ | refine X_code ?_ | refine X_lend ?_ | refine X_here ?_ | refine X_on (by decide) ?_ | refine K_lendL ?_)))
  refine K_cut [0, 2, 4, 38, 39, 40] (fun s' => ∃ (c : Nat), s' = ⟨[(0, .ptr s 0), (2, .int .i64 k), (4, .ptr (.sub 0 0 x.p) 0), (38, rowV wo ys), (39, .int .i64 ys.length), (40, .int .i64 0)], Mem.of ([(s, .cells [.map r, .map w, .map o]), (r, .map kF true (esA Fct.av Rv 0) Rv.length), (w, .map kF true (esA Fct.av Wv 0) Wv.length), (o, .map kH true (esA Hz.av (O1.map fun h => (h, .bool true)) 0) O1.length), (.sub 0 0 x.p, .cells f.av.cells), (id, .arr 1 (ints xs))] ++ rowM wo ys), c, []⟩ ∧ c1 ≤ c) ?_ ?_
  · rcases wo with _ | wo
    · obtain rfl := hys rfl
      refine K_evd nmd [] [] mixed hng (by kernel_rfl) [0, 2, 4, 38, 39, 40] fun hf C S K hC hS hK => ?_; simp (disch := first | omega | assumption) only [go_sem, ↓reduceIte, Nat.reduceEqDiff, Nat.reduceAdd, Nat.reduceMul, Nat.reduceLT, Nat.reduceLeDiff, reduceCtorEq, Nat.reduceBEq, Int.reduceToNat, Int.reduceNeg, val_f, kF, hrs, hws, hwr, hW]
      (first | refine hK (dynN_quiet rfl) ?_ | refine hK (by simp (disch := first | omega | assumption) only [go_sem, ↓reduceIte, Nat.reduceEqDiff, Nat.reduceAdd, Nat.reduceMul, Nat.reduceLT, Nat.reduceLeDiff, reduceCtorEq, Nat.reduceBEq, Int.reduceToNat, Int.reduceNeg, List.reverse_cons, List.reverse_nil, ne_eq, not_false_eq_true, implies_true]) ?_); clear hK hS hC K S C hf
      exact K_cutN ⟨_, rfl, by omega⟩
    · refine K_evd nmd [] [] mixed hng (by kernel_rfl) [0, 2, 4, 38, 39, 40] fun hf C S K hC hS hK => ?_; simp (disch := first | omega | assumption) only [go_sem, ↓reduceIte, Nat.reduceEqDiff, Nat.reduceAdd, Nat.reduceMul, Nat.reduceLT, Nat.reduceLeDiff, reduceCtorEq, Nat.reduceBEq, Int.reduceToNat, Int.reduceNeg, val_f, kF, hrs, hws, hwr, hW]
      (first | refine hK (dynN_quiet rfl) ?_ | refine hK (by simp (disch := first | omega | assumption) only [go_sem, ↓reduceIte, Nat.reduceEqDiff, Nat.reduceAdd, Nat.reduceMul, Nat.reduceLT, Nat.reduceLeDiff, reduceCtorEq, Nat.reduceBEq, Int.reduceToNat, Int.reduceNeg, List.reverse_cons, List.reverse_nil, ne_eq, not_false_eq_true, implies_true]) ?_); clear hK hS hC K S C hf
      exact K_cutN ⟨_, rfl, by omega⟩
  rintro s' ⟨c2, rfl, hc2⟩
  refine T_via (fun s' => ∃ (iw : Oid) (c : Nat), s' = ⟨[(0, .ptr s 0), (2, .int .i64 k), (4, .ptr (.sub 0 0 x.p) 0), (38, .sl iw 1 ys.length), (39, .int .i64 ys.length), (40, .int .i64 0)], Mem.of [(s, .cells [.map r, .map w, .map o]), (r, .map kF true (esA Fct.av Rv 0) Rv.length), (w, .map kF true (esA Fct.av Wv 0) Wv.length), (o, .map kH true (esA Hz.av (O1.map fun h => (h, .bool true)) 0) O1.length), (.sub 0 0 x.p, .cells f.av.cells), (id, .arr 1 (ints xs)), (iw, .arr 1 (ints ys))], c, []⟩ ∧ c2 ≤ c ∧ (wo = some iw ∨ wo = none ∧ ¬ iw = id ∧ ∃ d, iw = .sub d 0 x.p ∧ 0 < d)) ?_ ?_
  rotate_left
  · intro key
    rcases wo with _ | wo
    · obtain rfl := hys rfl
      have hc0 : ¬ c2 = 0 := by omega
      have hne : ¬ Oid.sub c2 0 x.p = id := by
        rintro rfl
        rcases hid with h | ⟨_, d, h, hd, hdc⟩
        · exact (hro _ h).2.2.2.2 (Oid.under_sub (Oid.under_refl _))
        · simp at h; omega
      refine K_void 38 1 rfl (K_keep [0, 2, 4, 38, 39, 40] ?_)
      refine K_drop (Mem.of [(s, .cells [.map r, .map w, .map o]), (r, .map kF true (esA Fct.av Rv 0) Rv.length), (w, .map kF true (esA Fct.av Wv 0) Wv.length), (o, .map kH true (esA Hz.av (O1.map fun h => (h, .bool true)) 0) O1.length), (.sub 0 0 x.p, .cells f.av.cells), (id, .arr 1 (ints xs)), (.sub c2 0 x.p, .arr 1 (ints []))]) (by rw [Mem.of_putL]; exact mem_end (by simp only [fa_cons, fa_nil, Mem.of_cons_at, Mem.of_nil_at, Mem.of_upds, Mem.of_putL, putLs, putL, List.cons_append, List.nil_append, List.append_nil, ↓reduceIte, eq_self, and_true, true_and, and_self, and_false, false_and, reduceCtorEq, Oid.sub.injEq, Nat.reduceEqDiff, Fct.av, AV.cells, hrs, hws, hwr, hos, hor, how, rowM_none, rowM_some, Oid.sub_not_under hs, Oid.sub_not_under hr, Oid.sub_not_under hw, Oid.sub_not_under ho, Oid.not_under_sub hs, Oid.not_under_sub hr, Oid.not_under_sub hw, Oid.not_under_sub ho, hc0, g1, g2, g3, g4, g5, hne]; trivial)) (key _ ⟨.sub c2 0 x.p, c2 + 1, rfl, Nat.le_succ _, .inr ⟨rfl, hne, c2, rfl, by omega⟩⟩)
    · refine K_drop (Mem.of [(s, .cells [.map r, .map w, .map o]), (r, .map kF true (esA Fct.av Rv 0) Rv.length), (w, .map kF true (esA Fct.av Wv 0) Wv.length), (o, .map kH true (esA Hz.av (O1.map fun h => (h, .bool true)) 0) O1.length), (.sub 0 0 x.p, .cells f.av.cells), (id, .arr 1 (ints xs)), (wo, .arr 1 (ints ys))]) (fun i o h => h) (key _ ⟨wo, c2, rfl, Nat.le_refl _, .inl rfl⟩)
  rintro s' ⟨iw, c3, rfl, hc3, hiw⟩
  have hidn : ¬ iw = s ∧ ¬ iw = r ∧ ¬ iw = w ∧ ¬ iw = o ∧ ¬ iw = .sub 0 0 x.p ∧ ¬ iw = id := by
    rcases hiw with rfl | ⟨rfl, hne, d, rfl, hd⟩
    · obtain ⟨k1, k2, k3, k4, k5, k6⟩ := hwo _ rfl
      refine ⟨k1, k2, k3, k4, fun e => k6 (e ▸ Oid.under_sub (Oid.under_refl _)), ?_⟩
      rintro rfl
      rcases hid with h | ⟨_, d, rfl, _, _⟩
      · exact k5 h.symm
      · exact k6 (Oid.under_sub (Oid.under_refl _))
    · refine ⟨fun e => hs (e ▸ Oid.under_sub (Oid.under_refl _)), fun e => hr (e ▸ Oid.under_sub (Oid.under_refl _)), fun e => hw (e ▸ Oid.under_sub (Oid.under_refl _)), fun e => ho (e ▸ Oid.under_sub (Oid.under_refl _)), fun e => ?_, hne⟩
      simp at e; omega
  obtain ⟨q1, q2, q3, q4, q5, q6⟩ := hidn
  (repeat (with_reducible (first | refine K_seq ?_ | refine K_next ?_ | refine K_skip ?_ | refine K_bend ?_ | refine K_block ?_ | refine K_exit ?_ | refine X_code ?_ | refine X_lend ?_ | refine X_here ?_ | refine X_on (by decide) ?_ | refine K_lendL ?_)))
  refine K_loop [0, 2, 4, 38, 39, 40] (fun q s' => ∃ (i c' : Nat) (O : List Hz), s' = ⟨[(0, .ptr s 0), (2, .int .i64 k), (4, .ptr (.sub 0 0 x.p) 0), (38, .sl iw 1 ys.length), (39, .int .i64 ys.length), (40, .int .i64 i)], Mem.of [(s, .cells [.map r, .map w, .map o]), (r, .map kF true (esA Fct.av Rv 0) Rv.length), (w, .map kF true (esA Fct.av Wv 0) Wv.length), (o, .map kH true (esA Hz.av (O.map fun h => (h, .bool true)) 0) O.length), (.sub 0 0 x.p, .cells f.av.cells), (id, .arr 1 (ints xs)), (iw, .arr 1 (ints ys))], c', []⟩ ∧ c3 ≤ c' ∧ q = ys.length - i ∧ i ≤ ys.length ∧ (ys.drop i).foldl (fun O j => outAdd O ⟨f.path, false, j, k, false⟩) O = O2) _ ⟨0, _, O1, rfl, Nat.le_refl _, rfl, Nat.zero_le _, ho2⟩ ?_
  rintro q s' ⟨i, c', O', rfl, hc', rfl, hi, hno⟩
  have hc0 : 0 < c' := by omega
  (repeat (first | (with_reducible (first | refine K_seq ?_ | refine K_next ?_ | refine K_skip ?_ | refine K_bend ?_ | refine K_block ?_ | refine K_exit ?_ | refine X_code ?_ | refine X_lend ?_ | refine X_here ?_ | refine X_on (by decide) ?_ | refine K_lendL ?_)) | (refine K_ifT rfl rfl ?_) | (refine K_ifF rfl rfl ?_) | (refine K_ev nmd [] hng (by kernel_rfl) fun hf C S K hC1 hC hS hK => ?_; simp (disch := first | omega | assumption) only [go_sem, ↓reduceIte, Nat.reduceEqDiff, Nat.reduceAdd, Nat.reduceMul, Nat.reduceLT, Nat.reduceLeDiff, reduceCtorEq, Nat.reduceBEq, Int.reduceToNat, Int.reduceNeg]; refine hK ?_; clear hK hS hC hC1 K S C hf)))
  refine K_ifd rfl rfl (fun hb => ?_) (fun hb => ?_)
  · (repeat (first | (with_reducible (first | refine K_seq ?_ | refine K_next ?_ | refine K_skip ?_ | refine K_bend ?_ | refine K_exit ?_ | refine X_code ?_ | refine X_lend ?_ | refine X_here ?_ | refine X_on (by decide) ?_ | refine K_lendL ?_)) | (refine K_ifT rfl rfl ?_) | (refine K_ifF rfl rfl ?_) | (refine K_ev nmd [] hng (by kernel_rfl) fun hf C S K hC1 hC hS hK => ?_; simp (disch := first | omega | assumption) only [go_sem, ↓reduceIte, Nat.reduceEqDiff, Nat.reduceAdd, Nat.reduceMul, Nat.reduceLT, Nat.reduceLeDiff, reduceCtorEq, Nat.reduceBEq, Int.reduceToNat, Int.reduceNeg]; refine hK ?_; clear hK hS hC hC1 K S C hf))); refine K_block ?_
    (repeat (first | (with_reducible (first | refine K_seq ?_ | refine K_next ?_ | refine K_skip ?_ | refine K_bend ?_ | refine K_exit ?_ | refine X_code ?_ | refine X_lend ?_ | refine X_here ?_ | refine X_on (by decide) ?_ | refine K_lendL ?_)) | (refine K_ifT rfl rfl ?_) | (refine K_ifF rfl rfl ?_) | (refine K_ev nmd [] hng (by kernel_rfl) fun hf C S K hC1 hC hS hK => ?_; simp (disch := first | omega | assumption) only [go_sem, ↓reduceIte, Nat.reduceEqDiff, Nat.reduceAdd, Nat.reduceMul, Nat.reduceLT, Nat.reduceLeDiff, reduceCtorEq, Nat.reduceBEq, Int.reduceToNat, Int.reduceNeg]; refine hK ?_; clear hK hS hC hC1 K S C hf)))
    have hb' : i < ys.length := by omega
    have hxi := ints_at hb' .undef
    generalize hxj : ys.getD i default = j at hxi
    refine K_ev nmd [] hng (by kernel_rfl) fun hf C S K hC1 hC hS hK => ?_; simp (disch := first | omega | assumption) only [go_sem, ↓reduceIte, Nat.reduceEqDiff, Nat.reduceAdd, Nat.reduceMul, Nat.reduceLT, Nat.reduceLeDiff, reduceCtorEq, Nat.reduceBEq, Int.reduceToNat, Int.reduceNeg, q1, q2, q3, q4, q5, q6, ints_len, hb', hxi]
    refine hK ?_; clear hK hS hC hC1 K S C hf
    (repeat (first | (with_reducible (first | refine K_seq ?_ | refine K_next ?_ | refine K_skip ?_ | refine K_bend ?_ | refine K_exit ?_ | refine X_code ?_ | refine X_lend ?_ | refine X_here ?_ | refine X_on (by decide) ?_ | refine K_lendL ?_)) | (refine K_ifT rfl rfl ?_) | (refine K_ifF rfl rfl ?_) | (refine K_ev nmd [] hng (by kernel_rfl) fun hf C S K hC1 hC hS hK => ?_; simp (disch := first | omega | assumption) only [go_sem, ↓reduceIte, Nat.reduceEqDiff, Nat.reduceAdd, Nat.reduceMul, Nat.reduceLT, Nat.reduceLeDiff, reduceCtorEq, Nat.reduceBEq, Int.reduceToNat, Int.reduceNeg]; refine hK ?_; clear hK hS hC hC1 K S C hf)))
    refine K_evd nmd [] [] mixed hng (by kernel_rfl) [0, 2, 4, 38, 39, 40] fun hf C S K hC hS hK => ?_; simp (disch := first | omega | assumption) only [go_sem, ↓reduceIte, Nat.reduceEqDiff, Nat.reduceAdd, Nat.reduceMul, Nat.reduceLT, Nat.reduceLeDiff, reduceCtorEq, Nat.reduceBEq, Int.reduceToNat, Int.reduceNeg, hos, hor, how, kH, set_h, len_h]
    (first | refine hK (dynN_quiet rfl) ?_ | refine hK (by simp (disch := first | omega | assumption) only [go_sem, ↓reduceIte, Nat.reduceEqDiff, Nat.reduceAdd, Nat.reduceMul, Nat.reduceLT, Nat.reduceLeDiff, reduceCtorEq, Nat.reduceBEq, Int.reduceToNat, Int.reduceNeg, List.reverse_cons, List.reverse_nil, ne_eq, not_false_eq_true, implies_true]) ?_); clear hK hS hC K S C hf
    (repeat (with_reducible (first | refine K_seq ?_ | refine K_next ?_ | refine K_skip ?_ | refine K_bend ?_ | refine K_block ?_ | refine K_exit ?_ | refine X_code ?_ | refine X_lend ?_ | refine X_here ?_ | refine X_on (by decide) ?_ | refine K_lendL ?_)))
    (repeat (first | (with_reducible (first | refine K_seq ?_ | refine K_next ?_ | refine K_skip ?_ | refine K_bend ?_ | refine K_block ?_ | refine K_exit ?_ | refine X_code ?_ | refine X_lend ?_ | refine X_here ?_ | refine X_on (by decide) ?_ | refine K_lendL ?_)) | (refine K_ifT rfl rfl ?_) | (refine K_ifF rfl rfl ?_) | (refine K_ev nmd [] hng (by kernel_rfl) fun hf C S K hC1 hC hS hK => ?_; simp (disch := first | omega | assumption) only [go_sem, ↓reduceIte, Nat.reduceEqDiff, Nat.reduceAdd, Nat.reduceMul, Nat.reduceLT, Nat.reduceLeDiff, reduceCtorEq, Nat.reduceBEq, Int.reduceToNat, Int.reduceNeg]; refine hK ?_; clear hK hS hC hC1 K S C hf)))
    refine ⟨_, _, ?_, fun _ _ h => h, i + 1, _, _, rfl, by omega, rfl, by omega, ?_⟩
    · omega
    · rw [foldl_drop _ _ hb', hxj] at hno; exact hno
  · (repeat (with_reducible (first | refine K_seq ?_ | refine K_next ?_ | refine K_skip ?_ | refine K_bend ?_ | refine K_block ?_ | refine K_exit ?_ | refine X_code ?_ | refine X_lend ?_ | refine X_here ?_ | refine X_on (by decide) ?_ | refine K_lendL ?_)))
    obtain rfl : i = ys.length := by omega
    simp only [List.drop_length, List.foldl_nil] at hno
    subst hno
    refine K_nil (done_normal _ _ rfl ⟨rfl, rfl⟩ ?_)
    have hn : noteL xs ys f k O = O' := by rw [noteL, ho1]; exact ho2
    simp only [hn]
    rw [Mem.of_upds]
    refine mem_end ?_
    have hid' : ∀ i, ro = some i → i = id := fun i h => by
      rcases hid with h' | ⟨h', _⟩
      · rw [h] at h'; exact Option.some.inj h'
      · rw [h] at h'; cases h'
    have hiw' : ∀ i, wo = some i → i = iw := fun i h => by
      rcases hiw with h' | ⟨h', _⟩
      · rw [h] at h'; exact Option.some.inj h'
      · rw [h] at h'; cases h'
    rcases ro with _ | ro <;> rcases wo with _ | wo
    · simp only [fa_cons, fa_nil, Mem.of_cons_at, Mem.of_nil_at, Mem.of_upds, Mem.of_putL, putLs, putL, List.cons_append, List.nil_append, List.append_nil, ↓reduceIte, eq_self, and_true, true_and, and_self, and_false, false_and, reduceCtorEq, Oid.sub.injEq, Nat.reduceEqDiff, Fct.av, AV.cells, hrs, hws, hwr, hos, hor, how, rowM_none, rowM_some, Oid.sub_not_under hs, Oid.sub_not_under hr, Oid.sub_not_under hw, Oid.sub_not_under ho, Oid.not_under_sub hs, Oid.not_under_sub hr, Oid.not_under_sub hw, Oid.not_under_sub ho]
    · obtain rfl := hiw' _ rfl
      simp only [fa_cons, fa_nil, Mem.of_cons_at, Mem.of_nil_at, Mem.of_upds, Mem.of_putL, putLs, putL, List.cons_append, List.nil_append, List.append_nil, ↓reduceIte, eq_self, and_true, true_and, and_self, and_false, false_and, reduceCtorEq, Oid.sub.injEq, Nat.reduceEqDiff, Fct.av, AV.cells, hrs, hws, hwr, hos, hor, how, rowM_none, rowM_some, Oid.sub_not_under hs, Oid.sub_not_under hr, Oid.sub_not_under hw, Oid.sub_not_under ho, Oid.not_under_sub hs, Oid.not_under_sub hr, Oid.not_under_sub hw, Oid.not_under_sub ho, q1, q2, q3, q4, q5, q6]
    · obtain rfl := hid' _ rfl
      simp only [fa_cons, fa_nil, Mem.of_cons_at, Mem.of_nil_at, Mem.of_upds, Mem.of_putL, putLs, putL, List.cons_append, List.nil_append, List.append_nil, ↓reduceIte, eq_self, and_true, true_and, and_self, and_false, false_and, reduceCtorEq, Oid.sub.injEq, Nat.reduceEqDiff, Fct.av, AV.cells, hrs, hws, hwr, hos, hor, how, rowM_none, rowM_some, Oid.sub_not_under hs, Oid.sub_not_under hr, Oid.sub_not_under hw, Oid.sub_not_under ho, Oid.not_under_sub hs, Oid.not_under_sub hr, Oid.not_under_sub hw, Oid.not_under_sub ho, g1, g2, g3, g4, g5]
    · obtain rfl := hid' _ rfl
      obtain rfl := hiw' _ rfl
      simp only [fa_cons, fa_nil, Mem.of_cons_at, Mem.of_nil_at, Mem.of_upds, Mem.of_putL, putLs, putL, List.cons_append, List.nil_append, List.append_nil, ↓reduceIte, eq_self, and_true, true_and, and_self, and_false, false_and, reduceCtorEq, Oid.sub.injEq, Nat.reduceEqDiff, Fct.av, AV.cells, hrs, hws, hwr, hos, hor, how, rowM_none, rowM_some, Oid.sub_not_under hs, Oid.sub_not_under hr, Oid.sub_not_under hw, Oid.sub_not_under ho, Oid.not_under_sub hs, Oid.not_under_sub hr, Oid.not_under_sub hw, Oid.not_under_sub ho, g1, g2, g3, g4, g5, q1, q2, q3, q4, q5, q6]
end Go.Proofs.Ytpdmiojenhodlaa
