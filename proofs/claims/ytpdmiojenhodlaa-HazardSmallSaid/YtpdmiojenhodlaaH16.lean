/- The program's hazards. -/
import Derived.Test.YtpdmiojenhodlaaH15
import Derived.Test.YtpdmiojenhodlaaHp
set_option linter.unusedVariables false
set_option linter.unusedSimpArgs false
namespace Go.Proofs.Ytpdmiojenhodlaa
open Go Go.Ab
open Go.Proofs (ltOf)
set_option maxRecDepth 20000
set_option maxHeartbeats 4000000
def bO (i : Nat) : Nat := i * 220000000
theorem bO_step {x y i : Nat} (h : x ≤ bO i) (hy : y ≤ x + 220000000) : y ≤ bO (i + 1) := by unfold bO at *; omega
theorem bO_le {x i : Nat} (h : x ≤ bO i) (hi : i ≤ 300) : x ≤ 2000000000000 := by unfold bO at *; omega
theorem outAdd_le (O : List Hz) (h : Hz) : (outAdd O h).length ≤ O.length + 1 := by
  unfold outAdd; split
  · omega
  · simp
theorem fold_le {α : Type} (f : List Hz → α → List Hz) (m : Nat) (hf : ∀ O a, (f O a).length ≤ O.length + m) : ∀ (l : List α) (O : List Hz), (l.foldl f O).length ≤ O.length + l.length * m
  | [], O => by simp
  | a :: l, O => by
    have h1 := fold_le f m hf l (f O a); have h2 := hf O a
    simp only [List.foldl_cons, List.length_cons, Nat.add_mul, Nat.one_mul]
    omega
theorem noteF_le (R W : List (Fct × List Nat)) (f : Fct) (k : Nat) (O : List Hz) (a b : Nat) (ha : (rowGet f R).length ≤ a) (hb : (rowGet f W).length ≤ b) : (noteF R W f k O).length ≤ O.length + (a + b) := by
  unfold noteF
  have h1 := fold_le (fun O i => outAdd O ⟨f.path, f.names, i, k, true⟩) 1 (fun O i => outAdd_le O _) (rowGet f R) O
  have h2 := fold_le (fun O i => outAdd O ⟨f.path, false, i, k, false⟩) 1 (fun O i => outAdd_le O _) (rowGet f W) ((rowGet f R).foldl (fun O i => outAdd O ⟨f.path, f.names, i, k, true⟩) O)
  omega
theorem takeF_le (s : Sn) (z : Stp) (k a b : Nat) (ha : ∀ f, (rowGet f (takeF s z k).r).length ≤ a) (hb : ∀ f, (rowGet f s.w).length ≤ b) : (takeF s z k).o.length ≤ s.o.length + z.writes.length * (2 * (a + b)) := by
  refine fold_le _ _ (fun O t => ?_) z.writes s.o
  have h1 := noteF_le (takeF s z k).r s.w ⟨t.path, false⟩ k O a b (ha _) (hb _)
  have h2 := noteF_le (takeF s z k).r s.w ⟨aboveF t.path, true⟩ k (noteF (takeF s z k).r s.w ⟨t.path, false⟩ k O) a b (ha _) (hb _)
  show (noteF (takeF s z k).r s.w ⟨aboveF t.path, true⟩ k (noteF (takeF s z k).r s.w ⟨t.path, false⟩ k O)).length ≤ _
  omega
theorem sets_get {L0 L : List (Oid × AObj)} {m : Mem} (hn : (L.map (·.1)).Nodup) : ∀ q, q ∈ L → (m.upds (clr L0 ++ sets L)) q.1 = some q.2 := by
  intro q hq
  rw [upds_append]
  obtain ⟨q', k1, k2, k3⟩ := upds_mem (m := m.upds (clr L0)) (u := sets L) (i := q.1) ⟨(q.1, some q.2), List.mem_map.2 ⟨q, hq, rfl⟩, rfl⟩
  rw [k3]
  obtain ⟨a, ha, rfl⟩ := List.mem_map.1 k1
  simp only at k2 ⊢
  have h1 := of_nodup hn ha
  have h2 := of_nodup hn hq
  rw [k2, h2] at h1
  exact h1.symm
theorem sub_ne' {c j d e : Nat} {p : Oid} (h : ¬ c = d) : ¬ Oid.sub c j p = .sub d e p := fun k => by simp only [Oid.sub.injEq] at k; exact h k.1
theorem sub_ne2 {c j d e : Nat} {p : Oid} (h : ¬ j = e) : ¬ Oid.sub c j p = .sub d e p := fun k => by simp only [Oid.sub.injEq] at k; exact h k.2.1
theorem sub_nu {c j d e : Nat} {p : Oid} (h : ¬ c = d) : ¬ Oid.under (.sub c j p) (.sub d e p) := fun k => h (Oid.apart k (Oid.under_refl _)).1
theorem Names.down {s r w o p : Oid} {c : Nat} {R W : Rw} (h : Names s r w o p c R W) (j : Nat) {d : Nat} (hd : c ≤ d) : Names s r w o (.sub d j p) 0 R W :=
  ⟨h.nd, fun i hi => let ⟨a1, a2, a3, a4, _, a6⟩ := h.ne i hi; ⟨a1, a2, a3, a4, fun e => a6 d j hd (by rw [e]; exact Oid.under_sub (Oid.under_refl _)), fun _ _ _ hu => a6 d j hd (Oid.under_sub hu)⟩⟩
theorem Names.up {s r w o p : Oid} {c d j c1 : Nat} {R W R' W' : Rw} (h : Names s r w o p c R W) (h' : Names s r w o (.sub d j p) c1 R' W') (hs : Src (nmR R ++ nmR W) (.sub d j p) R' W') (hd0 : 0 < d) (hd : c ≤ d) : Names s r w o p (d + 1) R' W' :=
  ⟨h'.nd, fun i hi => by
    obtain ⟨a1, a2, a3, a4, _, _⟩ := h'.ne i hi
    rcases hs.src i hi with hi | hu
    · obtain ⟨_, _, _, _, a5, a6⟩ := h.ne i hi
      exact ⟨a1, a2, a3, a4, a5, fun e k he => a6 e k (by omega)⟩
    · refine ⟨a1, a2, a3, a4, fun e => ?_, fun e k he hk => ?_⟩
      · subst e; exact absurd hu (sub_nu (by omega))
      · have := (Oid.apart hu hk).1; omega⟩
theorem tk_nodup {p : Oid} {c : Nat} {R W : Rw} (h : Names (.sub 1 4 p) (.sub 1 0 p) (.sub 1 1 p) (.sub 1 2 p) p c R W) (O : List Hz) : ((tkMem (.sub 1 4 p) (.sub 1 0 p) (.sub 1 1 p) (.sub 1 2 p) R W O).map (·.1)).Nodup := by
  simp only [tkMem, List.cons_append, List.nil_append, List.map_cons, List.map_append, rows_names, List.nodup_cons]
  have ni : ∀ i, (∃ e, i = .sub 1 e p) → (e : i ∈ nmR R ++ nmR W) → i = .sub 1 4 p ∨ i = .sub 1 0 p ∨ i = .sub 1 1 p ∨ i = .sub 1 2 p → False := by
    intro i _ hi hh
    obtain ⟨a1, a2, a3, a4, _, _⟩ := h.ne i hi
    rcases hh with e | e | e | e
    · exact a1 e
    · exact a2 e
    · exact a3 e
    · exact a4 e
  refine ⟨?_, ?_, ?_, ?_, h.nd⟩ <;> try simp only [List.mem_cons, Oid.sub.injEq, Nat.reduceEqDiff, false_and, and_false, false_or, not_or]
  · exact fun e => ni _ ⟨_, rfl⟩ e (.inl rfl)
  · exact fun e => ni _ ⟨_, rfl⟩ e (.inr (.inl rfl))
  · exact fun e => ni _ ⟨_, rfl⟩ e (.inr (.inr (.inl rfl)))
  · exact fun e => ni _ ⟨_, rfl⟩ e (.inr (.inr (.inr rfl)))
theorem rowGet_le {B : Nat} {R : Rw} (h : ∀ q ∈ R, q.2.2.length ≤ B) (f : Fct) : (rowGet f (plR R)).length ≤ B := row_short h f
theorem hO_le {R R' W : Rw} {O : List Hz} {z : Stp} {i : Nat} (h1 : plR R' = (takeF ⟨plR R, plR W, O⟩ z i).r) (h2 : ∀ q ∈ R', q.2.2.length ≤ i * 600 + z.reads.length) (h3 : ∀ q ∈ W, q.2.2.length ≤ i * 600) (hz : z.reads.length ≤ 300) (hw : z.writes.length ≤ 300) (hi : i < 300) (hO : O.length ≤ bO i) :
    (takeF ⟨plR R, plR W, O⟩ z i).o.length ≤ bO (i + 1) := by
  have k := takeF_le ⟨plR R, plR W, O⟩ z i (i * 600 + z.reads.length) (i * 600) (fun f => by rw [← h1]; exact rowGet_le h2 f) (fun f => rowGet_le h3 f)
  refine bO_step hO (Nat.le_trans k (Nat.add_le_add_left ?_ _))
  have : z.writes.length * (2 * (i * 600 + z.reads.length + i * 600)) ≤ 300 * (2 * (300 * 600 + 300 + 300 * 600)) := Nat.mul_le_mul hw (by omega)
  omega
theorem haz_ok (l : List Stp) (hl : Small300 l) (p : Oid) : CallOK Try.prog 10 [.list 2 (l.map Stp.av)] (Oid.under p) ⟨[], .list 5 ((refF l).map Hz.av), []⟩ := by
  obtain ⟨hl1, hl2⟩ := hl
  have hp := sorted_is l
  unfold hzO at hp
  generalize hfin : snF 0 l ⟨[], [], []⟩ = SF at hp
  refine fnOK (n := 29) (rs := [.tmp 2]) Try.func10 rfl rfl (by decide) rfl rfl rfl ?_; rintro x rfl hrd hng
  (repeat (first | (with_reducible (first | refine K_seq ?_ | refine K_next ?_ | refine K_skip ?_ | refine K_bend ?_ | refine K_block ?_ | refine K_exit ?_ | refine X_code ?_ | refine X_lend ?_ | refine X_here ?_ | refine X_on (by decide) ?_ | refine K_lendL ?_)) | (refine K_ifT rfl rfl ?_) | (refine K_ifF rfl rfl ?_) | (refine K_ev nmd [] hng (by kernel_rfl) fun hf C S K hC1 hC hS hK => ?_; simp (disch := first | omega | assumption) only [go_sem, ↓reduceIte, Nat.reduceEqDiff, Nat.reduceAdd, Nat.reduceMul, Nat.reduceLT, Nat.reduceLeDiff, reduceCtorEq, Nat.reduceBEq, Int.reduceToNat, Int.reduceNeg]; refine hK ?_; clear hK hS hC hC1 K S C hf)))
  refine K_mem [(.sub 1 4 x.p, .cells [.map (.sub 1 0 x.p), .map (.sub 1 1 x.p), .map (.sub 1 2 x.p)]), (.sub 1 0 x.p, .map kF true [] 0), (.sub 1 1 x.p, .map kF true [] 0), (.sub 1 2 x.p, .map kH true [] 0)] (by simp only [fa_cons, fa_nil, Mem.of_cons_at, Mem.of_nil_at, Mem.of_upds, Mem.of_putL, putLs, putL, List.cons_append, List.nil_append, List.append_nil, ↓reduceIte, eq_self, and_true, true_and, and_self, and_false, false_and, reduceCtorEq, Oid.sub.injEq, Nat.reduceEqDiff, kF, kH]) ?_
  refine K_loop [3, 11, 12, 13] (fun q s' => ∃ (i c : Nat) (R W : Rw) (O : List Hz), s' = ⟨[(3, .ptr (.sub 1 4 x.p) 0), (11, .list 2 (l.map Stp.av)), (12, .int .i64 l.length), (13, .int .i64 i)], Mem.of ([(.sub 1 4 x.p, .cells [.map (.sub 1 0 x.p), .map (.sub 1 1 x.p), .map (.sub 1 2 x.p)]), (.sub 1 0 x.p, .map kF true (esA Fct.av (entV R) 0) (entV R).length), (.sub 1 1 x.p, .map kF true (esA Fct.av (entV W) 0) (entV W).length), (.sub 1 2 x.p, .map kH true (esA Hz.av (O.map fun h => (h, .bool true)) 0) O.length)] ++ (rowsM R ++ rowsM W)), c, []⟩ ∧ 1 < c ∧ q = l.length - i ∧ i ≤ l.length ∧ snF i (l.drop i) ⟨plR R, plR W, O⟩ = SF ∧
    Names (.sub 1 4 x.p) (.sub 1 0 x.p) (.sub 1 1 x.p) (.sub 1 2 x.p) x.p c R W ∧
    (∀ q ∈ R, q.2.2.length ≤ i * 600) ∧ (∀ q ∈ W, q.2.2.length ≤ i * 600) ∧ O.length ≤ bO i) _ ⟨0, _, [], [], [], rfl, by omega, rfl, Nat.zero_le _, hfin, ⟨.nil, fun j hj => (by cases hj)⟩, fun q hq => (by cases hq), fun q hq => (by cases hq), Nat.zero_le _⟩ ?_
  clear hfin
  rintro q s' ⟨i, c, R, W, O, rfl, hc, rfl, hi, hsn, hN, hBR, hBW, hbO⟩
  (repeat (first | (with_reducible (first | refine K_seq ?_ | refine K_next ?_ | refine K_skip ?_ | refine K_bend ?_ | refine K_block ?_ | refine K_exit ?_ | refine X_code ?_ | refine X_lend ?_ | refine X_here ?_ | refine X_on (by decide) ?_ | refine K_lendL ?_)) | (refine K_ifT rfl rfl ?_) | (refine K_ifF rfl rfl ?_) | (refine K_ev nmd [] hng (by kernel_rfl) fun hf C S K hC1 hC hS hK => ?_; simp (disch := first | omega | assumption) only [go_sem, ↓reduceIte, Nat.reduceEqDiff, Nat.reduceAdd, Nat.reduceMul, Nat.reduceLT, Nat.reduceLeDiff, reduceCtorEq, Nat.reduceBEq, Int.reduceToNat, Int.reduceNeg]; refine hK ?_; clear hK hS hC hC1 K S C hf)))
  refine K_ifd rfl rfl (fun hb => ?_) (fun hb => ?_)
  · have hb' : i < l.length := by omega
    have hzi := getD_map_in Stp.av hb' .undef
    have hz2 := hl2 (l.getD i default) (by rw [List.getD_eq_getElem?_getD, List.getElem?_eq_getElem hb']; exact List.getElem_mem hb')
    rw [snF_drop hb'] at hsn
    generalize l.getD i default = z at hzi hz2 hsn
    generalize hrest : rowsM R ++ rowsM W = rest
    (repeat (first | (with_reducible (first | refine K_seq ?_ | refine K_next ?_ | refine K_skip ?_ | refine K_bend ?_ | refine K_exit ?_ | refine X_code ?_ | refine X_lend ?_ | refine X_here ?_ | refine X_on (by decide) ?_ | refine K_lendL ?_)) | (refine K_ifT rfl rfl ?_) | (refine K_ifF rfl rfl ?_) | (refine K_ev nmd [] hng (by kernel_rfl) fun hf C S K hC1 hC hS hK => ?_; simp (disch := first | omega | assumption) only [go_sem, ↓reduceIte, Nat.reduceEqDiff, Nat.reduceAdd, Nat.reduceMul, Nat.reduceLT, Nat.reduceLeDiff, reduceCtorEq, Nat.reduceBEq, Int.reduceToNat, Int.reduceNeg]; refine hK ?_; clear hK hS hC hC1 K S C hf))); refine K_block ?_
    (repeat (first | (with_reducible (first | refine K_seq ?_ | refine K_next ?_ | refine K_skip ?_ | refine K_bend ?_ | refine K_exit ?_ | refine X_code ?_ | refine X_lend ?_ | refine X_here ?_ | refine X_on (by decide) ?_ | refine K_lendL ?_)) | (refine K_ifT rfl rfl ?_) | (refine K_ifF rfl rfl ?_) | (refine K_ev nmd [] hng (by kernel_rfl) fun hf C S K hC1 hC hS hK => ?_; simp (disch := first | omega | assumption) only [go_sem, ↓reduceIte, Nat.reduceEqDiff, Nat.reduceAdd, Nat.reduceMul, Nat.reduceLT, Nat.reduceLeDiff, reduceCtorEq, Nat.reduceBEq, Int.reduceToNat, Int.reduceNeg]; refine hK ?_; clear hK hS hC hC1 K S C hf)))
    refine K_ev nmd [] hng (by kernel_rfl) fun hf C S K hC1 hC hS hK => ?_; simp (disch := first | omega | assumption) only [go_sem, ↓reduceIte, Nat.reduceEqDiff, Nat.reduceAdd, Nat.reduceMul, Nat.reduceLT, Nat.reduceLeDiff, reduceCtorEq, Nat.reduceBEq, Int.reduceToNat, Int.reduceNeg, hzi, of_put_at]
    refine hK ?_; clear hK hS hC hC1 K S C hf
    (repeat (first | (with_reducible (first | refine K_seq ?_ | refine K_next ?_ | refine K_skip ?_ | refine K_bend ?_ | refine K_exit ?_ | refine X_code ?_ | refine X_lend ?_ | refine X_here ?_ | refine X_on (by decide) ?_ | refine K_lendL ?_)) | (refine K_ifT rfl rfl ?_) | (refine K_ifF rfl rfl ?_) | (refine K_ev nmd [] hng (by kernel_rfl) fun hf C S K hC1 hC hS hK => ?_; simp (disch := first | omega | assumption) only [go_sem, ↓reduceIte, Nat.reduceEqDiff, Nat.reduceAdd, Nat.reduceMul, Nat.reduceLT, Nat.reduceLeDiff, reduceCtorEq, Nat.reduceBEq, Int.reduceToNat, Int.reduceNeg]; refine hK ?_; clear hK hS hC hC1 K S C hf)))
    subst hrest
    refine K_drop (Mem.of ([(.sub 1 4 x.p, .cells [.map (.sub 1 0 x.p), .map (.sub 1 1 x.p), .map (.sub 1 2 x.p)]), (.sub 1 0 x.p, .map kF true (esA Fct.av (entV R) 0) (entV R).length), (.sub 1 1 x.p, .map kF true (esA Fct.av (entV W) 0) (entV W).length), (.sub 1 2 x.p, .map kH true (esA Hz.av (O.map fun h => (h, .bool true)) 0) O.length), (.sub (c + 1) 3 x.p, .cells z.av.cells)] ++ (rowsM R ++ rowsM W))) (mem_end (rows_same hN ?_ ?_)) ?_
    · simp only [fa_cons, fa_nil, Mem.of_cons_at, Mem.of_nil_at, Mem.of_upds, Mem.of_putL, putLs, putL, List.cons_append, List.nil_append, List.append_nil, ↓reduceIte, eq_self, and_true, true_and, and_self, and_false, false_and, reduceCtorEq, Oid.sub.injEq, Nat.reduceEqDiff, of_put_at, Stp.av, AV.cells, show ¬ 1 = c + 1 by omega, show ¬ c + 1 = 1 by omega]
    · intro j hj
      obtain ⟨a1, a2, a3, a4, a5, a6⟩ := hN.ne j hj
      have a7 : ¬ j = .sub (c + 1) 3 x.p := fun e => a6 (c + 1) 3 (by omega) (e ▸ Oid.under_refl _)
      simp only [fa_cons, fa_nil, Mem.of_cons_at, Mem.of_nil_at, Mem.of_upds, Mem.of_putL, putLs, putL, List.cons_append, List.nil_append, List.append_nil, ↓reduceIte, eq_self, and_true, true_and, and_self, and_false, false_and, reduceCtorEq, Oid.sub.injEq, Nat.reduceEqDiff, of_put_at, a1, a2, a3, a4, a7]
    generalize hrest : rowsM R ++ rowsM W = rest
    refine K_ev nmd [] hng (by kernel_rfl) fun hf C S K hC1 hC hS hK => ?_; simp (disch := first | omega | assumption) only [go_sem, ↓reduceIte, Nat.reduceEqDiff, Nat.reduceAdd, Nat.reduceMul, Nat.reduceLT, Nat.reduceLeDiff, reduceCtorEq, Nat.reduceBEq, Int.reduceToNat, Int.reduceNeg, of_put_at, AV.cells, show ¬ c + 1 = 1 by omega]
    subst hrest
    have hNd := hN.down 3 (d := c + 1 + 1) (by omega)
    refine hC _ _ _ (take_ok (.sub 1 4 x.p) (.sub 1 0 x.p) (.sub 1 1 x.p) (.sub 1 2 x.p) z i (i * 600) R W O _ (sub_ne2 (by omega)) (sub_ne2 (by omega)) (sub_ne2 (by omega)) (sub_ne2 (by omega)) (sub_ne2 (by omega)) (sub_ne2 (by omega)) (sub_nu (by omega)) (sub_nu (by omega)) (sub_nu (by omega)) (sub_nu (by omega))
      hNd hBR hBW (by omega) hz2.2.2.2) (rows_same hN ?_ ?_) ?_ (fun _ _ h => h.elim)
    · simp only [fa_cons, fa_nil, Mem.of_cons_at, Mem.of_nil_at, Mem.of_upds, Mem.of_putL, putLs, putL, List.cons_append, List.nil_append, List.append_nil, ↓reduceIte, eq_self, and_true, true_and, and_self, and_false, false_and, reduceCtorEq, Oid.sub.injEq, Nat.reduceEqDiff]
    · intro j hj
      obtain ⟨a1, a2, a3, a4, a5, a6⟩ := hN.ne j hj
      have a7 : ¬ j = .sub (c + 1) 3 x.p := fun e => a6 (c + 1) 3 (by omega) (e ▸ Oid.under_refl _)
      simp only [fa_cons, fa_nil, Mem.of_cons_at, Mem.of_nil_at, Mem.of_upds, Mem.of_putL, putLs, putL, List.cons_append, List.nil_append, List.append_nil, ↓reduceIte, eq_self, and_true, true_and, and_self, and_false, false_and, reduceCtorEq, Oid.sub.injEq, Nat.reduceEqDiff, of_put_at, a1, a2, a3, a4, a7]
    rintro val upd ⟨rfl, R', W', hR', hW', ⟨c1, hN1⟩, hSrc, hB1, hB2, rfl⟩
    have hN2 := hN.up hN1 hSrc (by omega) (by omega)
    have hO2 := hO_le hR' hB1 hBW hz2.1 hz2.2.1 (by omega) hbO
    have hsn2 : snF (i + 1) (l.drop (i + 1)) ⟨plR R', plR W', (takeF ⟨plR R, plR W, O⟩ z i).o⟩ = SF := by rw [hR', hW']; exact hsn
    generalize (takeF ⟨plR R, plR W, O⟩ z i).o = O' at hO2 hsn2
    generalize hclr : clr (tkMem (.sub 1 4 x.p) (.sub 1 0 x.p) (.sub 1 1 x.p) (.sub 1 2 x.p) R W O) = CL
    generalize hset : sets (tkMem (.sub 1 4 x.p) (.sub 1 0 x.p) (.sub 1 1 x.p) (.sub 1 2 x.p) R' W' O') = ST
    simp (disch := first | omega | assumption) only [go_sem, ↓reduceIte, Nat.reduceEqDiff, Nat.reduceAdd, Nat.reduceMul, Nat.reduceLT, Nat.reduceLeDiff, reduceCtorEq, Nat.reduceBEq, Int.reduceToNat, Int.reduceNeg]
    refine hK ?_; clear hK hS hC hC1 K S C hf
    (repeat (first | (with_reducible (first | refine K_seq ?_ | refine K_next ?_ | refine K_skip ?_ | refine K_bend ?_ | refine K_block ?_ | refine K_exit ?_ | refine X_code ?_ | refine X_lend ?_ | refine X_here ?_ | refine X_on (by decide) ?_ | refine K_lendL ?_)) | (refine K_ifT rfl rfl ?_) | (refine K_ifF rfl rfl ?_) | (refine K_ev nmd [] hng (by kernel_rfl) fun hf C S K hC1 hC hS hK => ?_; simp (disch := first | omega | assumption) only [go_sem, ↓reduceIte, Nat.reduceEqDiff, Nat.reduceAdd, Nat.reduceMul, Nat.reduceLT, Nat.reduceLeDiff, reduceCtorEq, Nat.reduceBEq, Int.reduceToNat, Int.reduceNeg]; refine hK ?_; clear hK hS hC hC1 K S C hf)))
    refine ⟨_, Mem.of (tkMem (.sub 1 4 x.p) (.sub 1 0 x.p) (.sub 1 1 x.p) (.sub 1 2 x.p) R' W' O'), ?_, mem_end ?_, i + 1, _, R', W', O', rfl, by omega, rfl, by omega, hsn2, hN2.mono (by omega), fun q hq => by have := hB1 q hq; omega, fun q hq => by have := hB2 q hq; omega, hO2⟩
    · omega
    · rw [← Mem.of_upds, ← hclr, ← hset]
      exact sets_get (tk_nodup hN2 O')
  · obtain rfl : i = l.length := by omega
    rw [List.drop_length] at hsn
    subst hsn
    generalize hrest : rowsM R ++ rowsM W = rest
    have hOB := bO_le hbO hl1
    (repeat (first | (with_reducible (first | refine K_seq ?_ | refine K_next ?_ | refine K_skip ?_ | refine K_bend ?_ | refine K_exit ?_ | refine X_code ?_ | refine X_lend ?_ | refine X_here ?_ | refine X_on (by decide) ?_ | refine K_lendL ?_)) | (refine K_ifT rfl rfl ?_) | (refine K_ifF rfl rfl ?_) | (refine K_ev nmd [] hng (by kernel_rfl) fun hf C S K hC1 hC hS hK => ?_; simp (disch := first | omega | assumption) only [go_sem, ↓reduceIte, Nat.reduceEqDiff, Nat.reduceAdd, Nat.reduceMul, Nat.reduceLT, Nat.reduceLeDiff, reduceCtorEq, Nat.reduceBEq, Int.reduceToNat, Int.reduceNeg]; refine hK ?_; clear hK hS hC hC1 K S C hf)))
    refine K_ev nmd [] hng (by kernel_rfl) fun hf C S K hC1 hC hS hK => ?_; simp (disch := first | omega | assumption) only [go_sem, ↓reduceIte, Nat.reduceEqDiff, Nat.reduceAdd, Nat.reduceMul, Nat.reduceLT, Nat.reduceLeDiff, reduceCtorEq, Nat.reduceBEq, Int.reduceToNat, Int.reduceNeg]
    refine hC1 _ (keys_ok (.sub 1 2 x.p) _ (sub_nu (by omega))) (by simp (disch := first | omega | assumption) only [go_sem, ↓reduceIte, Nat.reduceEqDiff, Nat.reduceAdd, Nat.reduceMul, Nat.reduceLT, Nat.reduceLeDiff, reduceCtorEq, Nat.reduceBEq, Int.reduceToNat, Int.reduceNeg]) ?_
    simp (disch := first | omega | assumption) only [go_sem, ↓reduceIte, Nat.reduceEqDiff, Nat.reduceAdd, Nat.reduceMul, Nat.reduceLT, Nat.reduceLeDiff, reduceCtorEq, Nat.reduceBEq, Int.reduceToNat, Int.reduceNeg]
    have hbx : Oid.under (.sub (c + 1) 4 x.p) (.sub 0 0 (.sub (c + 1) 4 x.p)) := Oid.under_sub (Oid.under_refl _)
    have hb1 : ∀ e, ¬ Oid.sub 1 e x.p = .sub 0 0 (.sub (c + 1) 4 x.p) := fun e k => sub_nu (c := c + 1) (d := 1) (e := e) (by omega) (k ▸ hbx)
    have hb2 : ∀ e, ¬ Oid.sub 0 0 (.sub (c + 1) 4 x.p) = Oid.sub 1 e x.p := fun e k => hb1 e k.symm
    refine hC _ _ _ (sorted_ok (.sub 0 0 (.sub (c + 1) 4 x.p)) (.sub 1 2 x.p) O _ (hb1 2) (fun k => ?_) (sub_nu (by omega)) hOB) ?_ ?_ (fun _ _ h => h.elim)
    · have := (Oid.apart k hbx).2; omega
    · simp only [fa_cons, fa_nil, Mem.of_cons_at, Mem.of_nil_at, Mem.of_upds, Mem.of_putL, putLs, putL, List.cons_append, List.nil_append, List.append_nil, ↓reduceIte, eq_self, and_true, true_and, and_self, and_false, false_and, reduceCtorEq, Oid.sub.injEq, Nat.reduceEqDiff, of_put_at, hb1, hb2]
    rintro val upd ⟨l', L', hp1, hp2, hr, rfl⟩
    obtain rfl := hp l' hp1 hp2
    rcases hr with ⟨e, rfl, rfl⟩ | ⟨hne, id, rfl, rfl, hid⟩
    · simp (disch := first | omega | assumption) only [go_sem, ↓reduceIte, Nat.reduceEqDiff, Nat.reduceAdd, Nat.reduceMul, Nat.reduceLT, Nat.reduceLeDiff, reduceCtorEq, Nat.reduceBEq, Int.reduceToNat, Int.reduceNeg, sets, List.map_nil]
      refine hK ?_; clear hK hS hC hC1 K S C hf
      refine K_nilList 2 5 rfl ?_
      exact K_ret (done1 (by rw [e]; rfl))
    · generalize hml : Mem.of _ = M0
      simp (disch := first | omega | assumption) only [go_sem, ↓reduceIte, Nat.reduceEqDiff, Nat.reduceAdd, Nat.reduceMul, Nat.reduceLT, Nat.reduceLeDiff, reduceCtorEq, Nat.reduceBEq, Int.reduceToNat, Int.reduceNeg, sets, List.map_cons, List.map_nil]
      refine hK ?_; clear hK hS hC hC1 K S C hf
      exact K_retl rfl (by simp only [Mem.upds, Mem.set, if_true]) (List.length_map _).symm rfl
end Go.Proofs.Ytpdmiojenhodlaa
