/- A part of the proof: the texts Z24, Z29, Z30, Z25, Z26, Z21, Z22, Z23, Z27, Z28, Z33, FwY, Z34, FwZ, Z31, Z35, Z36, Z37, Z38, one behind the other. -/
import Derived.Test.YtaecbmbecofijaaGreatDoorPDe
set_option linter.unusedVariables false
set_option linter.unusedSimpArgs false
set_option linter.unusedSectionVars false
namespace Go.Proofs.YtaecbmbecofijaaGreatDoor
open Go Go.Ab
set_option maxRecDepth 20000
set_option maxHeartbeats 4000000
/-- What a touch that can be applied is. -/
structure AppOK (h : Tch) : Prop where
  key : h.1.1.length ≤ 1000000
  len : h.2.length ≤ 4000000000
  ok : (entT h.2).1.ok
  pos : 0 ≤ (entT h.2).1.k ∧ 0 ≤ (entT h.2).1.m
  fine : (entT h.2).2 = 0
  plain : h.1.2 = false
def putsL (s : St) : List Tch → St
  | [] => s
  | h :: l => putsL (s.put h.1.1 (entT h.2).1) l
theorem puts_seq {st : Oid} {N : List Oid} : ∀ (l : List Tch) (s : St) (F : Oid → AObj), StoP st s N F → SOK s → s.L.length + l.length ≤ 1000000 → (∀ h ∈ l, AppOK h) →
    ∃ Fs : Nat → Oid → AObj, Fs 0 = F ∧ StoP st (putsL s l) N (Fs l.length) ∧ ∀ i, i < l.length → ∀ p, p.mono = false → Old0 p N →
      CallOK Tryz.prog 19 [.ptr st 0, .str (l.getD i default).1.1, (entT (l.getD i default).2).1.av] (Oid.under p) ⟨bk (N, Fs i), .tuple [], sb N (Fs (i + 1))⟩
  | [], s, F, h, _, _, _ => ⟨fun _ => F, rfl, h, fun i hi => absurd hi (by simp)⟩
  | q :: l, s, F, h, hs, hl, hq => by
    have k := hq q List.mem_cons_self
    simp only [List.length_cons] at hl
    obtain ⟨F1, h1, h2⟩ := putP_ok h hs q.1.1 (entT q.2).1
    have hs1 := hs.put q.1.1 (entT q.2).1 (by omega) k.key k.ok k.pos
    obtain ⟨Fs, e0, e1, e2⟩ := puts_seq l _ F1 h1 hs1 (by have : (s.put q.1.1 (entT q.2).1).L.length ≤ s.L.length + 1 := putP_len q.1.1 (entT q.2).1 s.L
                                                          omega) fun h hh => hq h (List.mem_cons_of_mem _ hh)
    refine ⟨fun i => match i with | 0 => F | i + 1 => Fs i, rfl, e1, fun i hi => ?_⟩
    cases i with
    | zero => intro p hp ho; show CallOK _ _ _ _ ⟨bk (N, F), _, sb N (Fs 0)⟩; rw [e0]; exact h2 p hp ho
    | succ i => exact e2 i (by simpa using hi)
theorem blk_keep {a : Oid × AObj} {E : List (Oid × AObj)} {N : List Oid} {F : Oid → AObj} (h : ∀ e ∈ E, e.1 ∉ N) : ∀ i o, Mem.blk [a] [(N, F)] i = some o → Mem.blk (a :: E) [(N, F)] i = some o := by
  intro i o k
  rw [Mem.blk_at] at k ⊢
  split at k
  · rw [if_pos ‹_›]; exact k
  · rw [if_neg ‹_›]
    rw [blk_nil_at] at k
    split at k
    · rename_i hN
      induction E with
      | nil => rw [blk_nil_at, if_pos hN]; exact k
      | cons e E ih => rw [Mem.blk_at, if_neg fun e' : i = e.1 => h e List.mem_cons_self (e' ▸ hN)]; exact ih fun e he => h e (List.mem_cons_of_mem _ he)
    · cases k
theorem blk_keep1 {a : Oid × AObj} {c1 i1 : Nat} {o1 : AObj} {p : Oid} {N : List Oid} {F : Oid → AObj} (h : Old0 p N) : ∀ i o, Mem.blk [a] [(N, F)] i = some o → Mem.blk [a, (.sub c1 i1 p, o1)] [(N, F)] i = some o := blk_keep fun e he => by
  simp only [List.mem_cons, List.not_mem_nil, or_false] at he; rw [he]; exact h.mem
theorem blk_keep2 {a : Oid × AObj} {c1 i1 c2 i2 : Nat} {o1 o2 : AObj} {p : Oid} {N : List Oid} {F : Oid → AObj} (h : Old0 p N) : ∀ i o, Mem.blk [a] [(N, F)] i = some o → Mem.blk [a, (.sub c1 i1 p, o1), (.sub c2 i2 p, o2)] [(N, F)] i = some o := blk_keep fun e he => by
  simp only [List.mem_cons, List.not_mem_nil, or_false] at he; rcases he with rfl | rfl <;> exact h.mem
def rowA (l : List Tch) (i : Nat) : List AV := (l.take i).map (fun h => (entT h.2).1.av) ++ List.replicate (l.length - i) Bits.no.av
theorem rowA0 (l : List Tch) : rowA l 0 = List.replicate l.length Bits.no.av := by simp [rowA]
theorem rowA_len (l : List Tch) {i : Nat} (hi : i ≤ l.length) : (rowA l i).length = l.length := by
  simp only [rowA, List.length_append, List.length_map, List.length_take, List.length_replicate]; omega
theorem rowA_set (l : List Tch) {i : Nat} (hi : i < l.length) : (rowA l i).set i (entT (l.getD i default).2).1.av = rowA l (i + 1) := by
  unfold rowA
  rw [List.set_append_right _ _ (by simp only [List.length_map, List.length_take]; omega), List.take_add_one, List.getElem?_eq_getElem hi]
  simp only [List.length_map, List.length_take, Option.toList_some, List.map_append, List.map_cons, List.map_nil, List.append_assoc]
  rw [show l.length - i = (l.length - (i + 1)) + 1 by omega, List.replicate_succ, Nat.min_eq_left (by omega), Nat.sub_self, List.set_cons_zero, getD_in hi]
  rfl
theorem rowA_all (l : List Tch) {i : Nat} (hi : i < l.length) : (rowA l l.length).getD i .undef = (entT (l.getD i default).2).1.av := by
  unfold rowA
  rw [List.take_length, Nat.sub_self, List.replicate_zero, List.append_nil, getD_in hi, List.getD_eq_getElem?_getD, List.getElem?_map, List.getElem?_eq_getElem hi]
  rfl
theorem applyP_ok {st : Oid} {s : St} {N : List Oid} {F : Oid → AObj} (h : StoP st s N F) (hs : SOK s) (l : List Tch) (hl : s.L.length + l.length ≤ 1000000) (hq : ∀ h ∈ l, AppOK h) :
    ∃ F', StoP st (putsL s l) N F' ∧ ∀ p, p.mono = false → Old0 p N → CallOK Tryz.prog 28 [.ptr st 0, .list 3 (l.map tchAV)] (Oid.under p) ⟨bk (N, F), .int .i64 0, sb N F'⟩ := by
  obtain ⟨Fs, e0, e1, e2⟩ := puts_seq l s F h hs hl hq
  refine ⟨_, e1, fun p hp ho => ?_⟩
  have hl1 : l.length ≤ 1000000 := by omega
  refine fnOK (n := 55) (rs := [.tmp 4]) Tryz.func28 rfl rfl (by decide) rfl rfl rfl ?_; rintro x rfl hrd hng
  rw [blk_s0]
  (try ((first | refine zn ?_ | refine ze ?_ | refine zk ?_); with_reducible (constructor; repeat constructor)); try refine zl ?_)
  refine K_ev nmd [] hng (by kernel_rfl) fun hf C S K hC1 hC hS hK => ?_; simp (disch := first | omega | assumption) only [go_sem]
  refine hK ?_; clear hK hS hC hC1 K S C hf
  (try ((first | refine zn ?_ | refine ze ?_ | refine zk ?_); with_reducible (constructor; repeat constructor)); try refine zl ?_)
  refine K_ev nmd [] hng (by kernel_rfl) fun hf C S K hC1 hC hS hK => ?_; simp (disch := first | omega | assumption) only [go_sem, List.length_map]
  refine hS _ _ _ (fun o' hd ho' => (eff_makeSlice (nid := .sub 1 2 x.p) (n := l.length) (v0 := Bits.no.av) (sz := 3) (bytes := 32) ho' rfl rfl rfl rfl rfl rfl (by omega) (by omega) (by omega) (Oid.under_refl _) rfl).nd) (fun _ h => by cases h) ?_ (fun _ _ h => h.elim)
  rintro _ _ ⟨rfl, rfl⟩
  simp (disch := first | omega | assumption) only [go_sem]
  refine hK ?_; clear hK hS hC hC1 K S C hf
  (repeat (first | (refine K_ifT rfl rfl ?_) | (refine K_ifF rfl rfl ?_) | (refine K_ev nmd [] hng (by kernel_rfl) fun hf C S K hC1 hC hS hK => ?_; simp (disch := first | omega | assumption) only [go_sem, List.length_map]; refine hK ?_; clear hK hS hC hC1 K S C hf) | ((first | refine zn ?_ | refine ze ?_ | refine zk ?_); with_reducible (constructor; repeat constructor); try refine zl ?_)))
  rw [← rowA0]
  refine K_loop [0, 1, 5, 15, 16, 17] (fun k s' => ∃ i c : Nat, s' = ⟨[(0, .ptr st 0), (1, .list 3 (l.map tchAV)), (5, .sl (.sub 1 2 x.p) 3 l.length), (15, .list 3 (l.map tchAV)), (16, .int .i64 l.length), (17, .int .i64 i)], Mem.blk [(.sub 1 2 x.p, .arr 3 (rowA l i))] [(N, F)], c, []⟩ ∧ k = l.length - i ∧ i ≤ l.length ∧ 2 < c) _ ⟨0, _, rfl, rfl, Nat.zero_le _, by omega⟩ ?_
  rintro k s' ⟨i, c, rfl, rfl, hi, hc2⟩
  (repeat (first | (refine K_ifT rfl rfl ?_) | (refine K_ifF rfl rfl ?_) | (refine K_ev nmd [] hng (by kernel_rfl) fun hf C S K hC1 hC hS hK => ?_; simp (disch := first | omega | assumption) only [go_sem]; refine hK ?_; clear hK hS hC hC1 K S C hf) | ((first | refine zn ?_ | refine ze ?_ | refine zk ?_); with_reducible (constructor; repeat constructor); try refine zl ?_)))
  refine K_ifd rfl rfl (fun hb => ?_) (fun hb => ?_)
  · have hlt : i < l.length := by omega
    have kq := hq (l.getD i default) (by rw [getD_in hlt]; exact List.getElem_mem hlt)
    have he := fun p hp => entry_ok (l.getD i default).2 kq.len p hp
    have hz := kq.fine
    have hpl := kq.plain
    have hst := rowA_set l hlt
    have hrl := rowA_len l hi
    generalize hg : l.getD i default = g at he hz hpl hst
    obtain ⟨⟨gn, gf⟩, gv⟩ := g
    simp only at he hz hpl hst
    subst hpl
    generalize entT gv = E at he hz hst
    obtain ⟨e1, e2⟩ := E
    simp only at he hz hst
    subst hz
    obtain ⟨ek, em, el⟩ := e1
    simp only [Bits.av] at he hst
    (repeat (first | (refine K_ifT rfl rfl ?_) | (refine K_ifF rfl rfl ?_) | (refine K_ev nmd [] hng (by kernel_rfl) fun hf C S K hC1 hC hS hK => ?_; simp (disch := first | omega | assumption) only [go_sem, hg, tchAV, AV.cells, List.length_map]; refine hK ?_; clear hK hS hC hC1 K S C hf) | ((first | refine zn ?_ | refine ze ?_ | refine zk ?_); with_reducible (constructor; repeat constructor); try refine zl ?_)))
    refine K_ev nmd [] hng (by kernel_rfl) fun hf C S K hC1 hC hS hK => ?_; simp (disch := first | omega | assumption) only [go_sem]
    refine hC1 _ (he _ (mono_sub' rfl hp)) (by simp (disch := first | omega | assumption) only [go_sem]) ?_
    simp (disch := first | omega | assumption) only [go_sem, AV.cells]
    refine hK ?_; clear hK hS hC hC1 K S C hf
    (try ((first | refine zn ?_ | refine ze ?_ | refine zk ?_); with_reducible (constructor; repeat constructor)); try refine zl ?_)
    refine K_ev nmd [(2, 30)] hng (by kernel_rfl) fun hf C S K hC1 hC hS hK => ?_; simp (disch := first | omega | assumption) only [go_sem, decide_true, decide_false, ne_eq, not_true_eq_false, not_false_eq_true]
    (repeat' (first | (refine evG_split (fun hv => ?_) (fun hv => ?_) <;> (try simp only [zb1, zb2, zb3, zb4, zb5] at hv) <;> simp (disch := first | omega | assumption) only [go_sem, hv, decide_true, decide_false, ne_eq, not_true_eq_false, not_false_eq_true]) | (refine hK ?_; clear hK hS hC hC1 K S C hf)))
    (repeat (first | (refine K_ifT rfl rfl ?_) | (refine K_ifF rfl rfl ?_) | (refine K_ev nmd [] hng (by kernel_rfl) fun hf C S K hC1 hC hS hK => ?_; simp (disch := first | omega | assumption) only [go_sem]; refine hK ?_; clear hK hS hC hC1 K S C hf) | ((first | refine zn ?_ | refine ze ?_ | refine zk ?_); with_reducible (constructor; repeat constructor); try refine zl ?_)))
    refine K_ev nmd [] hng (by kernel_rfl) fun hf C S K hC1 hC hS hK => ?_; simp (disch := first | omega | assumption) only [go_sem, hrl, hlt]
    simp (disch := first | omega | assumption) only [go_sem, hst, hrl, hlt]
    refine hK ?_; clear hK hS hC hC1 K S C hf
    (repeat (first | (refine K_ifT rfl rfl ?_) | (refine K_ifF rfl rfl ?_) | (refine K_ev nmd [] hng (by kernel_rfl) fun hf C S K hC1 hC hS hK => ?_; simp (disch := first | omega | assumption) only [go_sem]; refine hK ?_; clear hK hS hC hC1 K S C hf) | ((first | refine zn ?_ | refine ze ?_ | refine zk ?_); with_reducible (constructor; repeat constructor); try refine zl ?_)))
    exact ⟨_, Mem.blk [(.sub 1 2 x.p, .arr 3 (rowA l (i + 1)))] [(N, F)], by omega, blk_keep2 ho, i + 1, _, rfl, rfl, by omega, by omega⟩
  · obtain rfl : i = l.length := by omega
    (repeat (first | (refine K_ifT rfl rfl ?_) | (refine K_ifF rfl rfl ?_) | (refine K_ev nmd [] hng (by kernel_rfl) fun hf C S K hC1 hC hS hK => ?_; simp (disch := first | omega | assumption) only [go_sem, List.length_map]; refine hK ?_; clear hK hS hC hC1 K S C hf) | ((first | refine zn ?_ | refine ze ?_ | refine zk ?_); with_reducible (constructor; repeat constructor); try refine zl ?_)))
    rw [← e0]
    refine K_loop [0, 5, 39, 40, 41] (fun k s' => ∃ i c : Nat, s' = ⟨[(0, .ptr st 0), (5, .sl (.sub 1 2 x.p) 3 l.length), (39, .list 3 (l.map tchAV)), (40, .int .i64 l.length), (41, .int .i64 i)], Mem.blk [(.sub 1 2 x.p, .arr 3 (rowA l l.length))] [(N, Fs i)], c, []⟩ ∧ k = l.length - i ∧ i ≤ l.length ∧ 2 < c) _ ⟨0, _, rfl, rfl, Nat.zero_le _, by omega⟩ ?_
    rintro k s' ⟨i, c, rfl, rfl, hi, hc2⟩
    (repeat (first | (refine K_ifT rfl rfl ?_) | (refine K_ifF rfl rfl ?_) | (refine K_ev nmd [] hng (by kernel_rfl) fun hf C S K hC1 hC hS hK => ?_; simp (disch := first | omega | assumption) only [go_sem]; refine hK ?_; clear hK hS hC hC1 K S C hf) | ((first | refine zn ?_ | refine ze ?_ | refine zk ?_); with_reducible (constructor; repeat constructor); try refine zl ?_)))
    refine K_ifd rfl rfl (fun hb => ?_) (fun hb => ?_)
    · have hlt : i < l.length := by omega
      have hr := rowA_all l hlt
      have hrl := rowA_len l (Nat.le_refl l.length)
      have hp2 := e2 i hlt
      generalize hg : l.getD i default = g at hr hp2
      obtain ⟨⟨gn, gf⟩, gv⟩ := g
      simp only at hr hp2
      generalize (entT gv).1 = E at hr hp2
      obtain ⟨ek, em, el⟩ := E
      simp only [Bits.av] at hr hp2
      (repeat (first | (refine K_ifT rfl rfl ?_) | (refine K_ifF rfl rfl ?_) | (refine K_ev nmd [] hng (by kernel_rfl) fun hf C S K hC1 hC hS hK => ?_; simp (disch := first | omega | assumption) only [go_sem, hg, tchAV, AV.cells, List.length_map]; refine hK ?_; clear hK hS hC hC1 K S C hf) | ((first | refine zn ?_ | refine ze ?_ | refine zk ?_); with_reducible (constructor; repeat constructor); try refine zl ?_)))
      refine K_evd nmd [] [] mixed hng (by kernel_rfl) [0, 5, 39, 40, 41] fun hf C S K hC hS hK => ?_; simp (disch := first | omega | assumption) only [go_sem, hr, hrl, hlt, hg, tchAV, AV.cells]
      refine hC _ (hp2 _ (mono_sub' rfl hp) (ho.sub _ _)) (by show ∀ q, q ∈ bk _ → _; rw [need_S ho, need_S ho, need_0]; trivial) ?_
      simp (disch := first | omega | assumption) only [go_sem, ho]
      (first | refine hK (dynN_quiet rfl) ?_ | refine hK (by simp (disch := first | omega | assumption) only [go_sem, List.reverse_cons, List.reverse_nil, ne_eq, not_false_eq_true, implies_true]) ?_); clear hK hS hC K S C hf
      (repeat (first | (refine K_ifT rfl rfl ?_) | (refine K_ifF rfl rfl ?_) | (refine K_ev nmd [] hng (by kernel_rfl) fun hf C S K hC1 hC hS hK => ?_; simp (disch := first | omega | assumption) only [go_sem]; refine hK ?_; clear hK hS hC hC1 K S C hf) | ((first | refine zn ?_ | refine ze ?_ | refine zk ?_); with_reducible (constructor; repeat constructor); try refine zl ?_)))
      exact ⟨_, Mem.blk [(.sub 1 2 x.p, .arr 3 (rowA l l.length))] [(N, Fs (i + 1))], by omega, blk_keep1 ho, i + 1, _, rfl, rfl, by omega, by omega⟩
    · obtain rfl : i = l.length := by omega
      (repeat (first | (refine K_ifT rfl rfl ?_) | (refine K_ifF rfl rfl ?_) | (refine K_ev nmd [] hng (by kernel_rfl) fun hf C S K hC1 hC hS hK => ?_; simp (disch := first | omega | assumption) only [go_sem]; refine hK ?_; clear hK hS hC hC1 K S C hf) | ((first | refine zn ?_ | refine ze ?_ | refine zk ?_); with_reducible (constructor; repeat constructor); try refine zl ?_)))
      refine K_ret (done_b0 rfl ?_)
      rw [need_S ho, need_0]; trivial
end Go.Proofs.YtaecbmbecofijaaGreatDoor
namespace Go.Proofs.YtaecbmbecofijaaGreatDoor
open Go Go.Ab
set_option maxRecDepth 20000
def EG (b : Bits) : Prop := (1 ≤ b.k ∧ b.k ≤ 3) ∧ (0 ≤ b.m ∧ b.m ≤ 7) ∧ ¬ (b.k = 2 ∧ ¬ b.l = []) ∧ b.l.length ≤ 3
theorem entryB_nat (m k l : UInt8) : (0 ≤ (entryB m k l).k ∧ (entryB m k l).k ≤ 3) ∧ (0 ≤ (entryB m k l).m ∧ (entryB m k l).m ≤ 7) ∧ ¬ ((entryB m k l).k = 2 ∧ ¬ (entryB m k l).l = []) ∧ (entryB m k l).l.length ≤ 3 := by
  have h4 : m.toNat % 4 < 4 := Nat.mod_lt _ (by decide)
  have h8 : k.toNat % 8 < 8 := Nat.mod_lt _ (by decide)
  refine ⟨by simp only [entryB]; omega, by simp only [entryB]; omega, ?_, ?_⟩
  · rintro ⟨h1, h2⟩
    apply h2
    simp only [entryB] at h1 ⊢
    rw [if_neg (by omega)]
  · simp only [entryB]
    split
    · simp only [List.length_drop, List.length_cons, List.length_nil]; omega
    · decide
theorem eg_entry (m k l : UInt8) (h0 : ¬ (entryB m k l).k = 0) : EG (entryB m k l) := by
  obtain ⟨h1, h2, h3, h4⟩ := entryB_nat m k l
  exact ⟨⟨by omega, h1.2⟩, h2, h3, h4⟩
theorem entryB_ok (m k l : UInt8) : (entryB m k l).ok := by
  obtain ⟨h1, h2, h3, h4⟩ := entryB_nat m k l
  exact ⟨⟨by omega, by omega⟩, ⟨by omega, by omega⟩, by omega⟩
theorem pathT_len (i : UInt8) : (pathT i).length ≤ 6 := by
  have h : i.toNat % 10 < 10 := Nat.mod_lt _ (by decide)
  unfold pathT
  generalize i.toNat % 10 = j at h
  have : ∀ j, j < 10 → (paths.getD j default).length ≤ 6 := by decide
  exact this j h
/-- A store of the laws. -/
structure SG (s : St) (n : Nat) : Prop where
  ok : SOK s
  len : s.L.length ≤ n
  key : ∀ q ∈ s.L, q.1.length ≤ 6
  good : ∀ q ∈ s.L, EG q.2
theorem putP_mem' {n : Str} {b : Bits} {L : PL} {q : Str × Bits} (h : q ∈ putP n b L) : (q = (n, b) ∧ ¬ b.k = 0) ∨ q ∈ L := by
  unfold putP at h
  split at h
  · exact .inr h
  · rcases insG_mem h with h | h
    · split at h
      · cases h
      · exact .inl ⟨List.mem_singleton.1 h, ‹_›⟩
    · exact .inr h
theorem SG.put {s : St} {n : Nat} (h : SG s n) (hn : n < 1000000) (i m k l : UInt8) : SG (s.put (pathT i) (entryB m k l)) (n + 1) :=
  ⟨h.ok.put _ _ (Nat.lt_of_le_of_lt h.len hn) (Nat.le_trans (pathT_len i) (by decide)) (entryB_ok m k l) ⟨(entryB_nat m k l).1.1, (entryB_nat m k l).2.1.1⟩,
   Nat.le_trans (putP_len (pathT i) (entryB m k l) s.L) (Nat.succ_le_succ h.len),
   fun q hq => by
    rcases putP_mem' hq with ⟨rfl, _⟩ | hq
    · exact pathT_len i
    · exact h.key q hq,
   fun q hq => by
    rcases putP_mem' hq with ⟨rfl, h0⟩ | hq
    · exact eg_entry m k l h0
    · exact h.good q hq⟩
theorem SG.mono {s : St} {n m : Nat} (h : SG s n) (hn : n ≤ m) : SG s m := ⟨h.ok, Nat.le_trans h.len hn, h.key, h.good⟩
theorem SG.read {s : St} {n : Nat} (h : SG s n) (f : Str × Bool) : SG (s.read f) n := ⟨h.ok.read f, h.len, h.key, h.good⟩
theorem SG.begin {s : St} {n : Nat} (h : SG s n) : SG s.begin n := ⟨h.ok.begin, h.len, h.key, h.good⟩
theorem SG.halt {s : St} {n : Nat} (h : SG s n) : SG s.halt n := ⟨h.ok.halt, h.len, h.key, h.good⟩
/-- A store that notes since it was L0. -/
structure TG (L0 : PL) (s : St) (n : Nat) (q : Tr) : Prop where
  t : s.t = some q
  old : q.old = L0
  rd : ∀ x ∈ q.R, x.2 = valP L0 x.1 ∧ x.1.1.length ≤ 6
  wr : ∀ n, lookG n q.W = none → lookG n s.L = lookG n L0
  wk : ∀ w ∈ q.W, ¬ w.1 = [] ∧ w.1.length ≤ 6
  rl : q.R.length ≤ n
  wl : q.W.length ≤ n
theorem lookP_put {L : PL} (hs : SortG ltB L) (n m : Str) (b : Bits) : lookG m (putP n b L) = if n = [] then lookG m L else if m = n then (if b.k = 0 then none else some b) else lookG m L := by
  unfold putP
  split
  · rfl
  · exact lookG_ins ordB n m _ hs
theorem TG.begin {s : St} : TG s.L s.begin 0 ⟨s.L, [], []⟩ :=
  ⟨rfl, rfl, fun x hx => (by cases hx), fun _ _ => rfl, fun w hw => (by cases hw), Nat.le_refl _, Nat.le_refl _⟩
theorem TG.mono {L0 : PL} {s : St} {n m : Nat} {q : Tr} (h : TG L0 s n q) (hn : n ≤ m) : TG L0 s m q := ⟨h.t, h.old, h.rd, h.wr, h.wk, Nat.le_trans h.rl hn, Nat.le_trans h.wl hn⟩
theorem TG.read {L0 : PL} {s : St} {n : Nat} {q : Tr} (h : TG L0 s n q) (hs : SOK s) (f : Str × Bool) (hf : f.1.length ≤ 6) : TG L0 (s.read f) (n + 1) (q.read f) := by
  have hT := hs.tr q h.t
  refine ⟨by simp only [St.read, h.t, Option.map_some], h.old, fun x hx => ?_, h.wr, h.wk, Nat.le_trans (readR_len hT.sr) (Nat.succ_le_succ h.rl), Nat.le_succ_of_le h.wl⟩
  have hx' : x ∈ readR q.old q.W f q.R := hx
  unfold readR at hx'
  split at hx'
  · exact h.rd x hx'
  · split at hx'
    · exact h.rd x hx'
    · rcases insG_mem hx' with hx | hx
      · rw [List.mem_singleton.1 hx, h.old]; exact ⟨rfl, hf⟩
      · exact h.rd x hx
theorem TG.put {L0 : PL} {s : St} {n : Nat} {q : Tr} (h : TG L0 s n q) (hs : SOK s) (m : Str) (hm : m.length ≤ 6) (b : Bits) : TG L0 (s.put m b) (n + 1) (q.put m) := by
  have hT := hs.tr q h.t
  refine ⟨by simp only [St.put, h.t, Option.map_some], h.old, h.rd, fun k hk => ?_, fun w hw => ?_, Nat.le_succ_of_le h.rl, Nat.le_trans (putW_len hT.sw) (Nat.succ_le_succ h.wl)⟩
  · have hk' : lookG k (putW true m q.W) = none := hk
    show lookG k (putP m b s.L) = _
    rw [lookP_put hs.sl]
    unfold putW at hk'
    split at hk'
    · rw [if_pos ‹_›]; exact h.wr k hk'
    · rw [if_pos rfl, lookG_ins ordB m k _ hT.sw] at hk'
      split at hk'
      · cases hk'
      · rw [if_neg ‹_›, if_neg ‹_›]; exact h.wr k hk'
  · have hw' : w ∈ putW true m q.W := hw
    unfold putW at hw'
    split at hw'
    · exact h.wk w hw'
    · rw [if_pos rfl] at hw'
      rcases insG_mem hw' with hw | hw
      · rw [List.mem_singleton.1 hw]; exact ⟨‹_›, hm⟩
      · exact h.wk w hw
theorem TG.agrees {L0 : PL} {s : St} {n : Nat} {q : Tr} (h : TG L0 s n q) : (s.reads.all fun x => valP L0 x.1 == x.2) = true := by
  unfold St.reads
  rw [h.t]
  exact List.all_eq_true.2 fun x hx => beq_iff_eq.2 (h.rd x hx).1.symm
end Go.Proofs.YtaecbmbecofijaaGreatDoor
namespace Go.Proofs.YtaecbmbecofijaaGreatDoor
open Go Go.Ab
set_option maxRecDepth 20000
theorem sortP_ext {L L' : PL} (h1 : SortG ltB L) (h2 : SortG ltB L') (h : ∀ n, lookG n L = lookG n L') : L = L' := by
  have n1 := h1.nodup ordB
  have n2 := h2.nodup ordB
  refine sortG_one ordB ((List.perm_ext_iff_of_nodup ((List.pairwise_map.1 n1).imp fun h e => h (congrArg _ e)) ((List.pairwise_map.1 n2).imp fun h e => h (congrArg _ e))).2 fun q => ?_) h1 h2
  obtain ⟨n, b⟩ := q
  rw [← lookG_mem n1, ← lookG_mem n2, h n]
theorem val_len {b : Bits} (h : EG b) : (valT b).length ≤ 4000000000 := by
  obtain ⟨⟨h1, h1'⟩, ⟨h2, h2'⟩, h3, h4⟩ := h
  obtain ⟨k, m, l⟩ := b
  simp only at h1 h1' h2 h2' h3 h4
  obtain ⟨k, rfl⟩ := Int.eq_ofNat_of_zero_le (by omega : 0 ≤ k)
  obtain ⟨m, rfl⟩ := Int.eq_ofNat_of_zero_le h2
  have hv : valT ⟨k, m, l⟩ = encT [Lib.decDigits k, Lib.decDigits m, l] := by
    rw [valT, if_neg (by simp only; omega), Lib.itoa_nonneg, Lib.itoa_nonneg]
  rw [hv]
  have d1 := digits_len 0 k (by omega)
  have d2 := digits_len 0 m (by omega)
  refine Nat.le_trans (encT_le (k := 100) (by decide) fun s hs => ?_) (by show 3 * 200 ≤ 4000000000; decide)
  simp only [List.mem_cons, List.not_mem_nil, or_false] at hs
  rcases hs with rfl | rfl | rfl <;> omega
theorem getP_eg {L : PL} (h : SortG ltB L) (hg : ∀ q ∈ L, EG q.2) {n : Str} (hn : ¬ n = []) : (lookG n L = none ∧ getP L n = Bits.no) ∨ ∃ b, lookG n L = some b ∧ getP L n = b ∧ EG b := by
  unfold getP
  rw [if_neg hn]
  cases hb : lookG n L with
  | none => exact .inl ⟨rfl, rfl⟩
  | some b => exact .inr ⟨b, rfl, rfl, hg _ ((lookG_mem (h.nodup ordB)).1 hb)⟩
theorem ent_get {L : PL} (h : SortG ltB L) (hg : ∀ q ∈ L, EG q.2) {n : Str} (hn : ¬ n = []) : entT (valT (getP L n)) = (getP L n, 0) ∧ (valT (getP L n)).length ≤ 4000000000 := by
  rcases getP_eg h hg hn with ⟨_, e⟩ | ⟨b, _, e, hb⟩
  · rw [e]; exact ⟨rfl, by decide⟩
  · rw [e]; exact ⟨ent_val b hb.1 hb.2.1 hb.2.2.1 (by have := hb.2.2.2; omega), val_len hb⟩
theorem putsL_t : ∀ (l : List Tch) (s : St), s.t = none → (putsL s l).t = none
  | [], _, h => h
  | q :: l, s, h => putsL_t l _ (by simp [St.put, h])
theorem putsL_look {L : PL} (h : SortG ltB L) (hg : ∀ q ∈ L, EG q.2) : ∀ (W : WL) (s : St), SortG ltB s.L → (∀ w ∈ W, ¬ w.1 = []) →
    SortG ltB (putsL s (W.map fun w => ((w.1, false), valT (getP L w.1)))).L ∧ ∀ n, lookG n (putsL s (W.map fun w => ((w.1, false), valT (getP L w.1)))).L = if n ∈ W.map (·.1) then lookG n L else lookG n s.L
  | [], s, hs, _ => ⟨hs, fun n => by simp [putsL]⟩
  | w :: W, s, hs, hw => by
    have hn := hw w List.mem_cons_self
    have he := (ent_get h hg hn).1
    obtain ⟨k1, k2⟩ := putsL_look h hg W (s.put w.1 (getP L w.1)) (putP_sort hs _ _) fun w' h' => hw w' (List.mem_cons_of_mem _ h')
    simp only [List.map_cons, putsL, he]
    refine ⟨k1, fun n => ?_⟩
    rw [k2 n]
    by_cases h1 : n ∈ W.map (·.1)
    · rw [if_pos h1, if_pos (List.mem_cons_of_mem _ h1)]
    · rw [if_neg h1]
      show lookG n (putP w.1 (getP L w.1) s.L) = _
      rw [lookP_put hs, if_neg hn]
      by_cases h2 : n = w.1
      · subst h2
        rw [if_pos rfl, if_pos List.mem_cons_self]
        rcases getP_eg h hg hn with ⟨e1, e⟩ | ⟨b, e1, e, hb⟩
        · rw [e, e1]; rfl
        · rw [e, e1, if_neg (by have := hb.1.1; omega)]
      · rw [if_neg h2, if_neg fun h3 => by
          rcases List.mem_cons.1 h3 with h3 | h3
          · exact h2 h3
          · exact h1 h3]
theorem TG.same {L0 : PL} {s : St} {n m : Nat} {q : Tr} (h : TG L0 s n q) (hs : SG s m) (h0 : SortG ltB L0) : putsL ⟨L0, none⟩ s.writes = ⟨s.L, none⟩ := by
  unfold St.writes
  rw [h.t]
  obtain ⟨k1, k2⟩ := putsL_look hs.ok.sl hs.good q.W ⟨L0, none⟩ h0 fun w hw => (h.wk w hw).1
  have k3 := putsL_t (q.W.map fun w => ((w.1, false), valT (getP s.L w.1))) ⟨L0, none⟩ rfl
  simp only
  generalize putsL ⟨L0, none⟩ (q.W.map fun w => ((w.1, false), valT (getP s.L w.1))) = z at k1 k2 k3
  obtain ⟨zL, zt⟩ := z
  simp only at k1 k2 k3
  subst k3
  congr 1
  refine sortP_ext k1 hs.ok.sl fun n => ?_
  rw [k2 n]
  split
  · rfl
  · rename_i hn
    refine (h.wr n ?_).symm
    cases hl : lookG n q.W with
    | none => rfl
    | some u => exact absurd (List.mem_map.2 ⟨(n, u), (lookG_mem ((hs.ok.tr q h.t).sw.nodup ordB)).1 hl, rfl⟩) hn
theorem TG.app {L0 : PL} {s : St} {n m : Nat} {q : Tr} (h : TG L0 s n q) (hs : SG s m) : ∀ x ∈ s.writes, AppOK x := by
  unfold St.writes
  rw [h.t]
  intro x hx
  obtain ⟨w, hw, rfl⟩ := List.mem_map.1 hx
  obtain ⟨hn, hl⟩ := h.wk w hw
  obtain ⟨e1, e2⟩ := ent_get hs.ok.sl hs.good hn
  refine ⟨Nat.le_trans hl (by decide), e2, ?_, ?_, ?_, rfl⟩
  · rw [e1]; exact getP_ok hs.ok.po w.1
  · rw [e1]; exact getP_nat hs.ok.no w.1
  · rw [e1]
end Go.Proofs.YtaecbmbecofijaaGreatDoor
namespace Go.Proofs.YtaecbmbecofijaaGreatDoor
open Go Go.Ab
set_option maxRecDepth 20000
set_option maxHeartbeats 4000000
def goodT (h : Tch) : Bool := decide ((entT h.2).2 = 0) && !h.1.2
theorem applyBad_ok (st : Oid) (l : List Tch) (hl1 : l.length ≤ 1000000) (hlen : ∀ h ∈ l, h.2.length ≤ 4000000000) (hbad : l.all goodT = false) (p : Oid) (hp : p.mono = false) :
    CallOK Tryz.prog 28 [.ptr st 0, .list 3 (l.map tchAV)] (Oid.under p) ⟨[], .int .i64 20, []⟩ := by
  refine fnOK (n := 55) (rs := [.tmp 4]) Tryz.func28 rfl rfl (by decide) rfl rfl rfl ?_; rintro x rfl hrd hng
  (try ((first | refine zn ?_ | refine ze ?_ | refine zk ?_); with_reducible (constructor; repeat constructor)); try refine zl ?_)
  refine K_ev nmd [] hng (by kernel_rfl) fun hf C S K hC1 hC hS hK => ?_; simp (disch := first | omega | assumption) only [go_sem]
  refine hK ?_; clear hK hS hC hC1 K S C hf
  (try ((first | refine zn ?_ | refine ze ?_ | refine zk ?_); with_reducible (constructor; repeat constructor)); try refine zl ?_)
  refine K_ev nmd [] hng (by kernel_rfl) fun hf C S K hC1 hC hS hK => ?_; simp (disch := first | omega | assumption) only [go_sem, List.length_map]
  refine hS _ _ _ (fun o' hd ho' => (eff_makeSlice (nid := .sub 1 2 x.p) (n := l.length) (v0 := Bits.no.av) (sz := 3) (bytes := 32) ho' rfl rfl rfl rfl rfl rfl (by omega) (by omega) (by omega) (Oid.under_refl _) rfl).nd) (fun _ h => by cases h) ?_ (fun _ _ h => h.elim)
  rintro _ _ ⟨rfl, rfl⟩
  simp (disch := first | omega | assumption) only [go_sem]
  refine hK ?_; clear hK hS hC hC1 K S C hf
  (repeat (first | (refine K_ifT rfl rfl ?_) | (refine K_ifF rfl rfl ?_) | (refine K_ev nmd [] hng (by kernel_rfl) fun hf C S K hC1 hC hS hK => ?_; simp (disch := first | omega | assumption) only [go_sem, List.length_map]; refine hK ?_; clear hK hS hC hC1 K S C hf) | ((first | refine zn ?_ | refine ze ?_ | refine zk ?_); with_reducible (constructor; repeat constructor); try refine zl ?_)))
  rw [← rowA0]
  refine K_loop [0, 1, 5, 15, 16, 17] (fun k s' => ∃ i c : Nat, s' = ⟨[(0, .ptr st 0), (1, .list 3 (l.map tchAV)), (5, .sl (.sub 1 2 x.p) 3 l.length), (15, .list 3 (l.map tchAV)), (16, .int .i64 l.length), (17, .int .i64 i)], Mem.of [(.sub 1 2 x.p, .arr 3 (rowA l i))], c, []⟩ ∧ k = l.length - i ∧ i ≤ l.length ∧ 2 < c ∧ (l.take i).all goodT = true) _ ⟨0, _, rfl, rfl, Nat.zero_le _, by omega, by simp⟩ ?_
  rintro k s' ⟨i, c, rfl, rfl, hi, hc2, hgd⟩
  (repeat (first | (refine K_ifT rfl rfl ?_) | (refine K_ifF rfl rfl ?_) | (refine K_ev nmd [] hng (by kernel_rfl) fun hf C S K hC1 hC hS hK => ?_; simp (disch := first | omega | assumption) only [go_sem]; refine hK ?_; clear hK hS hC hC1 K S C hf) | ((first | refine zn ?_ | refine ze ?_ | refine zk ?_); with_reducible (constructor; repeat constructor); try refine zl ?_)))
  refine K_ifd rfl rfl (fun hb => ?_) (fun hb => ?_)
  · have hlt : i < l.length := by omega
    have he := fun p hp => entry_ok (l.getD i default).2 (hlen _ (by rw [getD_in hlt]; exact List.getElem_mem hlt)) p hp
    have hst := rowA_set l hlt
    have hrl := rowA_len l hi
    have hgs : (l.take (i + 1)).all goodT = (decide ((entT (l.getD i default).2).2 = 0) && !(l.getD i default).1.2) := by
      rw [List.take_add_one, List.all_append, hgd, List.getElem?_eq_getElem hlt, getD_in hlt]; simp [goodT]
    generalize hg : l.getD i default = g at he hst hgs
    obtain ⟨⟨gn, gf⟩, gv⟩ := g
    simp only at he hst hgs
    generalize entT gv = E at he hst hgs
    obtain ⟨⟨ek, em, el⟩, e2⟩ := E
    simp only [Bits.av] at he hst hgs
    (repeat (first | (refine K_ifT rfl rfl ?_) | (refine K_ifF rfl rfl ?_) | (refine K_ev nmd [] hng (by kernel_rfl) fun hf C S K hC1 hC hS hK => ?_; simp (disch := first | omega | assumption) only [go_sem, hg, tchAV, AV.cells, List.length_map]; refine hK ?_; clear hK hS hC hC1 K S C hf) | ((first | refine zn ?_ | refine ze ?_ | refine zk ?_); with_reducible (constructor; repeat constructor); try refine zl ?_)))
    refine K_ev nmd [] hng (by kernel_rfl) fun hf C S K hC1 hC hS hK => ?_; simp (disch := first | omega | assumption) only [go_sem]
    refine hC1 _ (he _ (mono_sub' rfl hp)) (by simp (disch := first | omega | assumption) only [go_sem]) ?_
    simp (disch := first | omega | assumption) only [go_sem, AV.cells]
    refine hK ?_; clear hK hS hC hC1 K S C hf
    (try ((first | refine zn ?_ | refine ze ?_ | refine zk ?_); with_reducible (constructor; repeat constructor)); try refine zl ?_)
    by_cases h0 : e2 = 0
    · subst h0
      refine K_ev nmd [(2, 30)] hng (by kernel_rfl) fun hf C S K hC1 hC hS hK => ?_; simp (disch := first | omega | assumption) only [go_sem, decide_true, decide_false, ne_eq, not_true_eq_false, not_false_eq_true]
      (repeat' (first | (refine evG_split (fun hv => ?_) (fun hv => ?_) <;> (try simp only [zb1, zb2, zb3, zb4, zb5] at hv) <;> simp (disch := first | omega | assumption) only [go_sem, hv, decide_true, decide_false, ne_eq, not_true_eq_false, not_false_eq_true]) | (refine hK ?_; clear hK hS hC hC1 K S C hf)))
      cases gf with
      | true =>
        (repeat (first | (refine K_ifT rfl rfl ?_) | (refine K_ifF rfl rfl ?_) | (refine K_ev nmd [] hng (by kernel_rfl) fun hf C S K hC1 hC hS hK => ?_; simp (disch := first | omega | assumption) only [go_sem]; refine hK ?_; clear hK hS hC hC1 K S C hf) | ((first | refine zn ?_ | refine ze ?_ | refine zk ?_); with_reducible (constructor; repeat constructor); try refine zl ?_)))
        exact K_ret (done1 rfl)
      | false =>
        (repeat (first | (refine K_ifT rfl rfl ?_) | (refine K_ifF rfl rfl ?_) | (refine K_ev nmd [] hng (by kernel_rfl) fun hf C S K hC1 hC hS hK => ?_; simp (disch := first | omega | assumption) only [go_sem]; refine hK ?_; clear hK hS hC hC1 K S C hf) | ((first | refine zn ?_ | refine ze ?_ | refine zk ?_); with_reducible (constructor; repeat constructor); try refine zl ?_)))
        refine K_ev nmd [] hng (by kernel_rfl) fun hf C S K hC1 hC hS hK => ?_; simp (disch := first | omega | assumption) only [go_sem, hrl, hlt]
        simp (disch := first | omega | assumption) only [go_sem, hst, hrl, hlt]
        refine hK ?_; clear hK hS hC hC1 K S C hf
        (repeat (first | (refine K_ifT rfl rfl ?_) | (refine K_ifF rfl rfl ?_) | (refine K_ev nmd [] hng (by kernel_rfl) fun hf C S K hC1 hC hS hK => ?_; simp (disch := first | omega | assumption) only [go_sem]; refine hK ?_; clear hK hS hC hC1 K S C hf) | ((first | refine zn ?_ | refine ze ?_ | refine zk ?_); with_reducible (constructor; repeat constructor); try refine zl ?_)))
        exact ⟨_, Mem.of [(.sub 1 2 x.p, .arr 3 (rowA l (i + 1)))], by omega, mem_sub (by simp only [fa_cons, fa_nil, Mem.of_cons_at, Mem.of_nil_at, Mem.of_upds, Mem.of_putL, putLs, putL, List.cons_append, List.nil_append, List.append_nil, ↓reduceIte, eq_self, and_true, true_and, and_self, and_false, false_and, reduceCtorEq, Oid.sub.injEq, Nat.reduceEqDiff]), i + 1, _, rfl, rfl, by omega, by omega, by rw [hgs]; rfl⟩
    · refine K_ev nmd [(2, 30)] hng (by kernel_rfl) fun hf C S K hC1 hC hS hK => ?_; simp (disch := first | omega | assumption) only [go_sem, h0, decide_true, decide_false, ne_eq, not_true_eq_false, not_false_eq_true]
      (repeat' (first | (refine evG_split (fun hv => ?_) (fun hv => ?_) <;> (try simp only [zb1, zb2, zb3, zb4, zb5] at hv) <;> simp (disch := first | omega | assumption) only [go_sem, hv, h0, decide_true, decide_false, ne_eq, not_true_eq_false, not_false_eq_true]) | (refine hK ?_; clear hK hS hC hC1 K S C hf)))
      (repeat (first | (refine K_ifT rfl rfl ?_) | (refine K_ifF rfl rfl ?_) | (refine K_ev nmd [] hng (by kernel_rfl) fun hf C S K hC1 hC hS hK => ?_; simp (disch := first | omega | assumption) only [go_sem]; refine hK ?_; clear hK hS hC hC1 K S C hf) | ((first | refine zn ?_ | refine ze ?_ | refine zk ?_); with_reducible (constructor; repeat constructor); try refine zl ?_)))
      exact K_ret (done1 rfl)
  · obtain rfl : i = l.length := by omega
    rw [List.take_length, hbad] at hgd
    cases hgd
end Go.Proofs.YtaecbmbecofijaaGreatDoor
namespace Go.Proofs.YtaecbmbecofijaaGreatDoor
open Go Go.Ab
set_option maxRecDepth 20000
set_option maxHeartbeats 4000000
theorem blk_keep0 {E : List (Oid × AObj)} {N : List Oid} {F : Oid → AObj} (h : ∀ e ∈ E, e.1 ∉ N) : ∀ i o, Mem.blk [] [(N, F)] i = some o → Mem.blk E [(N, F)] i = some o := by
  intro i o k
  rw [blk_nil_at] at k
  split at k
  · rename_i hN
    induction E with
    | nil => rw [blk_nil_at, if_pos hN]; exact k
    | cons e E ih => rw [Mem.blk_at, if_neg fun e' : i = e.1 => h e List.mem_cons_self (e' ▸ hN)]; exact ih fun e he => h e (List.mem_cons_of_mem _ he)
  · cases k
theorem blk_keep01 {c1 i1 : Nat} {o1 : AObj} {p : Oid} {N : List Oid} {F : Oid → AObj} (h : Old0 p N) : ∀ i o, Mem.blk [] [(N, F)] i = some o → Mem.blk [(.sub c1 i1 p, o1)] [(N, F)] i = some o := blk_keep0 fun e he => by
  simp only [List.mem_cons, List.not_mem_nil, or_false] at he; rw [he]; exact h.mem
theorem putsR_seq {r : Oid} {N : List Oid} : ∀ (l : List Tch) (s : St) (F : Oid → AObj), StoR r s N F → SOK s → s.L.length + l.length ≤ 1000000 → (∀ q, s.t = some q → q.R.length ≤ 1000000 ∧ q.W.length + l.length ≤ 1000000) → (∀ h ∈ l, AppOK h) →
    ∃ Fs : Nat → Oid → AObj, Fs 0 = F ∧ StoR r (putsL s l) N (Fs l.length) ∧ ∀ i, i < l.length → ∀ p, p.mono = false → Old0 p N →
      CallOK Tryz.prog 42 [.ptr r 0, .str (l.getD i default).1.1, (entT (l.getD i default).2).1.av] (Oid.under p) ⟨bk (N, Fs i), .tuple [], sb N (Fs (i + 1))⟩
  | [], s, F, h, _, _, _, _ => ⟨fun _ => F, rfl, h, fun i hi => absurd hi (by simp)⟩
  | q :: l, s, F, h, hs, hl, hR, hq => by
    have k := hq q List.mem_cons_self
    simp only [List.length_cons] at hl
    have hR' : ∀ q, s.t = some q → q.R.length ≤ 1000000 ∧ q.W.length ≤ 1000000 := fun q hq => ⟨(hR q hq).1, by have := (hR q hq).2; omega⟩
    obtain ⟨F1, h1, h2⟩ := putRb_ok h hs hR' q.1.1 (entT q.2).1
    have hs1 := hs.put q.1.1 (entT q.2).1 (by omega) k.key k.ok k.pos
    obtain ⟨Fs, e0, e1, e2⟩ := putsR_seq l _ F1 h1 hs1 (by have : (s.put q.1.1 (entT q.2).1).L.length ≤ s.L.length + 1 := putP_len q.1.1 (entT q.2).1 s.L
                                                           omega) (fun t ht => by
      simp only [St.put, Option.map_eq_some_iff] at ht
      obtain ⟨a, ha, rfl⟩ := ht
      have h1 := hR a ha
      have h2 := putW_len (n := q.1.1) (hs.tr a ha).sw
      simp only [List.length_cons] at h1
      exact ⟨h1.1, by show (putW true q.1.1 a.W).length + _ ≤ _; omega⟩) fun h hh => hq h (List.mem_cons_of_mem _ hh)
    refine ⟨fun i => match i with | 0 => F | i + 1 => Fs i, rfl, e1, fun i hi => ?_⟩
    cases i with
    | zero => intro p hp ho; show CallOK _ _ _ _ ⟨bk (N, F), _, sb N (Fs 0)⟩; rw [e0]; exact h2 p hp ho
    | succ i => exact e2 i (by simpa using hi)
theorem applyR_ok {r : Oid} {s : St} {N : List Oid} {F : Oid → AObj} (h : StoR r s N F) (hs : SOK s) (l : List Tch) (hl : s.L.length + l.length ≤ 1000000) (hR : ∀ q, s.t = some q → q.R.length ≤ 1000000 ∧ q.W.length + l.length ≤ 1000000) (hq : ∀ h ∈ l, AppOK h) :
    ∃ F', StoR r (putsL s l) N F' ∧ ∀ p, p.mono = false → Old0 p N → CallOK Tryz.prog 61 [.ptr r 0, .list 3 (l.map tchAV)] (Oid.under p) ⟨bk (N, F), .int .i64 0, sb N F'⟩ := by
  obtain ⟨Fs, e0, e1, e2⟩ := putsR_seq l s F h hs hl hR hq
  refine ⟨_, e1, fun p hp ho => ?_⟩
  have hl1 : l.length ≤ 1000000 := by omega
  refine fnOK (n := 58) (rs := [.tmp 4]) Tryz.func61 rfl rfl (by decide) rfl rfl rfl ?_; rintro x rfl hrd hng
  rw [blk_s0]
  (repeat (first | (refine K_ifT rfl rfl ?_) | (refine K_ifF rfl rfl ?_) | (refine K_ev nmd [] hng (by kernel_rfl) fun hf C S K hC1 hC hS hK => ?_; simp (disch := first | omega | assumption) only [go_sem]; refine hK ?_; clear hK hS hC hC1 K S C hf) | ((first | refine zn ?_ | refine ze ?_ | refine zk ?_); with_reducible (constructor; repeat constructor); try refine zl ?_)))
  refine K_loop [0, 1, 5] (fun k s' => ∃ i c : Nat, s' = ⟨[(0, .ptr r 0), (1, .list 3 (l.map tchAV)), (5, .int .i64 i)], Mem.blk [] [(N, F)], c, []⟩ ∧ k = l.length - i ∧ i ≤ l.length) _ ⟨0, _, rfl, rfl, Nat.zero_le _⟩ ?_
  rintro k s' ⟨i, c, rfl, rfl, hi⟩
  (repeat (first | (refine K_ifT rfl rfl ?_) | (refine K_ifF rfl rfl ?_) | (refine K_ev nmd [] hng (by kernel_rfl) fun hf C S K hC1 hC hS hK => ?_; simp (disch := first | omega | assumption) only [go_sem, List.length_map]; refine hK ?_; clear hK hS hC hC1 K S C hf) | ((first | refine zn ?_ | refine ze ?_ | refine zk ?_); with_reducible (constructor; repeat constructor); try refine zl ?_)))
  refine K_ifd rfl rfl (fun hb => ?_) (fun hb => ?_)
  · have hlt : i < l.length := by omega
    have kq := hq (l.getD i default) (by rw [getD_in hlt]; exact List.getElem_mem hlt)
    have he := fun p => entryR_ok (l.getD i default).2 kq.len p
    have hz := kq.fine
    have hpl := kq.plain
    generalize hg : l.getD i default = g at he hz hpl
    obtain ⟨⟨gn, gf⟩, gv⟩ := g
    simp only at he hz hpl
    subst hpl
    generalize entT gv = E at he hz
    obtain ⟨⟨ek, em, el⟩, e2⟩ := E
    simp only [Bits.av] at he hz
    subst hz
    (try ((first | refine zn ?_ | refine ze ?_ | refine zk ?_); with_reducible (constructor; repeat constructor)); try refine zl ?_)
    refine K_ev nmd [] hng (by kernel_rfl) fun hf C S K hC1 hC hS hK => ?_; simp (disch := first | omega | assumption) only [go_sem, hg, tchAV, AV.cells, List.length_map]
    refine hC1 _ (he _) (by simp (disch := first | omega | assumption) only [go_sem]) ?_
    simp (disch := first | omega | assumption) only [go_sem, AV.cells]
    refine hK ?_; clear hK hS hC hC1 K S C hf
    (try ((first | refine zn ?_ | refine ze ?_ | refine zk ?_); with_reducible (constructor; repeat constructor)); try refine zl ?_)
    refine K_ev nmd [(2, 28)] hng (by kernel_rfl) fun hf C S K hC1 hC hS hK => ?_; simp (disch := first | omega | assumption) only [go_sem, hg, tchAV, AV.cells, List.length_map, decide_true, decide_false, ne_eq, not_true_eq_false, not_false_eq_true]
    (repeat' (first | (refine evG_split (fun hv => ?_) (fun hv => ?_) <;> (try simp only [zb1, zb2, zb3, zb4, zb5] at hv) <;> simp (disch := first | omega | assumption) only [go_sem, hv, hg, tchAV, AV.cells, List.length_map, decide_true, decide_false, ne_eq, not_true_eq_false, not_false_eq_true]) | (refine hK ?_; clear hK hS hC hC1 K S C hf)))
    (repeat (first | (refine K_ifT rfl rfl ?_) | (refine K_ifF rfl rfl ?_) | (refine K_ev nmd [] hng (by kernel_rfl) fun hf C S K hC1 hC hS hK => ?_; simp (disch := first | omega | assumption) only [go_sem]; refine hK ?_; clear hK hS hC hC1 K S C hf) | ((first | refine zn ?_ | refine ze ?_ | refine zk ?_); with_reducible (constructor; repeat constructor); try refine zl ?_)))
    exact ⟨_, Mem.blk [] [(N, F)], by omega, blk_keep01 ho, i + 1, _, rfl, rfl, by omega⟩
  · obtain rfl : i = l.length := by omega
    (repeat (first | (refine K_ifT rfl rfl ?_) | (refine K_ifF rfl rfl ?_) | (refine K_ev nmd [] hng (by kernel_rfl) fun hf C S K hC1 hC hS hK => ?_; simp (disch := first | omega | assumption) only [go_sem, List.length_map]; refine hK ?_; clear hK hS hC hC1 K S C hf) | ((first | refine zn ?_ | refine ze ?_ | refine zk ?_); with_reducible (constructor; repeat constructor); try refine zl ?_)))
    rw [← e0]
    refine K_loop [0, 1, 8] (fun k s' => ∃ i c : Nat, s' = ⟨[(0, .ptr r 0), (1, .list 3 (l.map tchAV)), (8, .int .i64 i)], Mem.blk [] [(N, Fs i)], c, []⟩ ∧ k = l.length - i ∧ i ≤ l.length) _ ⟨0, _, rfl, rfl, Nat.zero_le _⟩ ?_
    rintro k s' ⟨i, c, rfl, rfl, hi⟩
    (repeat (first | (refine K_ifT rfl rfl ?_) | (refine K_ifF rfl rfl ?_) | (refine K_ev nmd [] hng (by kernel_rfl) fun hf C S K hC1 hC hS hK => ?_; simp (disch := first | omega | assumption) only [go_sem, List.length_map]; refine hK ?_; clear hK hS hC hC1 K S C hf) | ((first | refine zn ?_ | refine ze ?_ | refine zk ?_); with_reducible (constructor; repeat constructor); try refine zl ?_)))
    refine K_ifd rfl rfl (fun hb => ?_) (fun hb => ?_)
    · have hlt : i < l.length := by omega
      have hp2 := e2 i hlt
      have he := fun p => entryR_ok (l.getD i default).2 (hq _ (by rw [getD_in hlt]; exact List.getElem_mem hlt)).len p
      generalize hg : l.getD i default = g at he hp2
      obtain ⟨⟨gn, gf⟩, gv⟩ := g
      simp only at he hp2
      generalize entT gv = E at he hp2
      obtain ⟨⟨ek, em, el⟩, e2⟩ := E
      simp only [Bits.av] at he hp2
      (try ((first | refine zn ?_ | refine ze ?_ | refine zk ?_); with_reducible (constructor; repeat constructor)); try refine zl ?_)
      refine K_ev nmd [] hng (by kernel_rfl) fun hf C S K hC1 hC hS hK => ?_; simp (disch := first | omega | assumption) only [go_sem, hg, tchAV, AV.cells, List.length_map]
      refine hC1 _ (he _) (by simp (disch := first | omega | assumption) only [go_sem]) ?_
      simp (disch := first | omega | assumption) only [go_sem, AV.cells]
      refine hK ?_; clear hK hS hC hC1 K S C hf
      (try ((first | refine zn ?_ | refine ze ?_ | refine zk ?_); with_reducible (constructor; repeat constructor)); try refine zl ?_)
      refine K_evd nmd [] [] mixed hng (by kernel_rfl) [0, 1, 8] fun hf C S K hC hS hK => ?_; simp (disch := first | omega | assumption) only [go_sem, hg, tchAV, AV.cells, List.length_map]
      refine hC _ (hp2 _ (mono_sub' rfl hp) (ho.sub _ _)) (by show ∀ q, q ∈ bk _ → _; rw [need_S ho, need_0]; trivial) ?_
      simp (disch := first | omega | assumption) only [go_sem, ho]
      (first | refine hK (dynN_quiet rfl) ?_ | refine hK (by simp (disch := first | omega | assumption) only [go_sem, List.reverse_cons, List.reverse_nil, ne_eq, not_false_eq_true, implies_true]) ?_); clear hK hS hC K S C hf
      (repeat (first | (refine K_ifT rfl rfl ?_) | (refine K_ifF rfl rfl ?_) | (refine K_ev nmd [] hng (by kernel_rfl) fun hf C S K hC1 hC hS hK => ?_; simp (disch := first | omega | assumption) only [go_sem]; refine hK ?_; clear hK hS hC hC1 K S C hf) | ((first | refine zn ?_ | refine ze ?_ | refine zk ?_); with_reducible (constructor; repeat constructor); try refine zl ?_)))
      exact ⟨_, Mem.blk [] [(N, Fs (i + 1))], by omega, blk_keep01 ho, i + 1, _, rfl, rfl, by omega⟩
    · obtain rfl : i = l.length := by omega
      (repeat (first | (refine K_ifT rfl rfl ?_) | (refine K_ifF rfl rfl ?_) | (refine K_ev nmd [] hng (by kernel_rfl) fun hf C S K hC1 hC hS hK => ?_; simp (disch := first | omega | assumption) only [go_sem]; refine hK ?_; clear hK hS hC hC1 K S C hf) | ((first | refine zn ?_ | refine ze ?_ | refine zk ?_); with_reducible (constructor; repeat constructor); try refine zl ?_)))
      refine K_ret (done_b0 rfl ?_)
      rw [need_0]; trivial
theorem applyRbad_ok (r : Oid) (l : List Tch) (hl1 : l.length ≤ 1000000) (hlen : ∀ h ∈ l, h.2.length ≤ 4000000000) (hbad : l.all goodT = false) (p : Oid) (hp : p.mono = false) :
    CallOK Tryz.prog 61 [.ptr r 0, .list 3 (l.map tchAV)] (Oid.under p) ⟨[], .int .i64 20, []⟩ := by
  refine fnOK (n := 58) (rs := [.tmp 4]) Tryz.func61 rfl rfl (by decide) rfl rfl rfl ?_; rintro x rfl hrd hng
  (repeat (first | (refine K_ifT rfl rfl ?_) | (refine K_ifF rfl rfl ?_) | (refine K_ev nmd [] hng (by kernel_rfl) fun hf C S K hC1 hC hS hK => ?_; simp (disch := first | omega | assumption) only [go_sem]; refine hK ?_; clear hK hS hC hC1 K S C hf) | ((first | refine zn ?_ | refine ze ?_ | refine zk ?_); with_reducible (constructor; repeat constructor); try refine zl ?_)))
  refine K_loop [0, 1, 5] (fun k s' => ∃ i c : Nat, s' = ⟨[(0, .ptr r 0), (1, .list 3 (l.map tchAV)), (5, .int .i64 i)], Mem.of [], c, []⟩ ∧ k = l.length - i ∧ i ≤ l.length ∧ (l.take i).all goodT = true) _ ⟨0, _, rfl, rfl, Nat.zero_le _, by simp⟩ ?_
  rintro k s' ⟨i, c, rfl, rfl, hi, hgd⟩
  (repeat (first | (refine K_ifT rfl rfl ?_) | (refine K_ifF rfl rfl ?_) | (refine K_ev nmd [] hng (by kernel_rfl) fun hf C S K hC1 hC hS hK => ?_; simp (disch := first | omega | assumption) only [go_sem, List.length_map]; refine hK ?_; clear hK hS hC hC1 K S C hf) | ((first | refine zn ?_ | refine ze ?_ | refine zk ?_); with_reducible (constructor; repeat constructor); try refine zl ?_)))
  refine K_ifd rfl rfl (fun hb => ?_) (fun hb => ?_)
  · have hlt : i < l.length := by omega
    have he := fun p => entryR_ok (l.getD i default).2 (hlen _ (by rw [getD_in hlt]; exact List.getElem_mem hlt)) p
    have hgs : (l.take (i + 1)).all goodT = (decide ((entT (l.getD i default).2).2 = 0) && !(l.getD i default).1.2) := by
      rw [List.take_add_one, List.all_append, hgd, List.getElem?_eq_getElem hlt, getD_in hlt]; simp [goodT]
    generalize hg : l.getD i default = g at he hgs
    obtain ⟨⟨gn, gf⟩, gv⟩ := g
    simp only at he hgs
    generalize entT gv = E at he hgs
    obtain ⟨⟨ek, em, el⟩, e2⟩ := E
    simp only [Bits.av] at he hgs
    (try ((first | refine zn ?_ | refine ze ?_ | refine zk ?_); with_reducible (constructor; repeat constructor)); try refine zl ?_)
    refine K_ev nmd [] hng (by kernel_rfl) fun hf C S K hC1 hC hS hK => ?_; simp (disch := first | omega | assumption) only [go_sem, hg, tchAV, AV.cells, List.length_map]
    refine hC1 _ (he _) (by simp (disch := first | omega | assumption) only [go_sem]) ?_
    simp (disch := first | omega | assumption) only [go_sem, AV.cells]
    refine hK ?_; clear hK hS hC hC1 K S C hf
    (try ((first | refine zn ?_ | refine ze ?_ | refine zk ?_); with_reducible (constructor; repeat constructor)); try refine zl ?_)
    by_cases h0 : e2 = 0
    · subst h0
      refine K_ev nmd [(2, 28)] hng (by kernel_rfl) fun hf C S K hC1 hC hS hK => ?_; simp (disch := first | omega | assumption) only [go_sem, hg, tchAV, AV.cells, List.length_map, decide_true, decide_false, ne_eq, not_true_eq_false, not_false_eq_true]
      (repeat' (first | (refine evG_split (fun hv => ?_) (fun hv => ?_) <;> (try simp only [zb1, zb2, zb3, zb4, zb5] at hv) <;> simp (disch := first | omega | assumption) only [go_sem, hv, hg, tchAV, AV.cells, List.length_map, decide_true, decide_false, ne_eq, not_true_eq_false, not_false_eq_true]) | (refine hK ?_; clear hK hS hC hC1 K S C hf)))
      cases gf with
      | true =>
        (repeat (first | (refine K_ifT rfl rfl ?_) | (refine K_ifF rfl rfl ?_) | (refine K_ev nmd [] hng (by kernel_rfl) fun hf C S K hC1 hC hS hK => ?_; simp (disch := first | omega | assumption) only [go_sem]; refine hK ?_; clear hK hS hC hC1 K S C hf) | ((first | refine zn ?_ | refine ze ?_ | refine zk ?_); with_reducible (constructor; repeat constructor); try refine zl ?_)))
        exact K_ret (done1 rfl)
      | false =>
        (repeat (first | (refine K_ifT rfl rfl ?_) | (refine K_ifF rfl rfl ?_) | (refine K_ev nmd [] hng (by kernel_rfl) fun hf C S K hC1 hC hS hK => ?_; simp (disch := first | omega | assumption) only [go_sem]; refine hK ?_; clear hK hS hC hC1 K S C hf) | ((first | refine zn ?_ | refine ze ?_ | refine zk ?_); with_reducible (constructor; repeat constructor); try refine zl ?_)))
        exact ⟨_, Mem.of [], by omega, fun _ _ h => (by cases h), i + 1, _, rfl, rfl, by omega, by rw [hgs]; rfl⟩
    · refine K_ev nmd [(2, 28)] hng (by kernel_rfl) fun hf C S K hC1 hC hS hK => ?_; simp (disch := first | omega | assumption) only [go_sem, h0, decide_true, decide_false, ne_eq, not_true_eq_false, not_false_eq_true]
      (repeat' (first | (refine evG_split (fun hv => ?_) (fun hv => ?_) <;> (try simp only [zb1, zb2, zb3, zb4, zb5] at hv) <;> simp (disch := first | omega | assumption) only [go_sem, hv, h0, decide_true, decide_false, ne_eq, not_true_eq_false, not_false_eq_true]) | (refine hK ?_; clear hK hS hC hC1 K S C hf)))
      (repeat (first | (refine K_ifT rfl rfl ?_) | (refine K_ifF rfl rfl ?_) | (refine K_ev nmd [] hng (by kernel_rfl) fun hf C S K hC1 hC hS hK => ?_; simp (disch := first | omega | assumption) only [go_sem]; refine hK ?_; clear hK hS hC hC1 K S C hf) | ((first | refine zn ?_ | refine ze ?_ | refine zk ?_); with_reducible (constructor; repeat constructor); try refine zl ?_)))
      exact K_ret (done1 rfl)
  · obtain rfl : i = l.length := by omega
    rw [List.take_length, hbad] at hgd
    cases hgd
end Go.Proofs.YtaecbmbecofijaaGreatDoor
namespace Go.Proofs.YtaecbmbecofijaaGreatDoor
open Go Go.Ab
set_option maxRecDepth 20000
set_option maxHeartbeats 4000000
theorem beginR_ok (r : Oid) (L : PL) (hL : L.length ≤ 1000000) (OO RR WW bb : AV) (p : Oid) (hr : ¬ Oid.under p r) :
    CallOK Tryz.prog 50 [.ptr r 0] (Oid.under p) ⟨[(r, .cells [.list 4 (L.map pairAV), OO, RR, WW, bb])], .tuple [], [(r, some (.cells [.list 4 (L.map pairAV), .list 4 (L.map pairAV), .list 3 [], .list 1 [], .bool true]))]⟩ := by
  refine fnOK (n := 26) (rs := []) Tryz.func50 rfl rfl (by decide) rfl rfl rfl ?_; rintro x rfl hrd hng
  refine T_gend ?_
  (repeat (first | (refine K_ifT rfl rfl ?_) | (refine K_ifF rfl rfl ?_) | (refine K_ev nmd [] hng (by kernel_rfl) fun hf C S K hC1 hC hS hK => ?_; simp (disch := first | omega | assumption) only [go_sem, Oid.not_under_sub hr, Oid.sub_not_under hr]; refine hK ?_; clear hK hS hC hC1 K S C hf) | ((first | refine zn ?_ | refine ze ?_ | refine zk ?_); with_reducible (constructor; repeat constructor); try refine zl ?_)))
  refine K_evd nmd [] [] mixed hng (by kernel_rfl) [0] fun hf C S K hC hS hK => ?_; simp (disch := first | omega | assumption) only [go_sem, Oid.not_under_sub hr, Oid.sub_not_under hr]
  (first | refine hK (dynN_quiet rfl) ?_ | refine hK (by simp (disch := first | omega | assumption) only [go_sem, List.reverse_cons, List.reverse_nil, ne_eq, not_false_eq_true, implies_true]) ?_); clear hK hS hC K S C hf
  (try ((first | refine zn ?_ | refine ze ?_ | refine zk ?_); with_reducible (constructor; repeat constructor)); try refine zl ?_)
  refine K_nil (G_freezeM (.sub 1 9 x.p) r 4 (L.map pairAV) [.list 4 (L.map pairAV), .sl (.sub 1 9 x.p) 4 L.length, .nilSl, .nilSl, .bool true] [.list 4 (L.map pairAV), .list 4 (L.map pairAV), .nilSl, .nilSl, .bool true] ?_ ?_ ?_ (.keep (.turn ?_ (.keep (.keep (.keep .nil)))))
    (G_cells r [.list 4 (L.map pairAV), .list 4 (L.map pairAV), .nilSl, .nilSl, .bool true] [.list 4 (L.map pairAV), .list 4 (L.map pairAV), .list 3 [], .list 1 [], .bool true] ?_ (.cons (.refl _) (.cons (.refl _) (.cons (.nilList 3) (.cons (.nilList 1) (.cons (.refl _) .nil))))) (.now (done_updN rfl ?_ ?_))))
  · simp (disch := first | omega | assumption) only [go_sem, Oid.not_under_sub hr, Oid.sub_not_under hr]
  · simp (disch := first | omega | assumption) only [go_sem, Oid.not_under_sub hr, Oid.sub_not_under hr]
  · exact fun e => hr (e ▸ Oid.under_sub (Oid.under_refl _))
  · rw [List.length_map]
  · simp (disch := first | omega | assumption) only [go_sem, Oid.not_under_sub hr, Oid.sub_not_under hr]
  · simp (disch := first | omega | assumption) only [go_sem, Oid.not_under_sub hr, Oid.sub_not_under hr]
    all_goals simp only [List.mem_cons, List.not_mem_nil, or_false, forall_eq_or_imp, forall_eq, Option.some.injEq, forall_eq', Mem.of_cons_at, eq_self, if_true, ↓reduceIte, reduceCtorEq, implies_true, not_true_eq_false, false_imp_iff, true_and, and_true, false_and, and_false, imp_self]
  · simp (disch := first | omega | assumption) only [go_sem, Oid.not_under_sub hr, Oid.sub_not_under hr]
    all_goals simp only [List.mem_cons, List.not_mem_nil, or_false, forall_eq_or_imp, forall_eq, Option.some.injEq, forall_eq', Mem.of_cons_at, eq_self, if_true, ↓reduceIte, reduceCtorEq, implies_true, not_true_eq_false, false_imp_iff, true_and, and_true, false_and, and_false, imp_self]
theorem endR_ok (r : Oid) (L : PL) (ho : POk L) (hno : PNat L) (OO bb : AV) (Rs : List AV) (W : WL) (hW : W.length ≤ 1000000) (p : Oid) (hr : ¬ Oid.under p r) :
    CallOK Tryz.prog 53 [.ptr r 0] (Oid.under p) ⟨[(r, .cells [.list 4 (L.map pairAV), OO, .list 3 Rs, .list 1 (W.map fun w => .str w.1), bb])], .tuple [.list 3 Rs, .list 3 (W.map fun w => tchAV ((w.1, false), valT (getP L w.1)))], [(r, some (.cells [.list 4 (L.map pairAV), .list 4 [], .list 3 [], .list 1 [], .bool false]))]⟩ := by
  have hL := ho.len
  refine fnOK (n := 58) (rs := [.tmp 2, .tmp 3]) Tryz.func53 rfl rfl (by decide) rfl rfl rfl ?_; rintro x rfl hrd hng
  refine T_gend ?_
  (repeat (first | (refine K_ifT rfl rfl ?_) | (refine K_ifF rfl rfl ?_) | (refine K_ev nmd [] hng (by kernel_rfl) fun hf C S K hC1 hC hS hK => ?_; simp (disch := first | omega | assumption) only [go_sem, Oid.not_under_sub hr, Oid.sub_not_under hr]; refine hK ?_; clear hK hS hC hC1 K S C hf) | ((first | refine zn ?_ | refine ze ?_ | refine zk ?_); with_reducible (constructor; repeat constructor); try refine zl ?_)))
  refine K_void 4 3 (by simp (disch := first | omega | assumption) only [go_sem]) ?_
  simp (disch := first | omega | assumption) only [go_sem, Oid.not_under_sub hr, Oid.sub_not_under hr]
  obtain ⟨g, hg⟩ : ∃ g : Str × Unit → AV, g = fun w => tchAV ((w.1, false), valT (getP L w.1)) := ⟨_, rfl⟩
  rw [← hg]
  refine K_loop [0, 4, 5] (fun k s' => ∃ (i d j c : Nat), s' = ⟨[(0, .ptr r 0), (4, .sl (.sub d j x.p) 3 i), (5, .int .i64 i)], Mem.of [(r, .cells [.list 4 (L.map pairAV), OO, .list 3 Rs, .list 1 (W.map fun w => .str w.1), bb]), (.sub d j x.p, .arr 3 ((W.take i).map g))], c, []⟩ ∧ k = W.length - i ∧ i ≤ W.length ∧ d < c) _ ⟨0, 3, 0, 4, rfl, rfl, by omega, by omega⟩ ?_
  rintro k s' ⟨i, d, j, c, rfl, rfl, hi, hdc⟩
  (repeat (first | (refine K_ifT rfl rfl ?_) | (refine K_ifF rfl rfl ?_) | (refine K_ev nmd [] hng (by kernel_rfl) fun hf C S K hC1 hC hS hK => ?_; simp (disch := first | omega | assumption) only [go_sem, Oid.not_under_sub hr, Oid.sub_not_under hr, List.length_map]; refine hK ?_; clear hK hS hC hC1 K S C hf) | ((first | refine zn ?_ | refine ze ?_ | refine zk ?_); with_reducible (constructor; repeat constructor); try refine zl ?_)))
  refine K_ifd rfl rfl (fun hb => ?_) (fun hb => ?_)
  · have hl : i < W.length := by omega
    have hts := take_map_snoc g hl
    have hti : ((W.take i).map g).length = i := by rw [List.length_map, List.length_take]; omega
    generalize hq : W.getD i default = q at hts
    obtain ⟨qn, qu⟩ := q
    have hget := fun p => get_ok L (by omega) qn p
    have hval := fun p => valueR_ok (getP L qn) (getP_ok ho qn) (getP_nat hno qn) p
    have hgq : g (qn, qu) = .agg [.str qn, .bool false, .str (valT (getP L qn))] := by rw [hg]; rfl
    rw [hgq] at hts
    generalize getP L qn = B at hget hval hts
    simp only [Bits.av] at hget hval
    (try ((first | refine zn ?_ | refine ze ?_ | refine zk ?_); with_reducible (constructor; repeat constructor)); try refine zl ?_)
    refine K_evd nmd [] [(4, 19), (7, 19), (4, 20), (7, 20)] mixed hng (by kernel_rfl) [0, 4, 5] fun hf C S K hC hS hK => ?_; simp (disch := first | omega | assumption) only [go_sem, Oid.not_under_sub hr, Oid.sub_not_under hr, hq, AV.cells]
    (repeat ((first | refine hC _ (hget _) (by simp (disch := first | omega | assumption) only [go_sem]) ?_ | refine hC _ (hval _) (by simp (disch := first | omega | assumption) only [go_sem]) ?_); simp (disch := first | omega | assumption) only [go_sem]))
    (first | refine hK (dynN_quiet rfl) ?_ | refine hK (by simp (disch := first | omega | assumption) only [go_sem, List.reverse_cons, List.reverse_nil, ne_eq, not_false_eq_true, implies_true]) ?_); clear hK hS hC K S C hf
    (repeat (first | (refine K_ifT rfl rfl ?_) | (refine K_ifF rfl rfl ?_) | (refine K_ev nmd [] hng (by kernel_rfl) fun hf C S K hC1 hC hS hK => ?_; simp (disch := first | omega | assumption) only [go_sem]; refine hK ?_; clear hK hS hC hC1 K S C hf) | ((first | refine zn ?_ | refine ze ?_ | refine zk ?_); with_reducible (constructor; repeat constructor); try refine zl ?_)))
    exact ⟨_, _, by omega, fun _ _ h => h, i + 1, c + 1, 23, c + 1 + 1 + 1, by rw [hts]; rfl, rfl, by omega, by omega⟩
  · obtain rfl : i = W.length := by omega
    rw [List.take_length]
    (repeat (first | (refine K_ifT rfl rfl ?_) | (refine K_ifF rfl rfl ?_) | (refine K_ev nmd [] hng (by kernel_rfl) fun hf C S K hC1 hC hS hK => ?_; simp (disch := first | omega | assumption) only [go_sem, Oid.not_under_sub hr, Oid.sub_not_under hr]; refine hK ?_; clear hK hS hC hC1 K S C hf) | ((first | refine zn ?_ | refine ze ?_ | refine zk ?_); with_reducible (constructor; repeat constructor); try refine zl ?_)))
    refine K_freeze (.sub d j x.p) 3 (W.map g) (by simp (disch := first | omega | assumption) only [go_sem, Oid.not_under_sub hr, Oid.sub_not_under hr]) ?_
    refine K_ret (G_cells r [.list 4 (L.map pairAV), .nilSl, .nilSl, .nilSl, .bool false] [.list 4 (L.map pairAV), .list 4 [], .list 3 [], .list 1 [], .bool false] ?_ (.cons (.refl _) (.cons (.nilList 4) (.cons (.nilList 3) (.cons (.nilList 1) (.cons (.refl _) .nil))))) (.now (done_updR ?_ ?_ ?_)))
    · simp (disch := first | omega | assumption) only [go_sem, Oid.not_under_sub hr, Oid.sub_not_under hr]
    · simp (disch := first | omega | assumption) only [go_sem, Oid.not_under_sub hr, Oid.sub_not_under hr, List.length_map]
    · simp (disch := first | omega | assumption) only [go_sem, Oid.not_under_sub hr, Oid.sub_not_under hr]
      all_goals simp only [List.mem_cons, List.not_mem_nil, or_false, forall_eq_or_imp, forall_eq, Option.some.injEq, forall_eq', Mem.of_cons_at, eq_self, if_true, ↓reduceIte, reduceCtorEq, implies_true, not_true_eq_false, false_imp_iff, true_and, and_true, false_and, and_false, imp_self]
    · simp (disch := first | omega | assumption) only [go_sem, Oid.not_under_sub hr, Oid.sub_not_under hr]
      all_goals simp only [List.mem_cons, List.not_mem_nil, or_false, forall_eq_or_imp, forall_eq, Option.some.injEq, forall_eq', Mem.of_cons_at, eq_self, if_true, ↓reduceIte, reduceCtorEq, implies_true, not_true_eq_false, false_imp_iff, true_and, and_true, false_and, and_false, imp_self]
end Go.Proofs.YtaecbmbecofijaaGreatDoor
namespace Go.Proofs.YtaecbmbecofijaaGreatDoor
open Go Go.Ab
set_option maxRecDepth 20000
set_option maxHeartbeats 4000000
theorem end0_ok (st t : Oid) (p : Oid) (hs : ¬ Oid.under p st) : CallOK Tryz.prog 26 [.ptr st 0] (Oid.under p) ⟨[(st, .cells [.map t, .nilPtr])], .tuple [.list 3 [], .list 3 []], []⟩ := by
  refine fnOK (n := 69) (rs := [.tmp 2, .tmp 3]) Tryz.func26 rfl rfl (by decide) rfl rfl rfl ?_; rintro x rfl hrd hng
  (repeat (first | (refine K_ifT rfl rfl ?_) | (refine K_ifF rfl rfl ?_) | (refine K_ev nmd [] hng (by kernel_rfl) fun hf C S K hC1 hC hS hK => ?_; simp (disch := first | omega | assumption) only [go_sem, Oid.not_under_sub hs, Oid.sub_not_under hs]; refine hK ?_; clear hK hS hC hC1 K S C hf) | ((first | refine zn ?_ | refine ze ?_ | refine zk ?_); with_reducible (constructor; repeat constructor); try refine zl ?_)))
  refine K_nilList 2 3 (by simp (disch := first | omega | assumption) only [go_sem]) ?_
  refine K_nilList 3 3 (by simp (disch := first | omega | assumption) only [go_sem]) ?_
  refine K_ret (done_upd rfl ?_ ?_)
  all_goals simp only [List.mem_cons, List.not_mem_nil, or_false, forall_eq_or_imp, forall_eq, Option.some.injEq, forall_eq', Mem.of_cons_at, eq_self, if_true, ↓reduceIte, reduceCtorEq, implies_true, not_true_eq_false, false_imp_iff, true_and, and_true, false_and, and_false, imp_self, Oid.not_under_sub hs, Oid.sub_not_under hs]
theorem stoR_core {r : Oid} {s : St} {N : List Oid} {F : Oid → AObj} (h : StoR r s N F) : N = [r] ∧ ∃ OO RR WW bb : AV, F r = .cells [.list 4 (s.L.map pairAV), OO, RR, WW, bb] := by
  obtain ⟨L, t0⟩ := s
  obtain ⟨rfl, h⟩ := h
  cases t0 with
  | none => obtain ⟨OO, h⟩ := h; exact ⟨rfl, _, _, _, _, h⟩
  | some q => exact ⟨rfl, _, _, _, _, h⟩
theorem beginRb_ok {r : Oid} {s : St} {N : List Oid} {F : Oid → AObj} (h : StoR r s N F) (hs : SOK s) :
    ∃ F', StoR r s.begin N F' ∧ ∀ p, Old0 p N → CallOK Tryz.prog 50 [.ptr r 0] (Oid.under p) ⟨bk (N, F), .tuple [], sb N F'⟩ := by
  obtain ⟨rfl, OO, RR, WW, bb, hF⟩ := stoR_core h
  refine ⟨setF F r (.cells [.list 4 (s.L.map pairAV), .list 4 (s.L.map pairAV), .list 3 [], .list 1 [], .bool true]), ⟨rfl, by rw [setF_at, if_pos rfl]; rfl⟩, fun p ho => ?_⟩
  exact CallOK.one (beginR_ok r s.L hs.po.len OO RR WW bb p (ho r (by simp))) hF
theorem endRb_ok {r : Oid} {s : St} {N : List Oid} {F : Oid → AObj} (h : StoR r s N F) (hs : SOK s) (hR : ∀ q, s.t = some q → q.W.length ≤ 1000000) :
    ∃ F', StoR r s.halt N F' ∧ ∀ p, Old0 p N → CallOK Tryz.prog 53 [.ptr r 0] (Oid.under p) ⟨bk (N, F), .tuple [.list 3 (s.reads.map tchAV), .list 3 (s.writes.map tchAV)], sb N F'⟩ := by
  obtain ⟨L, t0⟩ := s
  obtain ⟨rfl, h⟩ := h
  refine ⟨setF F r (.cells [.list 4 (L.map pairAV), .list 4 [], .list 3 [], .list 1 [], .bool false]), ⟨rfl, _, by rw [setF_at, if_pos rfl]; rfl⟩, fun p ho => ?_⟩
  cases t0 with
  | none =>
    obtain ⟨OO, hF⟩ := h
    exact CallOK.one (endR_ok r L hs.po hs.no OO (.bool false) [] [] (by simp) p (ho r (by simp))) hF
  | some q =>
    have hc := endR_ok r L hs.po hs.no (.list 4 (q.old.map pairAV)) (.bool true) (q.R.map tchAV) q.W (hR q rfl) p (ho r (by simp))
    have hw : (q.W.map fun w => tchAV ((w.1, false), valT (getP L w.1))) = ((⟨L, some q⟩ : St).writes.map tchAV) := by
      simp only [St.writes, List.map_map]; rfl
    rw [hw] at hc
    exact CallOK.one hc h
theorem endP_ok {st : Oid} {s : St} {N : List Oid} {F : Oid → AObj} (h : StoP st s N F) (hs : SOK s) (hR : ∀ q, s.t = some q → q.R.length ≤ 1000000 ∧ q.W.length ≤ 1000000) :
    ∃ N' F', StoP st s.halt N' F' ∧ (∀ i ∈ N', i ∈ N) ∧ ∀ p, p.mono = false → Old0 p N → CallOK Tryz.prog 26 [.ptr st 0] (Oid.under p) ⟨bk (N, F), .tuple [.list 3 (s.reads.map tchAV), .list 3 (s.writes.map tchAV)], sbx N' F'⟩ := by
  obtain ⟨L, t0⟩ := s
  obtain ⟨hnd, h⟩ := h
  cases t0 with
  | none =>
    obtain ⟨t, es, clock, rfl, k1, k2, k3⟩ := h
    refine ⟨[st, t], F, ⟨hnd, t, es, clock, rfl, k1, k2, k3⟩, fun i hi => hi, fun p hp ho => ?_⟩
    refine CallOK.toBx (end0_ok st t p (ho _ (by simp))) (fun q hq => ?_) (fun q hq => by cases hq) (fun i hi => .inl hi) fun i hi => of_bk0 hi
    rw [List.mem_singleton.1 hq, bk2, k1]; exact List.mem_cons_self
  | some q =>
    obtain ⟨t, tr, o, rd, wr, es, eso, esr, esw, clock, co, cr, cw, rfl, k1, k2, k3, k4, k5, k6, m1, m2, m3, m4⟩ := h
    have hT := hs.tr q rfl
    obtain ⟨hR1, hW1⟩ := hR q rfl
    have hnd' : [wr, rd, o, tr, t, st].Nodup := (List.reverse_perm [st, t, tr, o, rd, wr]).nodup_iff.2 hnd
    have hts : ¬ t = st := fun e => by simp [e] at hnd
    have est : ¬ st = t := fun e => hts e.symm
    refine ⟨[st, t], setF F st (.cells [.map t, .nilPtr]), ⟨by simp [est], t, es, clock, rfl, by rw [setF_at, if_pos rfl], by rw [setF_at, if_neg hts]; exact k2, m1⟩, fun i hi => by
      simp only [List.mem_cons, List.not_mem_nil, or_false] at hi
      rcases hi with rfl | rfl <;> simp, fun p hp ho => ?_⟩
    have hc := endT_ok st t tr o rd wr hnd' es eso esr esw clock co cr cw L q.R q.W m3 hT.sr hR1 m4 hT.sw hW1 m1 hs.po hs.no p hp ho
    have hw : (q.W.map fun w => tchAV ((w.1, false), valT (getP L w.1))) = ((⟨L, some q⟩ : St).writes.map tchAV) := by
      simp only [St.writes, List.map_map]; rfl
    rw [hw] at hc
    refine CallOK.toBx hc ?_ (fun q hq => by rw [List.mem_singleton.1 hq]; simp) (fun i hi => by
      simp only [List.mem_cons, List.not_mem_nil, or_false] at hi
      rcases hi with rfl | rfl <;> exact .inl (by simp)) fun i hi => ?_
    · rw [bk6, k1, k2, k3, k4, k5, k6]; exact fun q hq => hq
    · simp only [List.mem_cons, List.not_mem_nil, or_false] at hi
      show ((Mem.of _).set st (some _)) i = _
      simp only [Mem.set, setF_at]
      split
      · rfl
      · exact of_bk0 (by rcases hi with rfl | rfl <;> simp)
end Go.Proofs.YtaecbmbecofijaaGreatDoor
namespace Go.Proofs.YtaecbmbecofijaaGreatDoor
open Go Go.Ab
set_option maxRecDepth 20000
set_option maxHeartbeats 4000000
theorem sameTch_ok (l : List Tch) (hl : l.length ≤ 4000000000) (p : Oid) : CallOK Tryz.prog 54 [.list 3 (l.map tchAV), .list 3 (l.map tchAV)] (Oid.under p) ⟨[], .bool true, []⟩ := by
  refine fnOK (n := 26) (rs := [.tmp 4]) Tryz.func54 rfl rfl (by decide) rfl rfl rfl ?_; rintro x rfl hrd hng
  (repeat (first | (refine K_ifT rfl rfl ?_) | (refine K_ifF rfl rfl ?_) | (refine K_ev nmd [] hng (by kernel_rfl) fun hf C S K hC1 hC hS hK => ?_; simp (disch := first | omega | assumption) only [go_sem, List.length_map, decide_true, decide_false, ne_eq, not_true_eq_false, not_false_eq_true]; (repeat ((first | refine hC1 _ () (by simp (disch := first | omega | assumption) only [go_sem]) ?_); simp (disch := first | omega | assumption) only [go_sem])); refine hK ?_; clear hK hS hC hC1 K S C hf) | ((first | refine zn ?_ | refine ze ?_ | refine zk ?_); with_reducible (constructor; repeat constructor); try refine zl ?_)))
  refine K_loop [0, 1, 5] (fun k s' => ∃ i c : Nat, s' = ⟨[(0, .list 3 (l.map tchAV)), (1, .list 3 (l.map tchAV)), (5, .int .i64 i)], Mem.of [], c, []⟩ ∧ k = l.length - i ∧ i ≤ l.length) _ ⟨0, _, rfl, rfl, Nat.zero_le _⟩ ?_
  rintro k s' ⟨i, c, rfl, rfl, hi⟩
  (repeat (first | (refine K_ifT rfl rfl ?_) | (refine K_ifF rfl rfl ?_) | (refine K_ev nmd [] hng (by kernel_rfl) fun hf C S K hC1 hC hS hK => ?_; simp (disch := first | omega | assumption) only [go_sem, List.length_map]; (repeat ((first | refine hC1 _ () (by simp (disch := first | omega | assumption) only [go_sem]) ?_); simp (disch := first | omega | assumption) only [go_sem])); refine hK ?_; clear hK hS hC hC1 K S C hf) | ((first | refine zn ?_ | refine ze ?_ | refine zk ?_); with_reducible (constructor; repeat constructor); try refine zl ?_)))
  refine K_ifd rfl rfl (fun hb => ?_) (fun hb => ?_)
  · have hlt : i < l.length := by omega
    generalize hq : l.getD i default = q
    obtain ⟨⟨qn, qf⟩, qv⟩ := q
    (try ((first | refine zn ?_ | refine ze ?_ | refine zk ?_); with_reducible (constructor; repeat constructor)); try refine zl ?_)
    refine K_evd nmd [] [] mixed hng (by kernel_rfl) [0, 1, 5, 25] fun hf C S K hC hS hK => ?_; simp (disch := first | omega | assumption) only [go_sem, hq, tchAV, AV.cells]
    (first | refine hK (dynN_quiet rfl) ?_ | refine hK (by simp (disch := first | omega | assumption) only [go_sem, List.reverse_cons, List.reverse_nil, ne_eq, not_false_eq_true, implies_true]) ?_); clear hK hS hC K S C hf
    (repeat (first | (refine K_ifT rfl rfl ?_) | (refine K_ifF rfl rfl ?_) | (refine K_ev nmd [] hng (by kernel_rfl) fun hf C S K hC1 hC hS hK => ?_; simp (disch := first | omega | assumption) only [go_sem]; refine hK ?_; clear hK hS hC hC1 K S C hf) | ((first | refine zn ?_ | refine ze ?_ | refine zk ?_); with_reducible (constructor; repeat constructor); try refine zl ?_)))
    exact ⟨_, _, by omega, fun _ _ h => h, i + 1, _, rfl, rfl, by omega⟩
  · (repeat (first | (refine K_ifT rfl rfl ?_) | (refine K_ifF rfl rfl ?_) | (refine K_ev nmd [] hng (by kernel_rfl) fun hf C S K hC1 hC hS hK => ?_; simp (disch := first | omega | assumption) only [go_sem]; refine hK ?_; clear hK hS hC hC1 K S C hf) | ((first | refine zn ?_ | refine ze ?_ | refine zk ?_); with_reducible (constructor; repeat constructor); try refine zl ?_)))
    exact K_ret (done1 rfl)
/-! whether all is there that was read -/
def agreesL (L : PL) (l : List Tch) : Bool := l.all fun h => valP L h.1 == h.2
def badT (L : PL) (h : Tch) : Bool := !(valP L h.1 == h.2)
theorem agreesC_ok (bx st t : Oid) (tv : AV) (es : List ME) (clock : Nat) (L : PL) (hm : MapP es L) (hs : SortG ltB L) (ho : POk L) (h : Tch) (hn : h.1.1.length ≤ 140737488355000) (p : Oid) (hp : p.mono = false) (hbx : ¬ Oid.under p bx) (hst : ¬ Oid.under p st) (ht : ¬ Oid.under p t) (d1 : ¬ st = bx) (d2 : ¬ t = bx) (d3 : ¬ t = st) :
    CallOK Tryz.prog 72 [tchAV h, .ptr bx 0] (Oid.under p) ⟨[(bx, .cells [.ptr st 0]), (st, .cells [.map t, tv]), (t, .map [.ss] false es clock)], .bool (badT L h), []⟩ := by
  obtain ⟨⟨qn, qf⟩, qv⟩ := h
  have hv := fun p hp u => valueT_ok t es clock L hm hs ho qn hn qf p hp u
  unfold badT
  generalize valP L (qn, qf) = V at hv ⊢
  simp only [tchAV, keyF] at hv ⊢
  refine fnOK (n := 17) (rs := [.tmp 3]) Tryz.func72 rfl rfl (by decide) rfl rfl rfl ?_; rintro x rfl hrd hng
  (try ((first | refine zn ?_ | refine ze ?_ | refine zk ?_); with_reducible (constructor; repeat constructor)); try refine zl ?_)
  refine K_ev nmd [] hng (by kernel_rfl) fun hf C S K hC1 hC hS hK => ?_; simp (disch := first | omega | assumption) only [go_sem]
  refine hK ?_; clear hK hS hC hC1 K S C hf
  (try ((first | refine zn ?_ | refine ze ?_ | refine zk ?_); with_reducible (constructor; repeat constructor)); try refine zl ?_)
  refine K_evd nmd [] [(9, 11)] mixed hng (by kernel_rfl) [3] fun hf C S K hC hS hK => ?_; simp (disch := first | omega | assumption) only [go_sem, Oid.not_under_sub hbx, Oid.sub_not_under hbx, Oid.not_under_sub hst, Oid.sub_not_under hst, Oid.not_under_sub ht, Oid.sub_not_under ht, d1, d2, d3]
  refine hC _ (hv _ (mono_sub' rfl hp) (fun h => ht (Oid.under_sub h))) (by simp (disch := first | omega | assumption) only [go_sem, Oid.not_under_sub hbx, Oid.sub_not_under hbx, Oid.not_under_sub hst, Oid.sub_not_under hst, Oid.not_under_sub ht, Oid.sub_not_under ht, d1, d2, d3]) ?_
  simp (disch := first | omega | assumption) only [go_sem, Oid.not_under_sub hbx, Oid.sub_not_under hbx, Oid.not_under_sub hst, Oid.sub_not_under hst, Oid.not_under_sub ht, Oid.sub_not_under ht, d1, d2, d3]
  (first | refine hK (dynN_quiet rfl) ?_ | refine hK (by simp (disch := first | omega | assumption) only [go_sem, List.reverse_cons, List.reverse_nil, ne_eq, not_false_eq_true, implies_true]) ?_); clear hK hS hC K S C hf
  (repeat (first | (refine K_ifT rfl rfl ?_) | (refine K_ifF rfl rfl ?_) | (refine K_ev nmd [] hng (by kernel_rfl) fun hf C S K hC1 hC hS hK => ?_; simp (disch := first | omega | assumption) only [go_sem]; refine hK ?_; clear hK hS hC hC1 K S C hf) | ((first | refine zn ?_ | refine ze ?_ | refine zk ?_); with_reducible (constructor; repeat constructor); try refine zl ?_)))
  refine K_ret (done_upd ?_ ?_ ?_)
  · have hbq : decide (V ≠ qv) = !(V == qv) := by by_cases h : V = qv <;> simp [h]
    simp (disch := first | omega | assumption) only [go_sem, hbq]
  · all_goals simp only [List.mem_cons, List.not_mem_nil, or_false, forall_eq_or_imp, forall_eq, Option.some.injEq, forall_eq', Mem.of_cons_at, eq_self, if_true, ↓reduceIte, reduceCtorEq, implies_true, not_true_eq_false, false_imp_iff, true_and, and_true, false_and, and_false, imp_self, Oid.not_under_sub hbx, Oid.sub_not_under hbx, Oid.not_under_sub hst, Oid.sub_not_under hst, Oid.not_under_sub ht, Oid.sub_not_under ht, d1, d2, d3]
  · all_goals simp only [List.mem_cons, List.not_mem_nil, or_false, forall_eq_or_imp, forall_eq, Option.some.injEq, forall_eq', Mem.of_cons_at, eq_self, if_true, ↓reduceIte, reduceCtorEq, implies_true, not_true_eq_false, false_imp_iff, true_and, and_true, false_and, and_false, imp_self, Oid.not_under_sub hbx, Oid.sub_not_under hbx, Oid.not_under_sub hst, Oid.sub_not_under hst, Oid.not_under_sub ht, Oid.sub_not_under ht, d1, d2, d3]
def ixT (q : Tch → Bool) : List Tch → Int
  | [] => -1
  | s :: l => if q s = true then 0 else if ixT q l = -1 then -1 else ixT q l + 1
theorem ixT_none {q : Tch → Bool} : ∀ {l : List Tch}, l.any q = false → ixT q l = -1
  | [], _ => rfl
  | s :: l, h => by
    simp only [List.any_cons, Bool.or_eq_false_iff] at h
    simp [ixT, h.1, ixT_none h.2]
theorem ixT_at {q : Tch → Bool} : ∀ {l : List Tch} {i : Nat}, i < l.length → (l.take i).any q = false → q (l.getD i default) = true → ixT q l = i
  | [], _, h, _, _ => by simp at h
  | s :: l, 0, _, _, h => by
    have h' : q s = true := h
    simp [ixT, h']
  | s :: l, i + 1, h, h1, h2 => by
    simp only [List.take_succ_cons, List.any_cons, Bool.or_eq_false_iff] at h1
    have ih := ixT_at (l := l) (i := i) (by simpa using h) h1.2 h2
    simp only [ixT, h1.1, ih, Bool.false_eq_true, if_false]
    rw [if_neg (by omega)]; omega
theorem ixT_any {q : Tch → Bool} (l : List Tch) : decide (0 ≤ ixT q l) = l.any q := by
  cases h : l.any q with
  | false => rw [ixT_none h]; rfl
  | true =>
    have key : ∀ l : List Tch, l.any q = true → 0 ≤ ixT q l := by
      intro l
      induction l with
      | nil => intro h; cases h
      | cons s l ih =>
        intro h
        simp only [ixT]
        split
        · omega
        · rename_i hs
          have := ih (by simpa [hs] using h)
          rw [if_neg (by omega)]; omega
    exact decide_eq_true (key l h)
theorem anyT_step {q : Tch → Bool} {l : List Tch} {i : Nat} (hi : i < l.length) (h : (l.take i).any q = false) (h2 : q (l.getD i default) = false) : (l.take (i + 1)).any q = false := by
  rw [List.take_add_one, List.any_append, h, List.getElem?_eq_getElem hi]
  rw [List.getD_eq_getElem?_getD, List.getElem?_eq_getElem hi] at h2
  simpa using h2
section
variable (bx st t : Oid) (oo : AV) (tv : AV) (es : List ME) (clock : Nat) (q : Tch → Bool) (fu : FuncId) (l : List Tch) (hl : l.length ≤ 4000000000) (d1 : ¬ st = bx) (d2 : ¬ t = bx) (d3 : ¬ t = st)
  (hq : ∀ h ∈ l, ∀ p : Oid, p.mono = false → ¬ Oid.under p bx → ¬ Oid.under p st → ¬ Oid.under p t → CallOK Tryz.prog fu [tchAV h, .ptr bx 0] (Oid.under p) ⟨[(bx, .cells [.ptr st 0]), (st, .cells [.map t, tv]), (t, .map [.ss] false es clock)], .bool (q h), []⟩)
include hl hq d1 d2 d3
theorem indexT_ok (p : Oid) (hp : p.mono = false) (hbx : ¬ Oid.under p bx) (hst : ¬ Oid.under p st) (ht : ¬ Oid.under p t) :
    CallOK Tryz.prog 120 [.list 3 (l.map tchAV), .fn (.func fu) [] [.ptr bx 0]] (Oid.under p) ⟨[(bx, .cells [.ptr st 0]), (st, .cells [.map t, tv]), (t, .map [.ss] false es clock)], .int .i64 (ixT q l), []⟩ := by
  have hb' : ∀ c i, ¬ Oid.under (.sub c i p) bx := fun c i h => hbx (Oid.under_sub h)
  have hst' : ∀ c i, ¬ Oid.under (.sub c i p) st := fun c i h => hst (Oid.under_sub h)
  have ht' : ∀ c i, ¬ Oid.under (.sub c i p) t := fun c i h => ht (Oid.under_sub h)
  refine fnOK (n := 19) (rs := [.tmp 4]) Tryz.func120 rfl rfl (by decide) rfl rfl rfl ?_; rintro x rfl hrd hng
  (repeat (first | (refine K_ifT rfl rfl ?_) | (refine K_ifF rfl rfl ?_) | (refine K_ev nmd [] hng (by kernel_rfl) fun hf C S K hC1 hC hS hK => ?_; simp (disch := first | omega | assumption) only [go_sem]; refine hK ?_; clear hK hS hC hC1 K S C hf) | ((first | refine zn ?_ | refine ze ?_ | refine zk ?_); with_reducible (constructor; repeat constructor); try refine zl ?_)))
  refine K_loop [0, 1, 7, 8] (fun k s' => ∃ i c : Nat, s' = ⟨[(0, .list 3 (l.map tchAV)), (1, .fn (.func fu) [] [.ptr bx 0]), (7, .int .i64 l.length), (8, .int .i64 i)], Mem.of [(bx, .cells [.ptr st 0]), (st, .cells [.map t, tv]), (t, .map [.ss] false es clock)], c, []⟩ ∧ k = l.length - i ∧ i ≤ l.length ∧ (l.take i).any q = false) _ ⟨0, _, rfl, rfl, Nat.zero_le _, by simp⟩ ?_
  rintro k s' ⟨i, c, rfl, rfl, hi, hno⟩
  (repeat (first | (refine K_ifT rfl rfl ?_) | (refine K_ifF rfl rfl ?_) | (refine K_ev nmd [] hng (by kernel_rfl) fun hf C S K hC1 hC hS hK => ?_; simp (disch := first | omega | assumption) only [go_sem]; refine hK ?_; clear hK hS hC hC1 K S C hf) | ((first | refine zn ?_ | refine ze ?_ | refine zk ?_); with_reducible (constructor; repeat constructor); try refine zl ?_)))
  refine K_ifd rfl rfl (fun hb => ?_) (fun hb => ?_)
  · have hlt : i < l.length := by omega
    have hq1 := hq (l.getD i default) (by rw [getD_in hlt]; exact List.getElem_mem hlt)
    generalize hg : l.getD i default = g at hq1
    obtain ⟨b, hbq⟩ : ∃ b, q g = b := ⟨_, rfl⟩
    rw [hbq] at hq1
    obtain ⟨⟨gn, gf⟩, gv⟩ := g
    simp only [tchAV] at hq1
    (repeat (first | (refine K_ifT rfl rfl ?_) | (refine K_ifF rfl rfl ?_) | (refine K_ev nmd [] hng (by kernel_rfl) fun hf C S K hC1 hC hS hK => ?_; simp (disch := first | omega | assumption) only [go_sem]; refine hK ?_; clear hK hS hC hC1 K S C hf) | ((first | refine zn ?_ | refine ze ?_ | refine zk ?_); with_reducible (constructor; repeat constructor); try refine zl ?_)))
    refine K_ev nmd [] hng (by kernel_rfl) fun hf C S K hC1 hC hS hK => ?_; simp (disch := first | omega | assumption) only [go_sem, hg, tchAV, AV.cells]
    refine hC1 _ (hq1 _ (mono_sub' rfl hp) (hb' _ _) (hst' _ _) (ht' _ _)) (by simp (disch := first | omega | assumption) only [go_sem, Oid.not_under_sub hbx, Oid.sub_not_under hbx, Oid.not_under_sub hst, Oid.sub_not_under hst, Oid.not_under_sub ht, Oid.sub_not_under ht, d1, d2, d3]) ?_
    simp (disch := first | omega | assumption) only [go_sem, Oid.not_under_sub hbx, Oid.sub_not_under hbx, Oid.not_under_sub hst, Oid.sub_not_under hst, Oid.not_under_sub ht, Oid.sub_not_under ht, d1, d2, d3]
    refine hK ?_; clear hK hS hC hC1 K S C hf
    (try ((first | refine zn ?_ | refine ze ?_ | refine zk ?_); with_reducible (constructor; repeat constructor)); try refine zl ?_)
    refine K_if rfl rfl (fun hb => ?_) (fun hb => ?_)
    · rw [ixT_at hlt hno (by rw [hg, hbq]; exact hb)]
      (repeat (first | (refine K_ifT rfl rfl ?_) | (refine K_ifF rfl rfl ?_) | (refine K_ev nmd [] hng (by kernel_rfl) fun hf C S K hC1 hC hS hK => ?_; simp (disch := first | omega | assumption) only [go_sem]; refine hK ?_; clear hK hS hC hC1 K S C hf) | ((first | refine zn ?_ | refine ze ?_ | refine zk ?_); with_reducible (constructor; repeat constructor); try refine zl ?_)))
      refine K_ret (done_upd rfl ?_ ?_)
      all_goals simp only [List.mem_cons, List.not_mem_nil, or_false, forall_eq_or_imp, forall_eq, Option.some.injEq, forall_eq', Mem.of_cons_at, eq_self, if_true, ↓reduceIte, reduceCtorEq, implies_true, not_true_eq_false, false_imp_iff, true_and, and_true, false_and, and_false, imp_self, Oid.not_under_sub hbx, Oid.sub_not_under hbx, Oid.not_under_sub hst, Oid.sub_not_under hst, Oid.not_under_sub ht, Oid.sub_not_under ht, d1, d2, d3]
    · have hn := anyT_step hlt hno (by rw [hg, hbq]; exact hb)
      (repeat (first | (refine K_ifT rfl rfl ?_) | (refine K_ifF rfl rfl ?_) | (refine K_ev nmd [] hng (by kernel_rfl) fun hf C S K hC1 hC hS hK => ?_; simp (disch := first | omega | assumption) only [go_sem]; refine hK ?_; clear hK hS hC hC1 K S C hf) | ((first | refine zn ?_ | refine ze ?_ | refine zk ?_); with_reducible (constructor; repeat constructor); try refine zl ?_)))
      exact ⟨_, _, by omega, fun _ _ h => h, i + 1, _, rfl, rfl, by omega, hn⟩
  · obtain rfl : i = l.length := by omega
    rw [List.take_length] at hno
    rw [ixT_none hno]
    (repeat (first | (refine K_ifT rfl rfl ?_) | (refine K_ifF rfl rfl ?_) | (refine K_ev nmd [] hng (by kernel_rfl) fun hf C S K hC1 hC hS hK => ?_; simp (disch := first | omega | assumption) only [go_sem]; refine hK ?_; clear hK hS hC hC1 K S C hf) | ((first | refine zn ?_ | refine ze ?_ | refine zk ?_); with_reducible (constructor; repeat constructor); try refine zl ?_)))
    refine K_ret (done_upd rfl ?_ ?_)
    all_goals simp only [List.mem_cons, List.not_mem_nil, or_false, forall_eq_or_imp, forall_eq, Option.some.injEq, forall_eq', Mem.of_cons_at, eq_self, if_true, ↓reduceIte, reduceCtorEq, implies_true, not_true_eq_false, false_imp_iff, true_and, and_true, false_and, and_false, imp_self, Oid.not_under_sub hbx, Oid.sub_not_under hbx, Oid.not_under_sub hst, Oid.sub_not_under hst, Oid.not_under_sub ht, Oid.sub_not_under ht, d1, d2, d3]
theorem containsT_ok (p : Oid) (hp : p.mono = false) (hbx : ¬ Oid.under p bx) (hst : ¬ Oid.under p st) (ht : ¬ Oid.under p t) :
    CallOK Tryz.prog 71 [.list 3 (l.map tchAV), .fn (.func fu) [] [.ptr bx 0]] (Oid.under p) ⟨[(bx, .cells [.ptr st 0]), (st, .cells [.map t, tv]), (t, .map [.ss] false es clock)], .bool (l.any q), []⟩ := by
  have hi := fun p hp a b c => indexT_ok bx st t tv es clock q fu l hl d1 d2 d3 hq p hp a b c
  have han := ixT_any (q := q) l
  refine fnOK (n := 9) (rs := [.tmp 4]) Tryz.func71 rfl rfl (by decide) rfl rfl rfl ?_; rintro x rfl hrd hng
  (repeat (first | (refine K_ifT rfl rfl ?_) | (refine K_ifF rfl rfl ?_) | (refine K_ev nmd [] hng (by kernel_rfl) fun hf C S K hC1 hC hS hK => ?_; simp (disch := first | omega | assumption) only [go_sem]; refine hK ?_; clear hK hS hC hC1 K S C hf) | ((first | refine zn ?_ | refine ze ?_ | refine zk ?_); with_reducible (constructor; repeat constructor); try refine zl ?_)))
  refine K_ev nmd [] hng (by kernel_rfl) fun hf C S K hC1 hC hS hK => ?_; simp (disch := first | omega | assumption) only [go_sem]
  refine hC1 _ (hi _ (mono_sub' rfl hp) (fun h => hbx (Oid.under_sub h)) (fun h => hst (Oid.under_sub h)) (fun h => ht (Oid.under_sub h))) (by simp (disch := first | omega | assumption) only [go_sem, Oid.not_under_sub hbx, Oid.sub_not_under hbx, Oid.not_under_sub hst, Oid.sub_not_under hst, Oid.not_under_sub ht, Oid.sub_not_under ht, d1, d2, d3]) ?_
  simp (disch := first | omega | assumption) only [go_sem, Oid.not_under_sub hbx, Oid.sub_not_under hbx, Oid.not_under_sub hst, Oid.sub_not_under hst, Oid.not_under_sub ht, Oid.sub_not_under ht, d1, d2, d3, han]
  refine hK ?_; clear hK hS hC hC1 K S C hf
  (repeat (first | (refine K_ifT rfl rfl ?_) | (refine K_ifF rfl rfl ?_) | (refine K_ev nmd [] hng (by kernel_rfl) fun hf C S K hC1 hC hS hK => ?_; simp (disch := first | omega | assumption) only [go_sem]; refine hK ?_; clear hK hS hC hC1 K S C hf) | ((first | refine zn ?_ | refine ze ?_ | refine zk ?_); with_reducible (constructor; repeat constructor); try refine zl ?_)))
  refine K_ret (done_upd rfl ?_ ?_)
  all_goals simp only [List.mem_cons, List.not_mem_nil, or_false, forall_eq_or_imp, forall_eq, Option.some.injEq, forall_eq', Mem.of_cons_at, eq_self, if_true, ↓reduceIte, reduceCtorEq, implies_true, not_true_eq_false, false_imp_iff, true_and, and_true, false_and, and_false, imp_self, Oid.not_under_sub hbx, Oid.sub_not_under hbx, Oid.not_under_sub hst, Oid.sub_not_under hst, Oid.not_under_sub ht, Oid.sub_not_under ht, d1, d2, d3]
end
theorem agrees_ok (st t : Oid) (tv : AV) (es : List ME) (clock : Nat) (L : PL) (hm : MapP es L) (hs : SortG ltB L) (ho : POk L) (l : List Tch) (hl : l.length ≤ 4000000000) (hn : ∀ h ∈ l, h.1.1.length ≤ 140737488355000) (d3 : ¬ t = st) (p : Oid) (hp : p.mono = false) (hst : ¬ Oid.under p st) (ht : ¬ Oid.under p t) :
    CallOK Tryz.prog 27 [.ptr st 0, .list 3 (l.map tchAV)] (Oid.under p) ⟨[(st, .cells [.map t, tv]), (t, .map [.ss] false es clock)], .bool (agreesL L l), []⟩ := by
  have hag : (!(l.any (badT L))) = agreesL L l := by
    unfold agreesL badT
    rw [List.not_any_eq_all_not]
    congr 1
    funext h
    rw [Bool.not_not]
  refine fnOK (n := 9) (rs := [.tmp 4]) Tryz.func27 rfl rfl (by decide) rfl rfl rfl ?_; rintro x rfl hrd hng
  have hbx : ∀ c i, ¬ c = 0 → ¬ Oid.under (.sub c i x.p) (.sub 0 0 x.p) := fun c i hc h => hc (Oid.apart h (Oid.under_refl _)).1
  have d1 : ¬ st = .sub 0 0 x.p := fun e => hst (e ▸ Oid.under_sub (Oid.under_refl _))
  have d2 : ¬ t = .sub 0 0 x.p := fun e => ht (e ▸ Oid.under_sub (Oid.under_refl _))
  have d1' : ¬ .sub 0 0 x.p = st := fun e => d1 e.symm
  have d2' : ¬ .sub 0 0 x.p = t := fun e => d2 e.symm
  (try ((first | refine zn ?_ | refine ze ?_ | refine zk ?_); with_reducible (constructor; repeat constructor)); try refine zl ?_)
  refine K_ev nmd [] hng (by kernel_rfl) fun hf C S K hC1 hC hS hK => ?_; simp (disch := first | omega | assumption) only [go_sem]
  refine hK ?_; clear hK hS hC hC1 K S C hf
  (try ((first | refine zn ?_ | refine ze ?_ | refine zk ?_); with_reducible (constructor; repeat constructor)); try refine zl ?_)
  refine K_ev nmd [] hng (by kernel_rfl) fun hf C S K hC1 hC hS hK => ?_; simp (disch := first | omega | assumption) only [go_sem, d1, d2, d1', d2', d3]
  refine hC1 _ (containsT_ok (.sub 0 0 x.p) st t tv es clock (badT L) 72 l hl d1 d2 d3 (fun h hh p hp b1 b2 b3 => agreesC_ok (.sub 0 0 x.p) st t tv es clock L hm hs ho h (hn h hh) p hp b1 b2 b3 d1 d2 d3) _ (mono_sub' rfl hp) (hbx _ _ (by omega)) (fun h => hst (Oid.under_sub h)) (fun h => ht (Oid.under_sub h))) (by simp (disch := first | omega | assumption) only [go_sem, d1, d2, d1', d2', d3]) ?_
  simp (disch := first | omega | assumption) only [go_sem, d1, d2, d1', d2', d3, hag]
  refine hK ?_; clear hK hS hC hC1 K S C hf
  (repeat (first | (refine K_ifT rfl rfl ?_) | (refine K_ifF rfl rfl ?_) | (refine K_ev nmd [] hng (by kernel_rfl) fun hf C S K hC1 hC hS hK => ?_; simp (disch := first | omega | assumption) only [go_sem]; refine hK ?_; clear hK hS hC hC1 K S C hf) | ((first | refine zn ?_ | refine ze ?_ | refine zk ?_); with_reducible (constructor; repeat constructor); try refine zl ?_)))
  refine K_ret (done_upd rfl ?_ ?_)
  all_goals simp only [List.mem_cons, List.not_mem_nil, or_false, forall_eq_or_imp, forall_eq, Option.some.injEq, forall_eq', Mem.of_cons_at, eq_self, if_true, ↓reduceIte, reduceCtorEq, implies_true, not_true_eq_false, false_imp_iff, true_and, and_true, false_and, and_false, imp_self, d1, d2, d1', d2', d3]
theorem CallOK.needBk {P : Program} [Laid P] {f : FuncId} {xs : List AV} {sp : Oid → Prop} {L0 : List (Oid × AObj)} {v : AV} {B : Bk} (h : CallOK P f xs sp ⟨L0, v, []⟩) (hL : ∀ q, q ∈ L0 → q ∈ bk B) : CallOK P f xs sp ⟨bk B, v, []⟩ :=
  ⟨h.enters, fun x g args w m hm hn ha hs hx => h.calls x g args w m hm (fun q hq => hn q (hL q hq)) ha hs hx⟩
end Go.Proofs.YtaecbmbecofijaaGreatDoor
namespace Go.Proofs.YtaecbmbecofijaaGreatDoor
open Go Go.Ab
set_option maxRecDepth 20000
set_option maxHeartbeats 4000000
theorem agreesR_ok (r : Oid) (L : PL) (hL : POk L) (hN : PNat L) (o1 r1 w1 b1 : AV) (l : List Tch) (hl : l.length ≤ 4000000000) (hn : ∀ h ∈ l, h.1.1.length ≤ 140737488355000) (p : Oid) (hr : ¬ Oid.under p r) :
    CallOK Tryz.prog 60 [.ptr r 0, .list 3 (l.map tchAV)] (Oid.under p) ⟨[(r, .cells [.list 4 (L.map pairAV), o1, r1, w1, b1])], .bool (agreesL L l), []⟩ := by
  have hLl := hL.len
  refine fnOK (n := 47) (rs := [.tmp 4]) Tryz.func60 rfl rfl (by decide) rfl rfl rfl ?_; rintro x rfl hrd hng
  (repeat (first | (refine K_ifT rfl rfl ?_) | (refine K_ifF rfl rfl ?_) | (refine K_ev nmd [] hng (by kernel_rfl) fun hf C S K hC1 hC hS hK => ?_; simp (disch := first | omega | assumption) only [go_sem]; refine hK ?_; clear hK hS hC hC1 K S C hf) | ((first | refine zn ?_ | refine ze ?_ | refine zk ?_); with_reducible (constructor; repeat constructor); try refine zl ?_)))
  refine K_loop [0, 1, 5] (fun k s' => ∃ i c : Nat, s' = ⟨[(0, .ptr r 0), (1, .list 3 (l.map tchAV)), (5, .int .i64 i)], Mem.of [(r, .cells [.list 4 (L.map pairAV), o1, r1, w1, b1])], c, []⟩ ∧ k = l.length - i ∧ i ≤ l.length ∧ agreesL L l = agreesL L (l.drop i)) _ ⟨0, _, rfl, rfl, Nat.zero_le _, rfl⟩ ?_
  rintro k s' ⟨i, c, rfl, rfl, hi, hag⟩
  (repeat (first | (refine K_ifT rfl rfl ?_) | (refine K_ifF rfl rfl ?_) | (refine K_ev nmd [] hng (by kernel_rfl) fun hf C S K hC1 hC hS hK => ?_; simp (disch := first | omega | assumption) only [go_sem, List.length_map]; refine hK ?_; clear hK hS hC hC1 K S C hf) | ((first | refine zn ?_ | refine ze ?_ | refine zk ?_); with_reducible (constructor; repeat constructor); try refine zl ?_)))
  refine K_ifd rfl rfl (fun hb => ?_) (fun hb => ?_)
  · have hlt : i < l.length := by omega
    have hsp : agreesL L (l.drop i) = ((valP L (l.getD i default).1 == (l.getD i default).2) && agreesL L (l.drop (i + 1))) := by
      unfold agreesL; rw [List.drop_eq_getElem_cons hlt, getD_in hlt, List.all_cons]
    have hnq := hn (l.getD i default) (by rw [getD_in hlt]; exact List.getElem_mem hlt)
    generalize hg : l.getD i default = g at hsp hnq
    obtain ⟨⟨gn, gf⟩, gv⟩ := g
    simp only at hsp hnq
    have hnames := fun p => namesR_ok L hL gn hnq p
    obtain ⟨l1, l2⟩ := namesP_enc hL gn
    have henc := fun p => encodeR_ok (namesP L gn) (by omega) (by omega) p
    have hget := fun p => get_ok L (by omega) gn p
    have hval := fun p => valueR_ok (getP L gn) (getP_ok hL gn) (getP_nat hN gn) p
    cases gf with
    | false =>
      rw [show valP L (gn, false) = valT (getP L gn) from if_neg Bool.false_ne_true] at hsp
      generalize getP L gn = B at hget hval hsp
      generalize valT B = V at hval hsp
      simp only [Bits.av] at hget hval
      (try ((first | refine zn ?_ | refine ze ?_ | refine zk ?_); with_reducible (constructor; repeat constructor)); try refine zl ?_)
      refine K_evd nmd [] [] mixed hng (by kernel_rfl) [0, 1, 5, 6] fun hf C S K hC hS hK => ?_; simp (disch := first | omega | assumption) only [go_sem, hg, tchAV, AV.cells, List.length_map, Oid.not_under_sub hr, Oid.sub_not_under hr, decide_true, decide_false, ne_eq, not_true_eq_false, not_false_eq_true]
      refine hC _ (hget _) (by simp (disch := first | omega | assumption) only [go_sem, Oid.not_under_sub hr, Oid.sub_not_under hr]) ?_
      simp (disch := first | omega | assumption) only [go_sem, hg, tchAV, AV.cells, List.length_map, Oid.not_under_sub hr, Oid.sub_not_under hr, decide_true, decide_false, ne_eq, not_true_eq_false, not_false_eq_true]
      refine hC _ (hval _) (by simp (disch := first | omega | assumption) only [go_sem, Oid.not_under_sub hr, Oid.sub_not_under hr]) ?_
      simp (disch := first | omega | assumption) only [go_sem, hg, tchAV, AV.cells, List.length_map, Oid.not_under_sub hr, Oid.sub_not_under hr, decide_true, decide_false, ne_eq, not_true_eq_false, not_false_eq_true]
      (first | refine hK (dynN_quiet rfl) ?_ | refine hK (by simp (disch := first | omega | assumption) only [go_sem, List.reverse_cons, List.reverse_nil, ne_eq, not_false_eq_true, implies_true]) ?_); clear hK hS hC K S C hf
      (repeat (first | (refine K_ifT rfl rfl ?_) | (refine K_ifF rfl rfl ?_) | (refine K_ev nmd [] hng (by kernel_rfl) fun hf C S K hC1 hC hS hK => ?_; simp (disch := first | omega | assumption) only [go_sem, hg, tchAV, AV.cells, List.length_map, Oid.not_under_sub hr, Oid.sub_not_under hr, decide_true, decide_false, ne_eq, not_true_eq_false, not_false_eq_true]; refine hK ?_; clear hK hS hC hC1 K S C hf) | ((first | refine zn ?_ | refine ze ?_ | refine zk ?_); with_reducible (constructor; repeat constructor); try refine zl ?_)))
      refine K_ifd rfl rfl (fun hb => ?_) (fun hb => ?_)
      · rw [beq_eq_false_iff_ne.2 hb, Bool.false_and] at hsp
        rw [hsp] at hag
        (repeat (first | (refine K_ifT rfl rfl ?_) | (refine K_ifF rfl rfl ?_) | (refine K_ev nmd [] hng (by kernel_rfl) fun hf C S K hC1 hC hS hK => ?_; simp (disch := first | omega | assumption) only [go_sem]; refine hK ?_; clear hK hS hC hC1 K S C hf) | ((first | refine zn ?_ | refine ze ?_ | refine zk ?_); with_reducible (constructor; repeat constructor); try refine zl ?_)))
        refine K_ret (done_upd (by rw [hag]; rfl) ?_ ?_)
        all_goals simp only [List.mem_cons, List.not_mem_nil, or_false, forall_eq_or_imp, forall_eq, Option.some.injEq, forall_eq', Mem.of_cons_at, eq_self, if_true, ↓reduceIte, reduceCtorEq, implies_true, not_true_eq_false, false_imp_iff, true_and, and_true, false_and, and_false, imp_self, Oid.not_under_sub hr, Oid.sub_not_under hr]
      · rw [beq_iff_eq.2 (Decidable.of_not_not hb), Bool.true_and] at hsp
        (repeat (first | (refine K_ifT rfl rfl ?_) | (refine K_ifF rfl rfl ?_) | (refine K_ev nmd [] hng (by kernel_rfl) fun hf C S K hC1 hC hS hK => ?_; simp (disch := first | omega | assumption) only [go_sem]; refine hK ?_; clear hK hS hC hC1 K S C hf) | ((first | refine zn ?_ | refine ze ?_ | refine zk ?_); with_reducible (constructor; repeat constructor); try refine zl ?_)))
        exact ⟨_, _, by omega, fun _ _ h => h, i + 1, _, rfl, rfl, by omega, by rw [hag, hsp]⟩
    | true =>
      rw [show valP L (gn, true) = encT (namesP L gn) from if_pos rfl] at hsp
      generalize namesP L gn = A at hnames henc hsp
      generalize encT A = V at henc hsp
      generalize getP L gn = B at hget hval
      generalize valT B = V1 at hval
      simp only [Bits.av] at hget hval
      (try ((first | refine zn ?_ | refine ze ?_ | refine zk ?_); with_reducible (constructor; repeat constructor)); try refine zl ?_)
      refine K_evd nmd [] [] mixed hng (by kernel_rfl) [0, 1, 5, 6] fun hf C S K hC hS hK => ?_; simp (disch := first | omega | assumption) only [go_sem, hg, tchAV, AV.cells, List.length_map, Oid.not_under_sub hr, Oid.sub_not_under hr, decide_true, decide_false, ne_eq, not_true_eq_false, not_false_eq_true]
      refine hC _ (hget _) (by simp (disch := first | omega | assumption) only [go_sem, Oid.not_under_sub hr, Oid.sub_not_under hr]) ?_
      simp (disch := first | omega | assumption) only [go_sem, hg, tchAV, AV.cells, List.length_map, Oid.not_under_sub hr, Oid.sub_not_under hr, decide_true, decide_false, ne_eq, not_true_eq_false, not_false_eq_true]
      refine hC _ (hval _) (by simp (disch := first | omega | assumption) only [go_sem, Oid.not_under_sub hr, Oid.sub_not_under hr]) ?_
      simp (disch := first | omega | assumption) only [go_sem, hg, tchAV, AV.cells, List.length_map, Oid.not_under_sub hr, Oid.sub_not_under hr, decide_true, decide_false, ne_eq, not_true_eq_false, not_false_eq_true]
      (first | refine hK (dynN_quiet rfl) ?_ | refine hK (by simp (disch := first | omega | assumption) only [go_sem, List.reverse_cons, List.reverse_nil, ne_eq, not_false_eq_true, implies_true]) ?_); clear hK hS hC K S C hf
      (repeat (first | (refine K_ifT rfl rfl ?_) | (refine K_ifF rfl rfl ?_) | (refine K_ev nmd [] hng (by kernel_rfl) fun hf C S K hC1 hC hS hK => ?_; simp (disch := first | omega | assumption) only [go_sem, hg, tchAV, AV.cells, List.length_map, Oid.not_under_sub hr, Oid.sub_not_under hr, decide_true, decide_false, ne_eq, not_true_eq_false, not_false_eq_true]; refine hK ?_; clear hK hS hC hC1 K S C hf) | ((first | refine zn ?_ | refine ze ?_ | refine zk ?_); with_reducible (constructor; repeat constructor); try refine zl ?_)))
      refine K_evd nmd [] [] mixed hng (by kernel_rfl) [0, 1, 5, 6] fun hf C S K hC hS hK => ?_; simp (disch := first | omega | assumption) only [go_sem, hg, tchAV, AV.cells, List.length_map, Oid.not_under_sub hr, Oid.sub_not_under hr, decide_true, decide_false, ne_eq, not_true_eq_false, not_false_eq_true]
      refine hC _ (hnames _) (by simp (disch := first | omega | assumption) only [go_sem, Oid.not_under_sub hr, Oid.sub_not_under hr]) ?_
      simp (disch := first | omega | assumption) only [go_sem, hg, tchAV, AV.cells, List.length_map, Oid.not_under_sub hr, Oid.sub_not_under hr, decide_true, decide_false, ne_eq, not_true_eq_false, not_false_eq_true]
      refine hC _ (henc _) (by simp (disch := first | omega | assumption) only [go_sem, Oid.not_under_sub hr, Oid.sub_not_under hr]) ?_
      simp (disch := first | omega | assumption) only [go_sem, hg, tchAV, AV.cells, List.length_map, Oid.not_under_sub hr, Oid.sub_not_under hr, decide_true, decide_false, ne_eq, not_true_eq_false, not_false_eq_true]
      (first | refine hK (dynN_quiet rfl) ?_ | refine hK (by simp (disch := first | omega | assumption) only [go_sem, List.reverse_cons, List.reverse_nil, ne_eq, not_false_eq_true, implies_true]) ?_); clear hK hS hC K S C hf
      (repeat (first | (refine K_ifT rfl rfl ?_) | (refine K_ifF rfl rfl ?_) | (refine K_ev nmd [] hng (by kernel_rfl) fun hf C S K hC1 hC hS hK => ?_; simp (disch := first | omega | assumption) only [go_sem, hg, tchAV, AV.cells, List.length_map, Oid.not_under_sub hr, Oid.sub_not_under hr, decide_true, decide_false, ne_eq, not_true_eq_false, not_false_eq_true]; refine hK ?_; clear hK hS hC hC1 K S C hf) | ((first | refine zn ?_ | refine ze ?_ | refine zk ?_); with_reducible (constructor; repeat constructor); try refine zl ?_)))
      refine K_ifd rfl rfl (fun hb => ?_) (fun hb => ?_)
      · rw [beq_eq_false_iff_ne.2 hb, Bool.false_and] at hsp
        rw [hsp] at hag
        (repeat (first | (refine K_ifT rfl rfl ?_) | (refine K_ifF rfl rfl ?_) | (refine K_ev nmd [] hng (by kernel_rfl) fun hf C S K hC1 hC hS hK => ?_; simp (disch := first | omega | assumption) only [go_sem]; refine hK ?_; clear hK hS hC hC1 K S C hf) | ((first | refine zn ?_ | refine ze ?_ | refine zk ?_); with_reducible (constructor; repeat constructor); try refine zl ?_)))
        refine K_ret (done_upd (by rw [hag]; rfl) ?_ ?_)
        all_goals simp only [List.mem_cons, List.not_mem_nil, or_false, forall_eq_or_imp, forall_eq, Option.some.injEq, forall_eq', Mem.of_cons_at, eq_self, if_true, ↓reduceIte, reduceCtorEq, implies_true, not_true_eq_false, false_imp_iff, true_and, and_true, false_and, and_false, imp_self, Oid.not_under_sub hr, Oid.sub_not_under hr]
      · rw [beq_iff_eq.2 (Decidable.of_not_not hb), Bool.true_and] at hsp
        (repeat (first | (refine K_ifT rfl rfl ?_) | (refine K_ifF rfl rfl ?_) | (refine K_ev nmd [] hng (by kernel_rfl) fun hf C S K hC1 hC hS hK => ?_; simp (disch := first | omega | assumption) only [go_sem]; refine hK ?_; clear hK hS hC hC1 K S C hf) | ((first | refine zn ?_ | refine ze ?_ | refine zk ?_); with_reducible (constructor; repeat constructor); try refine zl ?_)))
        exact ⟨_, _, by omega, fun _ _ h => h, i + 1, _, rfl, rfl, by omega, by rw [hag, hsp]⟩
  · obtain rfl : i = l.length := by omega
    (repeat (first | (refine K_ifT rfl rfl ?_) | (refine K_ifF rfl rfl ?_) | (refine K_ev nmd [] hng (by kernel_rfl) fun hf C S K hC1 hC hS hK => ?_; simp (disch := first | omega | assumption) only [go_sem]; refine hK ?_; clear hK hS hC hC1 K S C hf) | ((first | refine zn ?_ | refine ze ?_ | refine zk ?_); with_reducible (constructor; repeat constructor); try refine zl ?_)))
    rw [List.drop_length] at hag
    refine K_ret (done_upd (by rw [hag]; rfl) ?_ ?_)
    all_goals simp only [List.mem_cons, List.not_mem_nil, or_false, forall_eq_or_imp, forall_eq, Option.some.injEq, forall_eq', Mem.of_cons_at, eq_self, if_true, ↓reduceIte, reduceCtorEq, implies_true, not_true_eq_false, false_imp_iff, true_and, and_true, false_and, and_false, imp_self, Oid.not_under_sub hr, Oid.sub_not_under hr]
end Go.Proofs.YtaecbmbecofijaaGreatDoor
namespace Go.Proofs.YtaecbmbecofijaaGreatDoor
open Go Go.Ab
set_option maxRecDepth 20000
set_option maxHeartbeats 4000000
def two (a : Oid) (x y : AObj) : Oid → AObj := fun i => if i = a then x else y
theorem stoP_new {a b : Oid} (h : ¬ b = a) : StoP a ⟨[], none⟩ [a, b] (two a (.cells [.map b, .nilPtr]) (.map [.ss] false [] 0)) :=
  ⟨(by have h' : ¬ a = b := fun e => h e.symm; simp [h']), b, [], 0, rfl, if_pos rfl, if_neg h, mapP_new⟩
theorem sok_new : SOK ⟨[], none⟩ := ⟨List.Pairwise.nil, ⟨by simp, fun q hq => (by cases hq), fun q hq => (by cases hq)⟩, fun q hq => (by cases hq), fun q hq => (by cases hq)⟩
theorem copyP_ok {st : Oid} {s : St} {N : List Oid} {F : Oid → AObj} (h : StoP st s N F) : ∃ (es : List ME) (clock : Nat), MapP es s.L ∧ ∀ p, Old0 p N →
    CallOK Tryz.prog 18 [.ptr st 0] (Oid.under p) ⟨bk (N, F), .ptr (.sub 1 6 p) 0, [(.sub 1 6 p, some (.cells [.map (.sub 0 0 (.sub 1 4 p)), .nilPtr])), (.sub 0 0 (.sub 1 4 p), some (.map [.ss] false es clock))]⟩ := by
  obtain ⟨t, tv, es, clock, h1, h2, hts, k1, k2, k3⟩ := stoP_core h
  refine ⟨es, clock, k3, fun p ho => ?_⟩
  have hc := copy_ok st t tv es clock hts p (ho st h1) (ho t h2)
  refine ⟨hc.enters, fun x g args w m hm hn ha hs hx => hc.calls x g args w m hm (fun q hq => ?_) ha hs hx⟩
  refine hn q (mem_bk.2 ?_)
  simp only [List.mem_cons, List.not_mem_nil, or_false] at hq
  rcases hq with rfl | rfl
  · exact ⟨h1, k1.symm⟩
  · exact ⟨h2, k2.symm⟩
theorem pathsP_ok {st : Oid} {s : St} {N : List Oid} {F : Oid → AObj} (h : StoP st s N F) (hs : SOK s) (p : Oid) (ho : Old0 p N) :
    CallOK Tryz.prog 29 [.ptr st 0] (Oid.under p) ⟨bk (N, F), .list 1 (s.L.map fun q => .str q.1), []⟩ := by
  obtain ⟨t, tv, es, clock, h1, h2, hts, k1, k2, k3⟩ := stoP_core h
  have hc := paths_ok st t tv es clock (by rw [mapP_len k3]; have := hs.po.len; omega) hts p (ho st h1) (ho t h2)
  rw [pathsP_eq k3 hs.sl, List.map_map] at hc
  refine CallOK.needBk hc fun q hq => mem_bk.2 ?_
  simp only [List.mem_cons, List.not_mem_nil, or_false] at hq
  rcases hq with rfl | rfl
  · exact ⟨h1, k1.symm⟩
  · exact ⟨h2, k2.symm⟩
theorem agreesP_ok {st : Oid} {s : St} {N : List Oid} {F : Oid → AObj} (h : StoP st s N F) (hs : SOK s) (l : List Tch) (hl : l.length ≤ 4000000000) (hn : ∀ h ∈ l, h.1.1.length ≤ 140737488355000) (p : Oid) (hp : p.mono = false) (ho : Old0 p N) :
    CallOK Tryz.prog 27 [.ptr st 0, .list 3 (l.map tchAV)] (Oid.under p) ⟨bk (N, F), .bool (agreesL s.L l), []⟩ := by
  obtain ⟨t, tv, es, clock, h1, h2, hts, k1, k2, k3⟩ := stoP_core h
  have hc := agrees_ok st t tv es clock s.L k3 hs.sl hs.po l hl hn hts p hp (ho st h1) (ho t h2)
  refine CallOK.needBk hc fun q hq => mem_bk.2 ?_
  simp only [List.mem_cons, List.not_mem_nil, or_false] at hq
  rcases hq with rfl | rfl
  · exact ⟨h1, k1.symm⟩
  · exact ⟨h2, k2.symm⟩
theorem agreesRb_ok {r : Oid} {s : St} {N : List Oid} {F : Oid → AObj} (h : StoR r s N F) (hs : SOK s) (l : List Tch) (hl : l.length ≤ 4000000000) (hn : ∀ h ∈ l, h.1.1.length ≤ 140737488355000) (p : Oid) (ho : Old0 p N) :
    CallOK Tryz.prog 60 [.ptr r 0, .list 3 (l.map tchAV)] (Oid.under p) ⟨bk (N, F), .bool (agreesL s.L l), []⟩ := by
  obtain ⟨hN, o1, r1, w1, b1, k1⟩ := stoR_core h
  have h1 : r ∈ N := by rw [hN]; exact List.mem_singleton.2 rfl
  refine CallOK.needBk (agreesR_ok r s.L hs.po hs.no o1 r1 w1 b1 l hl hn p (ho r h1)) fun q hq => ?_
  rw [List.mem_singleton.1 hq]
  exact mem_bk.2 ⟨h1, k1.symm⟩
end Go.Proofs.YtaecbmbecofijaaGreatDoor
namespace Go.Proofs.YtaecbmbecofijaaGreatDoor
open Go Go.Ab
set_option maxRecDepth 20000
def VE (b : Bits) : Prop := b = Bits.no ∨ EG b
theorem VE.ok {b : Bits} (h : VE b) : b.ok := by
  rcases h with rfl | ⟨h1, h2, h3, h4⟩
  · exact ⟨⟨by decide, by decide⟩, ⟨by decide, by decide⟩, by decide⟩
  · exact ⟨⟨by omega, by omega⟩, ⟨by omega, by omega⟩, by omega⟩
theorem VE.pos {b : Bits} (h : VE b) : 0 ≤ b.k ∧ 0 ≤ b.m := by
  rcases h with rfl | ⟨h1, h2, _⟩
  · exact ⟨by decide, by decide⟩
  · exact ⟨by omega, by omega⟩
theorem VE.ent {b : Bits} (h : VE b) : entT (valT b) = (b, 0) ∧ (valT b).length ≤ 4000000000 := by
  rcases h with rfl | hb
  · exact ⟨rfl, by decide⟩
  · exact ⟨ent_val b hb.1 hb.2.1 hb.2.2.1 (by have := hb.2.2.2; omega), val_len hb⟩
theorem nodup_len {α : Type} [DecidableEq α] : ∀ {l m : List α}, l.Nodup → (∀ x ∈ l, x ∈ m) → l.length ≤ m.length
  | [], _, _, _ => Nat.zero_le _
  | a :: l, m, hn, hs => by
    rw [List.nodup_cons] at hn
    have h1 := nodup_len (m := m.erase a) hn.2 fun x hx => (List.mem_erase_of_ne fun e => hn.1 (by rw [← e]; exact hx)).2 (hs x (List.mem_cons_of_mem _ hx))
    have ha := hs a List.mem_cons_self
    rw [List.length_erase_of_mem ha] at h1
    have := List.length_pos_of_mem ha
    simp only [List.length_cons]; omega
theorem paths_six : ∀ n ∈ paths, n.length ≤ 6 := by decide
theorem paths_ten : paths.length = 10 := rfl
theorem pathT_mem (i : UInt8) : pathT i ∈ paths := by
  have h : i.toNat % 10 < 10 := Nat.mod_lt _ (by decide)
  unfold pathT
  generalize i.toNat % 10 = j at h
  have : ∀ j, j < 10 → paths.getD j default ∈ paths := by decide
  exact this j h
/-- A touch that such a store notes. -/
structure TV (x : Tch) : Prop where
  key : x.1.1 ∈ paths
  len : x.2.length ≤ 4000000000
  val : x.1.2 = false → ∃ b : Bits, VE b ∧ x.2 = valT b
structure QG (q : Tr) : Prop where
  key : ∀ z ∈ q.old, z.1 ∈ paths
  good : ∀ z ∈ q.old, EG z.2
  rd : ∀ x ∈ q.R, TV x
  wk : ∀ w ∈ q.W, w.1 ∈ paths
structure PG (s : St) : Prop where
  ok : SOK s
  key : ∀ z ∈ s.L, z.1 ∈ paths
  good : ∀ z ∈ s.L, EG z.2
  tr : ∀ q, s.t = some q → QG q
theorem keys_ten {ν : Type} {L : List (Str × ν)} (hs : SortG ltB L) (h : ∀ z ∈ L, z.1 ∈ paths) : L.length ≤ 10 := by
  have := nodup_len (m := paths) (hs.nodup ordB) fun x hx => by
    obtain ⟨z, hz, rfl⟩ := List.mem_map.1 hx
    exact h z hz
  rwa [List.length_map, paths_ten] at this
theorem keys_twenty {R : RL} (hs : SortG ltF R) (h : ∀ x ∈ R, x.1.1 ∈ paths) : R.length ≤ 20 := by
  have := nodup_len (m := paths.map (fun n => (n, false)) ++ paths.map fun n => (n, true)) (hs.nodup ordF) fun x hx => by
    obtain ⟨z, hz, rfl⟩ := List.mem_map.1 hx
    have h1 := h z hz
    obtain ⟨⟨n, b⟩, v⟩ := z
    cases b
    · exact List.mem_append_left _ (List.mem_map.2 ⟨n, h1, rfl⟩)
    · exact List.mem_append_right _ (List.mem_map.2 ⟨n, h1, rfl⟩)
  rw [List.length_map] at this
  exact this
theorem PG.len {s : St} (h : PG s) : s.L.length ≤ 10 := keys_ten h.ok.sl h.key
theorem PG.tl {s : St} (h : PG s) {q : Tr} (hq : s.t = some q) : q.R.length ≤ 20 ∧ q.W.length ≤ 10 :=
  ⟨keys_twenty (h.ok.tr q hq).sr fun x hx => ((h.tr q hq).rd x hx).key, keys_ten (h.ok.tr q hq).sw (h.tr q hq).wk⟩
theorem PG.tR {s : St} (h : PG s) : ∀ q, s.t = some q → q.R.length ≤ 1000000 ∧ q.W.length ≤ 1000000 := fun q hq => by
  have := h.tl hq; omega
theorem getP_ve {L : PL} (h : SortG ltB L) (hg : ∀ q ∈ L, EG q.2) (n : Str) : VE (getP L n) := by
  by_cases hn : n = []
  · subst hn
    refine .inr ?_
    unfold getP
    rw [if_pos rfl]
    exact ⟨⟨by decide, by decide⟩, ⟨by decide, by decide⟩, by decide, by decide⟩
  · rcases getP_eg h hg hn with ⟨_, e⟩ | ⟨b, _, e, hb⟩ <;> rw [e]
    · exact .inl rfl
    · exact .inr hb
theorem namesP_six {L : PL} (hk : ∀ q ∈ L, q.1 ∈ paths) {n r : Str} (h : r ∈ namesP L n) : r.length ≤ 6 := by
  obtain ⟨q, h1, h2⟩ := List.mem_filterMap.1 h
  have := congrArg List.length (restOf_some h2)
  have h3 := paths_six _ (hk q h1)
  simp only [List.length_append] at this
  omega
theorem valP_tv {L : PL} (h : SortG ltB L) (ho : POk L) (hk : ∀ q ∈ L, q.1 ∈ paths) (hg : ∀ q ∈ L, EG q.2) (f : Str × Bool) (hf : f.1 ∈ paths) : TV (f, valP L f) := by
  obtain ⟨n, b⟩ := f
  have hv := getP_ve h hg n
  cases b with
  | false => exact ⟨hf, hv.ent.2, fun _ => ⟨_, hv, rfl⟩⟩
  | true =>
    refine ⟨hf, ?_, fun e => by cases e⟩
    show (encT (namesP L n)).length ≤ _
    have h1 := encT_le (k := 6) (by decide) fun s hs => namesP_six hk (n := n) hs
    have h2 := (namesP_enc ho n).2
    have : (namesP L n).length * (6 + 100) ≤ 1000000 * 106 := Nat.mul_le_mul_right _ h2
    omega
theorem PG.read {s : St} (h : PG s) (f : Str × Bool) (hf : f.1 ∈ paths) : PG (s.read f) :=
  ⟨h.ok.read f, h.key, h.good, fun q hq => by
    simp only [St.read, Option.map_eq_some_iff] at hq
    obtain ⟨a, h1, rfl⟩ := hq
    have hT := h.ok.tr a h1
    have k := h.tr a h1
    refine ⟨k.key, k.good, fun x hx => ?_, k.wk⟩
    have hx' : x ∈ readR a.old a.W f a.R := hx
    unfold readR at hx'
    split at hx'
    · exact k.rd x hx'
    · split at hx'
      · exact k.rd x hx'
      · rcases insG_mem hx' with hx | hx
        · rw [List.mem_singleton.1 hx]; exact valP_tv hT.so hT.po k.key k.good f hf
        · exact k.rd x hx⟩
theorem PG.put {s : St} (h : PG s) (k : Str) (hk : k ∈ paths) (b : Bits) (hb : b.k = 0 ∨ EG b) (hbo : b.ok) (hb2 : 0 ≤ b.k ∧ 0 ≤ b.m) : PG (s.put k b) :=
  ⟨h.ok.put _ _ (Nat.lt_of_le_of_lt h.len (by decide)) (Nat.le_trans (paths_six k hk) (by decide)) hbo hb2,
    fun q hq => by
      rcases putP_mem' hq with ⟨rfl, _⟩ | hq
      · exact hk
      · exact h.key q hq,
    fun q hq => by
      rcases putP_mem' hq with ⟨rfl, h0⟩ | hq
      · exact hb.resolve_left h0
      · exact h.good q hq,
   fun q hq => by
    simp only [St.put, Option.map_eq_some_iff] at hq
    obtain ⟨a, h1, rfl⟩ := hq
    have k1 := h.tr a h1
    refine ⟨k1.key, k1.good, k1.rd, fun w hw => ?_⟩
    have hw' : w ∈ putW true k a.W := hw
    unfold putW at hw'
    split at hw'
    · exact k1.wk w hw'
    · rw [if_pos rfl] at hw'
      rcases insG_mem hw' with hw | hw
      · rw [List.mem_singleton.1 hw]; exact hk
      · exact k1.wk w hw⟩
theorem PG.new : PG ⟨[], none⟩ := ⟨sok_new, fun z hz => (by cases hz), fun z hz => (by cases hz), fun q hq => (by cases hq)⟩
theorem PG.begin {s : St} (h : PG s) : PG s.begin :=
  ⟨h.ok.begin, h.key, h.good, fun q hq => by
    simp only [St.begin, Option.some.injEq] at hq
    subst hq
    exact ⟨h.key, h.good, fun x hx => (by cases hx), fun w hw => (by cases hw)⟩⟩
theorem PG.halt {s : St} (h : PG s) : PG s.halt := ⟨h.ok.halt, h.key, h.good, fun q hq => by cases hq⟩
/-- What was noted last. -/
structure NT (l : List Tch) : Prop where
  tv : ∀ x ∈ l, TV x
  len : l.length ≤ 20
theorem NT.nil : NT [] := ⟨fun x hx => (by cases hx), Nat.zero_le _⟩
theorem PG.reads {s : St} (h : PG s) : NT s.reads := by
  unfold St.reads
  cases ht : s.t with
  | none => exact NT.nil
  | some q => exact ⟨(h.tr q ht).rd, (h.tl ht).1⟩
theorem PG.writes {s : St} (h : PG s) : NT s.writes := by
  unfold St.writes
  cases ht : s.t with
  | none => exact NT.nil
  | some q =>
    refine ⟨fun x hx => ?_, by rw [List.length_map]; have := (h.tl ht).2; omega⟩
    obtain ⟨w, hw, rfl⟩ := List.mem_map.1 hx
    have hv := getP_ve h.ok.sl h.good w.1
    exact ⟨(h.tr q ht).wk w hw, hv.ent.2, fun _ => ⟨_, hv, rfl⟩⟩
theorem TV.good {x : Tch} (k : TV x) (g : goodT x = true) : ∃ b : Bits, VE b ∧ (entT x.2).1 = b ∧ (entT x.2).2 = 0 ∧ x.1.2 = false := by
  simp only [goodT, Bool.and_eq_true, decide_eq_true_eq, Bool.not_eq_true'] at g
  obtain ⟨b, hb, e⟩ := k.val g.2
  exact ⟨b, hb, by rw [e, hb.ent.1], g.1, g.2⟩
theorem NT.app {l : List Tch} (h : NT l) (hg : l.all goodT = true) : ∀ x ∈ l, AppOK x := fun x hx => by
  have k := h.tv x hx
  obtain ⟨b, hb, he, g1, g2⟩ := k.good (List.all_eq_true.1 hg x hx)
  exact ⟨Nat.le_trans (paths_six _ k.key) (by decide), k.len, by rw [he]; exact hb.ok, by rw [he]; exact hb.pos, g1, g2⟩
theorem PG.puts : ∀ (l : List Tch) (s : St), PG s → (∀ x ∈ l, TV x) → l.all goodT = true → PG (putsL s l)
  | [], s, h, _, _ => h
  | x :: l, s, h, hl, hg => by
    have hx := hl x List.mem_cons_self
    rw [List.all_cons, Bool.and_eq_true] at hg
    obtain ⟨b, hb, he, _, _⟩ := hx.good hg.1
    simp only [putsL, he]
    exact PG.puts l _ (h.put x.1.1 hx.key b (hb.imp (fun e => by rw [e]; rfl) id) hb.ok hb.pos) (fun y hy => hl y (List.mem_cons_of_mem _ hy)) hg.2
/-- Applied, or refused. -/
def appS (s : St) (l : List Tch) : St := if l.all goodT = true then putsL s l else s
def appE (l : List Tch) : Int := if l.all goodT = true then 0 else 20
theorem PG.apply {s : St} {l : List Tch} (h : PG s) (hl : NT l) : PG (appS s l) := by
  unfold appS
  split
  · rename_i hg; exact PG.puts l s h hl.tv hg
  · exact h
/-- A store applied to, as a block. -/
theorem appP_ok {st : Oid} {s : St} {N : List Oid} {F : Oid → AObj} {l : List Tch} (h : StoP st s N F) (hs : PG s) (hl : NT l) :
    ∃ F', StoP st (appS s l) N F' ∧ ∀ p, p.mono = false → Old0 p N → CallOK Tryz.prog 28 [.ptr st 0, .list 3 (l.map tchAV)] (Oid.under p) ⟨bk (N, F), .int .i64 (appE l), sb N F'⟩ := by
  have h1 := hl.len
  have h2 := hs.len
  unfold appS appE
  by_cases hg : l.all goodT = true
  · rw [if_pos hg, if_pos hg]
    exact applyP_ok h hs.ok l (by omega) (hl.app hg)
  · rw [if_neg hg, if_neg hg]
    refine ⟨F, h, fun p hp _ => ?_⟩
    exact (applyBad_ok st l (by omega) (fun x hx => (hl.tv x hx).len) ((Bool.not_eq_true _).mp hg) p hp).toBk (fun _ h => by cases h) (fun _ h => by cases h) fun i hi => of_bk0 hi
theorem appR_ok {r : Oid} {s : St} {N : List Oid} {F : Oid → AObj} {l : List Tch} (h : StoR r s N F) (hs : PG s) (hl : NT l) :
    ∃ F', StoR r (appS s l) N F' ∧ ∀ p, p.mono = false → Old0 p N → CallOK Tryz.prog 61 [.ptr r 0, .list 3 (l.map tchAV)] (Oid.under p) ⟨bk (N, F), .int .i64 (appE l), sb N F'⟩ := by
  have h1 := hl.len
  have h2 := hs.len
  unfold appS appE
  by_cases hg : l.all goodT = true
  · rw [if_pos hg, if_pos hg]
    exact applyR_ok h hs.ok l (by omega) (fun q hq => by have := hs.tl hq; omega) (hl.app hg)
  · rw [if_neg hg, if_neg hg]
    refine ⟨F, h, fun p hp _ => ?_⟩
    exact (applyRbad_ok r l (by omega) (fun x hx => (hl.tv x hx).len) ((Bool.not_eq_true _).mp hg) p hp).toBk (fun _ h => by cases h) (fun _ h => by cases h) fun i hi => of_bk0 hi
end Go.Proofs.YtaecbmbecofijaaGreatDoor
namespace Go.Ab
/-- All of K is forgotten, then all of K' is set. -/
def sbn (K K' : List Oid) (f : Oid → AObj) : List (Oid × Option AObj) := (K.map fun i => (i, none)) ++ sb K' f
theorem upds_none_at (K : List Oid) (i : Oid) : ∀ m : Mem, (m.upds (K.map fun i => (i, none))) i = if i ∈ K then none else m i := by
  induction K with
  | nil => intro m; simp [Mem.upds]
  | cons j K ih =>
    intro m
    show ((m.set j none).upds _) i = _
    rw [ih]
    by_cases h1 : i ∈ K
    · rw [if_pos h1, if_pos (List.mem_cons_of_mem _ h1)]
    · rw [if_neg h1]
      by_cases h2 : i = j
      · subst h2; rw [if_pos List.mem_cons_self]; simp [Mem.set]
      · rw [if_neg (fun h => (List.mem_cons.1 h).elim h2 h1)]; simp [Mem.set, h2]
theorem sbn_at (K K' : List Oid) (f : Oid → AObj) (m : Mem) (i : Oid) : (m.upds (sbn K K' f)) i = if i ∈ K' then some (f i) else if i ∈ K then none else m i := by
  unfold sbn
  rw [upds_append, upds_at, upds_none_at]
theorem done_bn {P : Program} {rs : List ResultVar} {fr : List (Nat × AV)} {m : Mem} {c : Nat} {val : AV} {K K' : List Oid} {f g : Oid → AObj} {Rp : AV → List (Oid × Option AObj) → Prop} (h1 : retM P m fr rs = some val) (h4 : ∀ q, q ∈ bk (K', g) → m q.1 = some q.2) :
    DoneN P rs (bk (K, f)) (fun v u => v = val ∧ u = sbn K K' g) Rp .ret ⟨fr, m, c, []⟩ :=
  done_ret val _ h1 ⟨rfl, rfl⟩ fun i o h => by
    rw [sbn_at] at h
    split at h
    · rename_i hi; rw [← h]; exact h4 (i, g i) (mem_bk.2 ⟨hi, rfl⟩)
    · split at h
      · cases h
      · rename_i h2
        obtain ⟨q, k1, rfl, rfl⟩ := Mem.of_mem h
        exact absurd (mem_bk.1 k1).1 h2
theorem blk_off {K : List Oid} {i : Oid} : ∀ Cs : List Bk, (∀ B ∈ Cs, DJ K B.1) → ∀ o, Mem.blk [] Cs i = some o → i ∉ K
  | [], _, o, h => by cases h
  | (M, E) :: Cs, hC, o, h => by
    rw [blk_nil_at] at h
    split at h
    · rename_i hm; exact fun hi => hC (M, E) List.mem_cons_self i hi hm
    · exact blk_off Cs (fun B hB => hC B (List.mem_cons_of_mem _ hB)) o h
theorem blk_exn {K K' : List Oid} {F G : Oid → AObj} {Bs : List Bk} (hB : ∀ B ∈ Bs, DJ K B.1) : ∀ A : List (Oid × AObj), (∀ a ∈ A, a.1 ∉ K' ∧ a.1 ∉ K) → ∀ i o, Mem.blk A ((K', G) :: Bs) i = some o → ((Mem.blk A ((K, F) :: Bs)).upds (sbn K K' G)) i = some o
  | [], _, i, o, h => by
    rw [sbn_at]
    rw [blk_nil_at] at h ⊢
    split at h
    · rename_i hi; rw [if_pos hi]; exact h
    · rename_i hi
      have hk := blk_off Bs hB o h
      rw [if_neg hi, if_neg hk, if_neg hk]; exact h
  | a :: A, hA, i, o, h => by
    have ih := blk_exn (F := F) (G := G) hB A (fun a ha => hA a (List.mem_cons_of_mem _ ha)) i o
    rw [sbn_at] at ih ⊢
    rw [Mem.blk_at] at h ⊢
    split at h
    · rename_i e
      rw [if_neg (by rw [e]; exact (hA a List.mem_cons_self).1), if_neg (by rw [e]; exact (hA a List.mem_cons_self).2), if_pos e]; exact h
    · rename_i e
      rw [if_neg e]; exact ih h
theorem K_exn {P : Program} [Laid P] {x : Ctx} {n : Nat} {a : Code} {Q : AX → AS → Prop} {fr : List (Nat × AV)} {c : Nat} {ds : List AD} {A : List (Oid × AObj)} {K K' : List Oid} {F G : Oid → AObj} {Bs : List Bk} (hA : ∀ a ∈ A, a.1 ∉ K' ∧ a.1 ∉ K) (hB : ∀ B ∈ Bs, DJ K B.1)
    (h : T P x n a ⟨fr, Mem.blk A ((K', G) :: Bs), c, ds⟩ Q) : T P x n a ⟨fr, (Mem.blk A ((K, F) :: Bs)).upds (sbn K K' G), c, ds⟩ Q := K_drop _ (blk_exn hB A hA) h
end Go.Ab
namespace Go.Proofs.YtaecbmbecofijaaGreatDoor
open Go Go.Ab
set_option maxRecDepth 20000
theorem StoP.congr {st : Oid} {s : St} {N : List Oid} {F F' : Oid → AObj} (h : StoP st s N F) (hc : ∀ i ∈ N, F' i = F i) : StoP st s N F' := by
  obtain ⟨L, t0⟩ := s
  obtain ⟨hnd, h⟩ := h
  refine ⟨hnd, ?_⟩
  cases t0 with
  | none =>
    obtain ⟨t, es, clock, rfl, k1, k2, k3⟩ := h
    exact ⟨t, es, clock, rfl, by rw [hc st (by simp)]; exact k1, by rw [hc t (by simp)]; exact k2, k3⟩
  | some q =>
    obtain ⟨t, tr, o, rd, wr, es, eso, esr, esw, clock, co, cr, cw, rfl, k1, k2, k3, k4, k5, k6, m1, m2, m3, m4⟩ := h
    exact ⟨t, tr, o, rd, wr, es, eso, esr, esw, clock, co, cr, cw, rfl, by rw [hc st (by simp)]; exact k1, by rw [hc t (by simp)]; exact k2, by rw [hc tr (by simp)]; exact k3, by rw [hc o (by simp)]; exact k4, by rw [hc rd (by simp)]; exact k5, by rw [hc wr (by simp)]; exact k6, m1, m2, m3, m4⟩
theorem StoR.congr {r : Oid} {s : St} {N : List Oid} {F F' : Oid → AObj} (h : StoR r s N F) (hc : ∀ i ∈ N, F' i = F i) : StoR r s N F' := by
  obtain ⟨L, t0⟩ := s
  obtain ⟨rfl, h⟩ := h
  refine ⟨rfl, ?_⟩
  have e := hc r (by simp)
  cases t0 with
  | none => obtain ⟨OO, h⟩ := h; exact ⟨OO, by rw [e]; exact h⟩
  | some q => show F' r = _; rw [e]; exact h
/-- One object, and two blocks. -/
def jn (pr : Oid) (o : AObj) (N : List Oid) (F G : Oid → AObj) : Oid → AObj := fun i => if i = pr then o else if i ∈ N then F i else G i
theorem jn_pr (pr : Oid) (o : AObj) (N : List Oid) (F G : Oid → AObj) : jn pr o N F G pr = o := if_pos rfl
theorem jn_N {pr : Oid} {o : AObj} {N : List Oid} {F G : Oid → AObj} (h : pr ∉ N) : ∀ i ∈ N, jn pr o N F G i = F i := fun i hi => by
  unfold jn; rw [if_neg (fun e : i = pr => h (e ▸ hi)), if_pos hi]
theorem jn_M {pr : Oid} {o : AObj} {N M : List Oid} {F G : Oid → AObj} (h : pr ∉ M) (hd : DJ N M) : ∀ i ∈ M, jn pr o N F G i = G i := fun i hi => by
  unfold jn; rw [if_neg (fun e : i = pr => h (e ▸ hi)), if_neg (fun hn => hd i hn hi)]
theorem blk_open (pr : Oid) (N M : List Oid) (H : Oid → AObj) : Mem.of (bk (pr :: (N ++ M), H)) = Mem.blk [(pr, H pr)] [(N, H), (M, H)] := by
  simp [Mem.blk, bk, List.map_append]
theorem done_jn {P : Program} {rs : List ResultVar} {fr : List (Nat × AV)} {m : Mem} {c : Nat} {val : AV} {K N' M : List Oid} {pr : Oid} {o : AObj} {H F G : Oid → AObj} {Rp : AV → List (Oid × Option AObj) → Prop} (h1 : retM P m fr rs = some val)
    (hp : pr ∉ N') (hp2 : pr ∉ M) (hd : DJ N' M) (h2 : m pr = some o) (h3 : ∀ q, q ∈ bk (N', F) → m q.1 = some q.2) (h4 : ∀ q, q ∈ bk (M, G) → m q.1 = some q.2) :
    DoneN P rs (bk (K, H)) (fun v u => v = val ∧ u = sbn K (pr :: (N' ++ M)) (jn pr o N' F G)) Rp .ret ⟨fr, m, c, []⟩ :=
  done_bn h1 fun q hq => by
    obtain ⟨i, a⟩ := q
    obtain ⟨k1, k2⟩ := mem_bk.1 hq
    simp only at k1 k2 ⊢
    rw [k2]
    rcases List.mem_cons.1 k1 with rfl | k1
    · rw [jn_pr]; exact h2
    · rcases List.mem_append.1 k1 with k1 | k1
      · have := h3 (i, F i) (mem_bk.2 ⟨k1, rfl⟩)
        simp only at this
        rw [this, jn_N hp i k1]
      · have := h4 (i, G i) (mem_bk.2 ⟨k1, rfl⟩)
        simp only at this
        rw [this, jn_M hp2 hd i k1]
/-- The pair of the law: its own cells, the program's store, the reference's. -/
structure PairB (pr st r : Oid) (s : St) (RD WR : List Tch) (N M : List Oid) (H : Oid → AObj) : Prop where
  nN : pr ∉ N
  nM : pr ∉ M
  dj : DJ N M
  ce : H pr = .cells [.ptr st 0, .ptr r 0, .list 3 (RD.map tchAV), .list 3 (WR.map tchAV)]
  sp : StoP st s N H
  sr : StoR r s M H
  pg : PG s
  rd : NT RD
  wr : NT WR
theorem PairB.old {pr st r : Oid} {s : St} {RD WR : List Tch} {N M : List Oid} {H : Oid → AObj} (_ : PairB pr st r s RD WR N M H) {p : Oid} (h : Old0 p (pr :: (N ++ M))) : ¬ Oid.under p pr ∧ Old0 p N ∧ Old0 p M :=
  ⟨h pr List.mem_cons_self, fun i hi => h i (List.mem_cons_of_mem _ (List.mem_append_left _ hi)), fun i hi => h i (List.mem_cons_of_mem _ (List.mem_append_right _ hi))⟩
theorem PairB.mk' {pr st r : Oid} {s : St} {RD WR : List Tch} {N M : List Oid} {F G : Oid → AObj} (nN : pr ∉ N) (nM : pr ∉ M) (dj : DJ N M) (sp : StoP st s N F) (sr : StoR r s M G) (pg : PG s) (rd : NT RD) (wr : NT WR) :
    PairB pr st r s RD WR N M (jn pr (.cells [.ptr st 0, .ptr r 0, .list 3 (RD.map tchAV), .list 3 (WR.map tchAV)]) N F G) :=
  ⟨nN, nM, dj, jn_pr _ _ _ _ _, sp.congr (jn_N nN), sr.congr (jn_M nM dj), pg, rd, wr⟩
end Go.Proofs.YtaecbmbecofijaaGreatDoor
namespace Go.Ab
/-! ### names of blocks, in what must not meet -/
theorem fsts_sb (N : List Oid) (F : Oid → AObj) : fsts (sb N F) = N := by
  induction N with
  | nil => rfl
  | cons i N ih => show i :: fsts (sb N F) = _; rw [ih]
theorem fsts_bk (N : List Oid) (F : Oid → AObj) : fsts (bk (N, F)) = N := by
  induction N with
  | nil => rfl
  | cons i N ih => show i :: fsts (bk (N, F)) = _; rw [ih]
theorem fsts_app {α β : Type} (a b : List (α × β)) : fsts (a ++ b) = fsts a ++ fsts b := by
  induction a with
  | nil => rfl
  | cons q a ih => show q.1 :: fsts (a ++ b) = _; rw [ih]; rfl
def gone (N : List Oid) : List (Oid × Option AObj) := N.map fun i => (i, none)
theorem fsts_gone (N : List Oid) : fsts (gone N) = N := by
  induction N with
  | nil => rfl
  | cons i N ih => show i :: fsts (gone N) = _; rw [ih]
theorem gone_at (K : List Oid) (i : Oid) : ∀ m : Mem, (m.upds (gone K)) i = if i ∈ K then none else m i := by
  induction K with
  | nil => intro m; simp [gone, Mem.upds]
  | cons j K ih =>
    intro m
    show ((m.set j none).upds (gone K)) i = _
    rw [ih]
    by_cases h1 : i ∈ K
    · rw [if_pos h1, if_pos (List.mem_cons_of_mem _ h1)]
    · rw [if_neg h1]
      by_cases h2 : i = j
      · subst h2; rw [if_pos List.mem_cons_self]; simp [Mem.set]
      · rw [if_neg (fun h => (List.mem_cons.1 h).elim h2 h1)]; simp [Mem.set, h2]
/-- The end of a body that forgets what it was handed. -/
theorem done_gone {P : Program} {rs : List ResultVar} {fr : List (Nat × AV)} {m : Mem} {c : Nat} {val : AV} {N M : List Oid} {F G : Oid → AObj} {Rp : AV → List (Oid × Option AObj) → Prop} (h1 : retM P m fr rs = some val) :
    DoneN P rs (bk (N, F) ++ bk (M, G)) (fun v u => v = val ∧ u = gone (N ++ M)) Rp .ret ⟨fr, m, c, []⟩ :=
  done_ret val _ h1 ⟨rfl, rfl⟩ fun i o h => by
    rw [gone_at] at h
    split at h
    · cases h
    · rename_i h2
      obtain ⟨q, k1, rfl, rfl⟩ := Mem.of_mem h
      rcases List.mem_append.1 k1 with k1 | k1
      · exact absurd (List.mem_append_left _ (mem_bk.1 k1).1) h2
      · exact absurd (List.mem_append_right _ (mem_bk.1 k1).1) h2
theorem all_nm_l {a : Oid} {N : List Oid} (h : a ∉ N) : (∀ i, i ∈ N → ¬ i = a) = True := eq_true fun i hi e => h (e ▸ hi)
attribute [go_sem] fsts_app fsts_gone fsts_sb fsts_bk all_nm_l
end Go.Ab
namespace Go.Proofs.YtaecbmbecofijaaGreatDoor
open Go Go.Ab
set_option maxRecDepth 20000
set_option maxHeartbeats 4000000
structure Act where
  a : UInt8
  b : UInt8
  m : UInt8
  k : UInt8
  l : UInt8
instance : Inhabited Act := ⟨⟨0, 0, 0, 0, 0⟩⟩
def actA (q : Act) : AV := .agg [.int .u8 q.a.toNat, .int .u8 q.b.toNat, .int .u8 q.m.toNat, .int .u8 q.k.toNat, .int .u8 q.l.toNat]
end Go.Proofs.YtaecbmbecofijaaGreatDoor
namespace Go.Proofs.YtaecbmbecofijaaGreatDoor
open Go Go.Ab
set_option maxRecDepth 20000
set_option maxHeartbeats 4000000
theorem nbu1 {N : List Oid} {G : Oid → AObj} (m : Mem) : ∀ x, x ∈ bk (N, G) → (m.upds (sb N G)) x.1 = some x.2 := fun x hx => by
  obtain ⟨h1, h2⟩ := mem_bk.1 hx
  rw [upds_at, if_pos h1, h2]
theorem nbA1 {A : List (Oid × AObj)} {N : List Oid} {F : Oid → AObj} (hA : ∀ e ∈ A, e.1 ∉ N) (Bs : List Bk) : ∀ x, x ∈ bk (N, F) → Mem.blk A ((N, F) :: Bs) x.1 = some x.2 := by
  induction A with
  | nil => intro x hx; obtain ⟨h1, h2⟩ := mem_bk.1 hx; rw [blk_nil_at, if_pos h1, h2]
  | cons a A ih =>
    intro x hx
    rw [Mem.blk_at, if_neg fun e : x.1 = a.1 => hA a List.mem_cons_self (e ▸ (mem_bk.1 hx).1)]
    exact ih (fun e he => hA e (List.mem_cons_of_mem _ he)) x hx
theorem nbA2 {A : List (Oid × AObj)} {N M : List Oid} {F G : Oid → AObj} (hA : ∀ e ∈ A, e.1 ∉ M) (hd : DJ N M) (Bs : List Bk) : ∀ x, x ∈ bk (M, G) → Mem.blk A ((N, F) :: (M, G) :: Bs) x.1 = some x.2 := by
  induction A with
  | nil => intro x hx; obtain ⟨h1, h2⟩ := mem_bk.1 hx; rw [blk_nil_at, if_neg (fun h => hd _ h h1), blk_nil_at, if_pos h1, h2]
  | cons a A ih =>
    intro x hx
    rw [Mem.blk_at, if_neg fun e : x.1 = a.1 => hA a List.mem_cons_self (e ▸ (mem_bk.1 hx).1)]
    exact ih (fun e he => hA e (List.mem_cons_of_mem _ he)) x hx
/-- What an act comes to. -/
def DoesOK (pr st r : Oid) (N M : List Oid) (H : Oid → AObj) (a : Act) (p : Oid) : Prop :=
  ∃ (s' : St) (RD' WR' : List Tch) (N' : List Oid) (H' : Oid → AObj), PairB pr st r s' RD' WR' N' M H' ∧ (∀ i ∈ N', i ∈ N ∨ Oid.under p i) ∧
    CallOK Tryz.prog 17 [.ptr pr 0, actA a] (Oid.under p) ⟨bk (pr :: (N ++ M), H), .bool true, sbn (pr :: (N ++ M)) (pr :: (N' ++ M)) H'⟩
section
variable {pr st r : Oid} {s : St} {RD WR : List Tch} {N M : List Oid} {H : Oid → AObj} (h : PairB pr st r s RD WR N M H) (b m k l : UInt8) {p : Oid} (hp : p.mono = false) (hO : Old0 p (pr :: (N ++ M)))
include h hp hO
theorem does_at (a : UInt8) (ha : a.toNat % 8 = 3) : DoesOK pr st r N M H ⟨a, b, m, k, l⟩ p := by
  obtain ⟨hpr, hON, hOM⟩ := h.old hO; have hN := h.nN; have hM := h.nM; have hdj := h.dj; have hn := pathT_mem b; have hnl := paths_six _ hn; have hP := fun p => path_ok b p; have hce := h.ce
  obtain ⟨F', hF, hA⟩ := atP_ok h.sp h.pg.ok (pathT b) (by omega)
  obtain ⟨G', hG, hB⟩ := atR_ok h.sr h.pg.ok h.pg.tR (pathT b) (by omega)
  refine ⟨s.read (pathT b, false), RD, WR, N, _, PairB.mk' hN hM hdj hF hG (h.pg.read _ hn) h.rd h.wr, fun i hi => .inl hi, ?_⟩
  have hmod : ((a.toNat : Int)).tmod 8 = ((3 : Nat) : Int) := by rw [← ha]; exact tmod_nat _ 8
  generalize getP s.L (pathT b) = B at hA hB
  generalize pathT b = n at hP hA hB
  obtain ⟨ek, em, el⟩ := B
  simp only [Bits.av] at hA hB
  refine fnOK (n := 171) (rs := [.tmp 4]) Tryz.func17 rfl rfl (by decide) rfl rfl rfl ?_; rintro x rfl hrd hng; rw [blk_open, hce]; (try ((first | refine zn ?_ | refine ze ?_ | refine zk ?_); with_reducible (constructor; repeat constructor)); try refine zl ?_); refine K_ev nmd [] hng (by kernel_rfl) fun hf C S K hC1 hC hS hK => ?_; simp (disch := first | omega | assumption) only [go_sem, actA, AV.cells]; refine hK ?_; clear hK hS hC hC1 K S C hf; (try ((first | refine zn ?_ | refine ze ?_ | refine zk ?_); with_reducible (constructor; repeat constructor)); try refine zl ?_); refine K_ev nmd [] hng (by kernel_rfl) fun hf C S K hC1 hC hS hK => ?_; simp (disch := first | omega | assumption) only [go_sem, actA, AV.cells, Oid.not_under_sub hpr, Oid.sub_not_under hpr, hN, hM, hdj, hON, hOM]; refine hC1 _ (hP _) (by simp (disch := first | omega | assumption) only [go_sem]) ?_; simp (disch := first | omega | assumption) only [go_sem, actA, AV.cells, Oid.not_under_sub hpr, Oid.sub_not_under hpr, hN, hM, hdj, hON, hOM]; refine hK ?_; clear hK hS hC hC1 K S C hf
  (repeat (first | (refine K_ifT rfl rfl ?_) | (refine K_ifF rfl rfl ?_) | (refine K_ev nmd [] hng (by kernel_rfl) fun hf C S K hC1 hC hS hK => ?_; simp (disch := first | omega | assumption) only [go_sem, actA, AV.cells, Oid.not_under_sub hpr, Oid.sub_not_under hpr, hN, hM, hdj, hON, hOM, hmod]; refine hK ?_; clear hK hS hC hC1 K S C hf) | ((first | refine zn ?_ | refine ze ?_ | refine zk ?_); with_reducible (constructor; repeat constructor); try refine zl ?_)))
  refine K_evd nmd [] [(5, 9)] mixed hng (by kernel_rfl) [4] fun hf C S K hC hS hK => ?_; simp (disch := first | omega | assumption) only [go_sem, Oid.not_under_sub hpr, Oid.sub_not_under hpr, hN, hM, hdj, hON, hOM]
  refine hC _ (hA _ (mono_sub' rfl hp) (hON.sub _ _)) (by first | exact nbu1 _ | exact nbA1 (by simp [hN, hON.mem]) _) ?_
  simp (disch := first | omega | assumption) only [go_sem, Oid.not_under_sub hpr, Oid.sub_not_under hpr, hN, hM, hdj, hON, hOM]
  refine hC _ (hB _ (mono_sub' rfl hp) (hOM.sub _ _)) (by first | exact nbu1 _ | exact nbA2 (by simp [hM, hOM.mem]) hdj _) ?_
  simp (disch := first | omega | assumption) only [go_sem, Oid.not_under_sub hpr, Oid.sub_not_under hpr, hN, hM, hdj, hON, hOM, eq_self, decide_true, decide_false, ne_eq, not_true_eq_false, not_false_eq_true]
  (first | refine hK (dynN_quiet rfl) ?_ | refine hK (by simp (disch := first | omega | assumption) only [go_sem, List.reverse_cons, List.reverse_nil, ne_eq, not_false_eq_true, implies_true]) ?_); clear hK hS hC K S C hf
  (repeat (first | (refine K_ifT rfl rfl ?_) | (refine K_ifF rfl rfl ?_) | (refine K_ev nmd [] hng (by kernel_rfl) fun hf C S K hC1 hC hS hK => ?_; simp (disch := first | omega | assumption) only [go_sem]; refine hK ?_; clear hK hS hC hC1 K S C hf) | ((first | refine zn ?_ | refine ze ?_ | refine zk ?_); with_reducible (constructor; repeat constructor); try refine zl ?_)))
  refine K_ret (done_jn (by simp (disch := first | omega | assumption) only [go_sem, Oid.not_under_sub hpr, Oid.sub_not_under hpr, hN, hM, hdj, hON, hOM]) hN hM hdj (by show _ = some _; simp (disch := first | omega | assumption) only [go_sem, Oid.not_under_sub hpr, Oid.sub_not_under hpr, hN, hM, hdj, hON, hOM]) (by first | exact nbu1 _ | exact nbA1 (by simp [hN, hON.mem]) _) (by first | exact nbu1 _ | exact nbA2 (by simp [hM, hOM.mem]) hdj _))
theorem does_names (a : UInt8) (ha : a.toNat % 8 = 4) : DoesOK pr st r N M H ⟨a, b, m, k, l⟩ p := by
  obtain ⟨hpr, hON, hOM⟩ := h.old hO; have hN := h.nN; have hM := h.nM; have hdj := h.dj; have hn := pathT_mem b; have hnl := paths_six _ hn; have hP := fun p => path_ok b p; have hce := h.ce
  obtain ⟨F', hF, hA⟩ := namesP_ok h.sp h.pg.ok (pathT b) (by omega)
  obtain ⟨G', hG, hB⟩ := namesRt_ok h.sr h.pg.ok h.pg.tR (pathT b) (by omega)
  refine ⟨s.read (pathT b, true), RD, WR, N, _, PairB.mk' hN hM hdj hF hG (h.pg.read _ hn) h.rd h.wr, fun i hi => .inl hi, ?_⟩
  have hmod : ((a.toNat : Int)).tmod 8 = ((4 : Nat) : Int) := by rw [← ha]; exact tmod_nat _ 8
  have hnm := (namesP_enc h.pg.ok.po (pathT b)).2
  generalize namesP s.L (pathT b) = PS at hA hB hnm
  generalize pathT b = n at hP hA hB
  have hsm := fun p => same_ok PS PS (by omega) (by omega) p
  rw [decide_eq_true rfl] at hsm
  refine fnOK (n := 171) (rs := [.tmp 4]) Tryz.func17 rfl rfl (by decide) rfl rfl rfl ?_; rintro x rfl hrd hng; rw [blk_open, hce]; (try ((first | refine zn ?_ | refine ze ?_ | refine zk ?_); with_reducible (constructor; repeat constructor)); try refine zl ?_); refine K_ev nmd [] hng (by kernel_rfl) fun hf C S K hC1 hC hS hK => ?_; simp (disch := first | omega | assumption) only [go_sem, actA, AV.cells]; refine hK ?_; clear hK hS hC hC1 K S C hf; (try ((first | refine zn ?_ | refine ze ?_ | refine zk ?_); with_reducible (constructor; repeat constructor)); try refine zl ?_); refine K_ev nmd [] hng (by kernel_rfl) fun hf C S K hC1 hC hS hK => ?_; simp (disch := first | omega | assumption) only [go_sem, actA, AV.cells, Oid.not_under_sub hpr, Oid.sub_not_under hpr, hN, hM, hdj, hON, hOM]; refine hC1 _ (hP _) (by simp (disch := first | omega | assumption) only [go_sem]) ?_; simp (disch := first | omega | assumption) only [go_sem, actA, AV.cells, Oid.not_under_sub hpr, Oid.sub_not_under hpr, hN, hM, hdj, hON, hOM]; refine hK ?_; clear hK hS hC hC1 K S C hf
  (repeat (first | (refine K_ifT rfl rfl ?_) | (refine K_ifF rfl rfl ?_) | (refine K_ev nmd [] hng (by kernel_rfl) fun hf C S K hC1 hC hS hK => ?_; simp (disch := first | omega | assumption) only [go_sem, actA, AV.cells, Oid.not_under_sub hpr, Oid.sub_not_under hpr, hN, hM, hdj, hON, hOM, hmod]; refine hK ?_; clear hK hS hC hC1 K S C hf) | ((first | refine zn ?_ | refine ze ?_ | refine zk ?_); with_reducible (constructor; repeat constructor); try refine zl ?_)))
  refine K_evd nmd [] [(5, 9)] mixed hng (by kernel_rfl) [4] fun hf C S K hC hS hK => ?_; simp (disch := first | omega | assumption) only [go_sem, Oid.not_under_sub hpr, Oid.sub_not_under hpr, hN, hM, hdj, hON, hOM]
  refine hC _ (hA _ (mono_sub' rfl hp) (hON.sub _ _)) (by first | exact nbu1 _ | exact nbA1 (by simp [hN, hON.mem]) _) ?_
  simp (disch := first | omega | assumption) only [go_sem, Oid.not_under_sub hpr, Oid.sub_not_under hpr, hN, hM, hdj, hON, hOM]
  refine hC _ (hB _ (mono_sub' rfl hp) (hOM.sub _ _)) (by first | exact nbu1 _ | exact nbA2 (by simp [hM, hOM.mem]) hdj _) ?_
  simp (disch := first | omega | assumption) only [go_sem, Oid.not_under_sub hpr, Oid.sub_not_under hpr, hN, hM, hdj, hON, hOM]
  refine hC _ (hsm _) (fun _ h => by cases h) ?_
  simp (disch := first | omega | assumption) only [go_sem, Oid.not_under_sub hpr, Oid.sub_not_under hpr, hN, hM, hdj, hON, hOM]
  (first | refine hK (dynN_quiet rfl) ?_ | refine hK (by simp (disch := first | omega | assumption) only [go_sem, List.reverse_cons, List.reverse_nil, ne_eq, not_false_eq_true, implies_true]) ?_); clear hK hS hC K S C hf
  (repeat (first | (refine K_ifT rfl rfl ?_) | (refine K_ifF rfl rfl ?_) | (refine K_ev nmd [] hng (by kernel_rfl) fun hf C S K hC1 hC hS hK => ?_; simp (disch := first | omega | assumption) only [go_sem]; refine hK ?_; clear hK hS hC hC1 K S C hf) | ((first | refine zn ?_ | refine ze ?_ | refine zk ?_); with_reducible (constructor; repeat constructor); try refine zl ?_)))
  refine K_ret (done_jn (by simp (disch := first | omega | assumption) only [go_sem, Oid.not_under_sub hpr, Oid.sub_not_under hpr, hN, hM, hdj, hON, hOM]) hN hM hdj (by show _ = some _; simp (disch := first | omega | assumption) only [go_sem, Oid.not_under_sub hpr, Oid.sub_not_under hpr, hN, hM, hdj, hON, hOM]) (by first | exact nbu1 _ | exact nbA1 (by simp [hN, hON.mem]) _) (by first | exact nbu1 _ | exact nbA2 (by simp [hM, hOM.mem]) hdj _))
theorem does_put (a : UInt8) (ha : a.toNat % 8 < 3) : DoesOK pr st r N M H ⟨a, b, m, k, l⟩ p := by
  obtain ⟨hpr, hON, hOM⟩ := h.old hO; have hN := h.nN; have hM := h.nM; have hdj := h.dj; have hn := pathT_mem b; have hnl := paths_six _ hn; have hP := fun p => path_ok b p; have hce := h.ce
  have he := eg_entry m k l
  have hok := entryB_ok m k l
  have hnat := entryB_nat m k l
  have hE := fun p => lentry_ok a b m k l p
  obtain ⟨F', hF, hA⟩ := putP_ok h.sp h.pg.ok (pathT b) (entryB m k l)
  obtain ⟨G', hG, hB⟩ := putRb_ok h.sr h.pg.ok h.pg.tR (pathT b) (entryB m k l)
  refine ⟨s.put (pathT b) (entryB m k l), RD, WR, N, _, PairB.mk' hN hM hdj hF hG (h.pg.put _ hn _ (by
    by_cases h0 : (entryB m k l).k = 0
    · exact .inl h0
    · exact .inr (he h0)) hok ⟨hnat.1.1, hnat.2.1.1⟩) h.rd h.wr, fun i hi => .inl hi, ?_⟩
  have hmod : ((a.toNat : Int)).tmod 8 = ((a.toNat % 8 : Nat) : Int) := tmod_nat _ 8
  generalize a.toNat % 8 = rr at hmod ha
  have e3 : ¬ (rr : Int) = 3 := by omega
  have e4 : ¬ (rr : Int) = 4 := by omega
  have e5 : ¬ (rr : Int) = 5 := by omega
  have e6 : ¬ (rr : Int) = 6 := by omega
  have e7 : ¬ (rr : Int) = 7 := by omega
  clear he hok hnat
  generalize entryB m k l = B at hA hB hE
  generalize pathT b = n at hP hA hB
  obtain ⟨ek, em, el⟩ := B
  simp only [Bits.av] at hA hB hE
  refine fnOK (n := 171) (rs := [.tmp 4]) Tryz.func17 rfl rfl (by decide) rfl rfl rfl ?_; rintro x rfl hrd hng; rw [blk_open, hce]; (try ((first | refine zn ?_ | refine ze ?_ | refine zk ?_); with_reducible (constructor; repeat constructor)); try refine zl ?_); refine K_ev nmd [] hng (by kernel_rfl) fun hf C S K hC1 hC hS hK => ?_; simp (disch := first | omega | assumption) only [go_sem, actA, AV.cells]; refine hK ?_; clear hK hS hC hC1 K S C hf; (try ((first | refine zn ?_ | refine ze ?_ | refine zk ?_); with_reducible (constructor; repeat constructor)); try refine zl ?_); refine K_ev nmd [] hng (by kernel_rfl) fun hf C S K hC1 hC hS hK => ?_; simp (disch := first | omega | assumption) only [go_sem, actA, AV.cells, Oid.not_under_sub hpr, Oid.sub_not_under hpr, hN, hM, hdj, hON, hOM]; refine hC1 _ (hP _) (by simp (disch := first | omega | assumption) only [go_sem]) ?_; simp (disch := first | omega | assumption) only [go_sem, actA, AV.cells, Oid.not_under_sub hpr, Oid.sub_not_under hpr, hN, hM, hdj, hON, hOM]; refine hK ?_; clear hK hS hC hC1 K S C hf
  (repeat (first | (refine K_ifT rfl rfl ?_) | (refine K_ifF rfl rfl ?_) | (refine K_ev nmd [] hng (by kernel_rfl) fun hf C S K hC1 hC hS hK => ?_; simp (disch := first | omega | assumption) only [go_sem, actA, AV.cells, Oid.not_under_sub hpr, Oid.sub_not_under hpr, hN, hM, hdj, hON, hOM, hmod, e3, e4, e5, e6, e7, decide_true, decide_false, ne_eq, not_true_eq_false, not_false_eq_true]; refine hK ?_; clear hK hS hC hC1 K S C hf) | ((first | refine zn ?_ | refine ze ?_ | refine zk ?_); with_reducible (constructor; repeat constructor); try refine zl ?_)))
  refine K_evd nmd [] [(3, 6)] mixed hng (by kernel_rfl) [0, 3, 5] fun hf C S K hC hS hK => ?_; simp (disch := first | omega | assumption) only [go_sem, actA, AV.cells, Oid.not_under_sub hpr, Oid.sub_not_under hpr, hN, hM, hdj, hON, hOM]
  refine hC _ (hE _) (fun _ h => by cases h) ?_
  simp (disch := first | omega | assumption) only [go_sem, Oid.not_under_sub hpr, Oid.sub_not_under hpr, hN, hM, hdj, hON, hOM]
  refine hC _ (hA _ (mono_sub' rfl hp) (hON.sub _ _)) (by first | exact nbu1 _ | exact nbA1 (by simp [hN, hON.mem]) _) ?_
  simp (disch := first | omega | assumption) only [go_sem, Oid.not_under_sub hpr, Oid.sub_not_under hpr, hN, hM, hdj, hON, hOM]
  (first | refine hK (dynN_quiet rfl) ?_ | refine hK (by simp (disch := first | omega | assumption) only [go_sem, List.reverse_cons, List.reverse_nil, ne_eq, not_false_eq_true, implies_true]) ?_); clear hK hS hC K S C hf
  (try ((first | refine zn ?_ | refine ze ?_ | refine zk ?_); with_reducible (constructor; repeat constructor)); try refine zl ?_)
  refine K_evd nmd [] [(3, 6)] mixed hng (by kernel_rfl) [4] fun hf C S K hC hS hK => ?_; simp (disch := first | omega | assumption) only [go_sem, actA, AV.cells, Oid.not_under_sub hpr, Oid.sub_not_under hpr, hN, hM, hdj, hON, hOM]
  refine hC _ (hE _) (fun _ h => by cases h) ?_
  simp (disch := first | omega | assumption) only [go_sem, Oid.not_under_sub hpr, Oid.sub_not_under hpr, hN, hM, hdj, hON, hOM]
  refine hC _ (hB _ (mono_sub' rfl hp) (hOM.sub _ _)) (by first | exact nbu1 _ | exact nbA2 (by simp [hM, hOM.mem]) hdj _) ?_
  simp (disch := first | omega | assumption) only [go_sem, Oid.not_under_sub hpr, Oid.sub_not_under hpr, hN, hM, hdj, hON, hOM]
  (first | refine hK (dynN_quiet rfl) ?_ | refine hK (by simp (disch := first | omega | assumption) only [go_sem, List.reverse_cons, List.reverse_nil, ne_eq, not_false_eq_true, implies_true]) ?_); clear hK hS hC K S C hf
  (repeat (first | (refine K_ifT rfl rfl ?_) | (refine K_ifF rfl rfl ?_) | (refine K_ev nmd [] hng (by kernel_rfl) fun hf C S K hC1 hC hS hK => ?_; simp (disch := first | omega | assumption) only [go_sem]; refine hK ?_; clear hK hS hC hC1 K S C hf) | ((first | refine zn ?_ | refine ze ?_ | refine zk ?_); with_reducible (constructor; repeat constructor); try refine zl ?_)))
  refine K_ret (done_jn (by simp (disch := first | omega | assumption) only [go_sem, Oid.not_under_sub hpr, Oid.sub_not_under hpr, hN, hM, hdj, hON, hOM]) hN hM hdj (by show _ = some _; simp (disch := first | omega | assumption) only [go_sem, Oid.not_under_sub hpr, Oid.sub_not_under hpr, hN, hM, hdj, hON, hOM]) (by first | exact nbu1 _ | exact nbA1 (by simp [hN, hON.mem]) _) (by first | exact nbu1 _ | exact nbA2 (by simp [hM, hOM.mem]) hdj _))
theorem does_begin (a : UInt8) (ha : a.toNat % 8 = 5) : DoesOK pr st r N M H ⟨a, b, m, k, l⟩ p := by
  obtain ⟨hpr, hON, hOM⟩ := h.old hO; have hN := h.nN; have hM := h.nM; have hdj := h.dj; have hn := pathT_mem b; have hnl := paths_six _ hn; have hP := fun p => path_ok b p; have hce := h.ce
  obtain ⟨N', F', hF, hN', hA⟩ := beginP_ok h.sp (.sub 6 4 p) (hON.sub _ _)
  obtain ⟨G', hG, hB⟩ := beginRb_ok h.sr h.pg.ok
  have hN2 : pr ∉ N' := fun hi => (hN' pr hi).elim hN fun hu => hpr (Oid.under_sub hu)
  have hb0 : Oid.sub 0 0 p ∉ N' := fun hi => (hN' _ hi).elim (fun h => hON.mem h) fun hu => by
    have := (Oid.apart hu (Oid.under_refl _)).1; omega
  have hdj2 : DJ N' M := fun i hi hm => (hN' i hi).elim (fun hi => hdj i hi hm) fun hu => hOM i hm (Oid.under_sub hu)
  refine ⟨s.begin, RD, WR, N', _, PairB.mk' hN2 hM hdj2 hF hG h.pg.begin h.rd h.wr, fun i hi => (hN' i hi).imp id fun hu => Oid.under_sub hu, ?_⟩
  have hmod : ((a.toNat : Int)).tmod 8 = ((5 : Nat) : Int) := by rw [← ha]; exact tmod_nat _ 8
  generalize pathT b = n at hP
  refine fnOK (n := 171) (rs := [.tmp 4]) Tryz.func17 rfl rfl (by decide) rfl rfl rfl ?_; rintro x rfl hrd hng; rw [blk_open, hce]; (try ((first | refine zn ?_ | refine ze ?_ | refine zk ?_); with_reducible (constructor; repeat constructor)); try refine zl ?_); refine K_ev nmd [] hng (by kernel_rfl) fun hf C S K hC1 hC hS hK => ?_; simp (disch := first | omega | assumption) only [go_sem, actA, AV.cells]; refine hK ?_; clear hK hS hC hC1 K S C hf; (try ((first | refine zn ?_ | refine ze ?_ | refine zk ?_); with_reducible (constructor; repeat constructor)); try refine zl ?_); refine K_ev nmd [] hng (by kernel_rfl) fun hf C S K hC1 hC hS hK => ?_; simp (disch := first | omega | assumption) only [go_sem, actA, AV.cells, Oid.not_under_sub hpr, Oid.sub_not_under hpr, hN, hM, hdj, hON, hOM]; refine hC1 _ (hP _) (by simp (disch := first | omega | assumption) only [go_sem]) ?_; simp (disch := first | omega | assumption) only [go_sem, actA, AV.cells, Oid.not_under_sub hpr, Oid.sub_not_under hpr, hN, hM, hdj, hON, hOM]; refine hK ?_; clear hK hS hC hC1 K S C hf
  (repeat (first | (refine K_ifT rfl rfl ?_) | (refine K_ifF rfl rfl ?_) | (refine K_ev nmd [] hng (by kernel_rfl) fun hf C S K hC1 hC hS hK => ?_; simp (disch := first | omega | assumption) only [go_sem, actA, AV.cells, Oid.not_under_sub hpr, Oid.sub_not_under hpr, hN, hM, hdj, hON, hOM, hmod]; refine hK ?_; clear hK hS hC hC1 K S C hf) | ((first | refine zn ?_ | refine ze ?_ | refine zk ?_); with_reducible (constructor; repeat constructor); try refine zl ?_)))
  refine K_ev nmd [] hng (by kernel_rfl) fun hf C S K hC1 hC hS hK => ?_; simp (disch := first | omega | assumption) only [go_sem, Oid.not_under_sub hpr, Oid.sub_not_under hpr, hN, hM, hdj, hON, hOM]
  refine hC1 _ hA (by first | exact nbu1 _ | exact nbA1 (by simp [hN, hON.mem]) _) ?_
  simp (disch := first | omega | assumption) only [go_sem, Oid.not_under_sub hpr, Oid.sub_not_under hpr, hN, hM, hdj, hON, hOM]
  refine hK ?_; clear hK hS hC hC1 K S C hf
  (try ((first | refine zn ?_ | refine ze ?_ | refine zk ?_); with_reducible (constructor; repeat constructor)); try refine zl ?_)
  refine K_exch (P := Tryz.prog) (A := [(pr, _), (.sub 0 0 x.p, _)]) (Bs := [(M, H)]) (fun e he => by simp only [List.mem_cons, List.not_mem_nil, or_false] at he; rcases he with rfl | rfl <;> assumption) (fun B hB => by rw [List.mem_singleton.1 hB]; exact hdj) ?_
  have hO2 : Old0 (.sub 7 4 x.p) M := hOM.sub _ _
  refine K_ev nmd [] hng (by kernel_rfl) fun hf C S K hC1 hC hS hK => ?_; simp (disch := first | omega | assumption) only [go_sem, Oid.not_under_sub hpr, Oid.sub_not_under hpr, hN, hM, hdj, hON, hOM, hN2, hdj2, hb0]
  refine hC1 _ (hB _ hO2) (by exact nbA2 (by simp [hM, hOM.mem]) hdj2 _) ?_
  simp (disch := first | omega | assumption) only [go_sem, Oid.not_under_sub hpr, Oid.sub_not_under hpr, hN, hM, hdj, hON, hOM, hN2, hdj2, hb0]
  refine hK ?_; clear hK hS hC hC1 K S C hf
  (repeat (first | (refine K_ifT rfl rfl ?_) | (refine K_ifF rfl rfl ?_) | (refine K_ev nmd [] hng (by kernel_rfl) fun hf C S K hC1 hC hS hK => ?_; simp (disch := first | omega | assumption) only [go_sem]; refine hK ?_; clear hK hS hC hC1 K S C hf) | ((first | refine zn ?_ | refine ze ?_ | refine zk ?_); with_reducible (constructor; repeat constructor); try refine zl ?_)))
  refine K_ret (done_jn (by simp (disch := first | omega | assumption) only [go_sem, Oid.not_under_sub hpr, Oid.sub_not_under hpr, hN, hM, hdj, hON, hOM]) hN2 hM hdj2 (by show _ = some _; simp (disch := first | omega | assumption) only [go_sem, Oid.not_under_sub hpr, Oid.sub_not_under hpr, hN, hM, hdj, hON, hOM]) (by exact nbA1 (by simp [hN2, hb0]) _) (by exact nbA2 (by simp [hM, hOM.mem]) hdj2 _))
theorem does_end (a : UInt8) (ha : a.toNat % 8 = 6) : DoesOK pr st r N M H ⟨a, b, m, k, l⟩ p := by
  obtain ⟨hpr, hON, hOM⟩ := h.old hO; have hN := h.nN; have hM := h.nM; have hdj := h.dj; have hn := pathT_mem b; have hnl := paths_six _ hn; have hP := fun p => path_ok b p; have hce := h.ce
  obtain ⟨N', F', hF, hN', hA⟩ := endP_ok h.sp h.pg.ok h.pg.tR
  obtain ⟨G', hG, hB⟩ := endRb_ok h.sr h.pg.ok (fun q hq => (h.pg.tR q hq).2)
  have hN2 : pr ∉ N' := fun hi => hN (hN' pr hi)
  have hb0 : Oid.sub 0 0 p ∉ N' := fun hi => hON.mem (hN' _ hi)
  have hdj2 : DJ N' M := fun i hi => hdj i (hN' i hi)
  have hRD := h.pg.reads
  have hWR := h.pg.writes
  refine ⟨s.halt, s.reads, s.writes, N', _, PairB.mk' hN2 hM hdj2 hF hG h.pg.halt hRD hWR, fun i hi => .inl (hN' i hi), ?_⟩
  have hmod : ((a.toNat : Int)).tmod 8 = ((6 : Nat) : Int) := by rw [← ha]; exact tmod_nat _ 8
  have hs1 := fun p => sameTch_ok s.reads (by have := hRD.len; omega) p
  have hs2 := fun p => sameTch_ok s.writes (by have := hWR.len; omega) p
  generalize s.reads = R1 at hA hB hs1
  generalize s.writes = W1 at hA hB hs2
  generalize pathT b = n at hP
  refine fnOK (n := 171) (rs := [.tmp 4]) Tryz.func17 rfl rfl (by decide) rfl rfl rfl ?_; rintro x rfl hrd hng; rw [blk_open, hce]; (try ((first | refine zn ?_ | refine ze ?_ | refine zk ?_); with_reducible (constructor; repeat constructor)); try refine zl ?_); refine K_ev nmd [] hng (by kernel_rfl) fun hf C S K hC1 hC hS hK => ?_; simp (disch := first | omega | assumption) only [go_sem, actA, AV.cells]; refine hK ?_; clear hK hS hC hC1 K S C hf; (try ((first | refine zn ?_ | refine ze ?_ | refine zk ?_); with_reducible (constructor; repeat constructor)); try refine zl ?_); refine K_ev nmd [] hng (by kernel_rfl) fun hf C S K hC1 hC hS hK => ?_; simp (disch := first | omega | assumption) only [go_sem, actA, AV.cells, Oid.not_under_sub hpr, Oid.sub_not_under hpr, hN, hM, hdj, hON, hOM]; refine hC1 _ (hP _) (by simp (disch := first | omega | assumption) only [go_sem]) ?_; simp (disch := first | omega | assumption) only [go_sem, actA, AV.cells, Oid.not_under_sub hpr, Oid.sub_not_under hpr, hN, hM, hdj, hON, hOM]; refine hK ?_; clear hK hS hC hC1 K S C hf
  (repeat (first | (refine K_ifT rfl rfl ?_) | (refine K_ifF rfl rfl ?_) | (refine K_ev nmd [] hng (by kernel_rfl) fun hf C S K hC1 hC hS hK => ?_; simp (disch := first | omega | assumption) only [go_sem, actA, AV.cells, Oid.not_under_sub hpr, Oid.sub_not_under hpr, hN, hM, hdj, hON, hOM, hmod]; refine hK ?_; clear hK hS hC hC1 K S C hf) | ((first | refine zn ?_ | refine ze ?_ | refine zk ?_); with_reducible (constructor; repeat constructor); try refine zl ?_)))
  refine K_ev nmd [] hng (by kernel_rfl) fun hf C S K hC1 hC hS hK => ?_; simp (disch := first | omega | assumption) only [go_sem, Oid.not_under_sub hpr, Oid.sub_not_under hpr, hN, hM, hdj, hON, hOM]
  refine hC1 _ (hA _ (mono_sub' rfl hp) (hON.sub _ _)) (by first | exact nbu1 _ | exact nbA1 (by simp [hN, hON.mem]) _) ?_
  simp (disch := first | omega | assumption) only [go_sem, Oid.not_under_sub hpr, Oid.sub_not_under hpr, hN, hM, hdj, hON, hOM]
  refine hK ?_; clear hK hS hC hC1 K S C hf
  (try ((first | refine zn ?_ | refine ze ?_ | refine zk ?_); with_reducible (constructor; repeat constructor)); try refine zl ?_)
  refine K_exch (P := Tryz.prog) (A := [(pr, _), (.sub 0 0 x.p, _)]) (Bs := [(M, H)]) (fun e he => by simp only [List.mem_cons, List.not_mem_nil, or_false] at he; rcases he with rfl | rfl <;> assumption) (fun B hB => by rw [List.mem_singleton.1 hB]; exact hdj) ?_
  refine K_ev nmd [] hng (by kernel_rfl) fun hf C S K hC1 hC hS hK => ?_; simp (disch := first | omega | assumption) only [go_sem, Oid.not_under_sub hpr, Oid.sub_not_under hpr, hN, hM, hdj, hON, hOM, hN2, hdj2, hb0]
  refine hC1 _ (hB _ (hOM.sub _ _)) (by exact nbA2 (by simp [hM, hOM.mem]) hdj2 _) ?_
  simp (disch := first | omega | assumption) only [go_sem, Oid.not_under_sub hpr, Oid.sub_not_under hpr, hN, hM, hdj, hON, hOM, hN2, hdj2, hb0]
  refine hK ?_; clear hK hS hC hC1 K S C hf
  (repeat (first | (refine K_ifT rfl rfl ?_) | (refine K_ifF rfl rfl ?_) | (refine K_ev nmd [] hng (by kernel_rfl) fun hf C S K hC1 hC hS hK => ?_; simp (disch := first | omega | assumption) only [go_sem, Oid.not_under_sub hpr, Oid.sub_not_under hpr, hN, hM, hdj, hON, hOM, hN2, hdj2, hb0]; refine hK ?_; clear hK hS hC hC1 K S C hf) | ((first | refine zn ?_ | refine ze ?_ | refine zk ?_); with_reducible (constructor; repeat constructor); try refine zl ?_)))
  refine K_ev nmd [(3, 103)] hng (by kernel_rfl) fun hf C S K hC1 hC hS hK => ?_; simp (disch := first | omega | assumption) only [go_sem, Oid.not_under_sub hpr, Oid.sub_not_under hpr, hN, hM, hdj, hON, hOM, decide_true, decide_false, ne_eq, not_true_eq_false, not_false_eq_true]
  refine hC1 _ (hs1 _) (fun _ h => by cases h) ?_
  simp (disch := first | omega | assumption) only [go_sem, Oid.not_under_sub hpr, Oid.sub_not_under hpr, hN, hM, hdj, hON, hOM, decide_true, decide_false, ne_eq, not_true_eq_false, not_false_eq_true]
  refine hC1 _ (hs2 _) (fun _ h => by cases h) ?_
  simp (disch := first | omega | assumption) only [go_sem, Oid.not_under_sub hpr, Oid.sub_not_under hpr, hN, hM, hdj, hON, hOM, decide_true, decide_false, ne_eq, not_true_eq_false, not_false_eq_true]
  refine hK ?_; clear hK hS hC hC1 K S C hf
  (repeat (first | (refine K_ifT rfl rfl ?_) | (refine K_ifF rfl rfl ?_) | (refine K_ev nmd [] hng (by kernel_rfl) fun hf C S K hC1 hC hS hK => ?_; simp (disch := first | omega | assumption) only [go_sem]; refine hK ?_; clear hK hS hC hC1 K S C hf) | ((first | refine zn ?_ | refine ze ?_ | refine zk ?_); with_reducible (constructor; repeat constructor); try refine zl ?_)))
  refine K_ret (done_jn (by simp (disch := first | omega | assumption) only [go_sem, Oid.not_under_sub hpr, Oid.sub_not_under hpr, hN, hM, hdj, hON, hOM]) hN2 hM hdj2 (by show _ = some _; simp (disch := first | omega | assumption) only [go_sem, Oid.not_under_sub hpr, Oid.sub_not_under hpr, hN, hM, hdj, hON, hOM]) (by exact nbA1 (by simp [hN2, hb0]) _) (by exact nbA2 (by simp [hM, hOM.mem]) hdj2 _))
theorem does_apply (a : UInt8) (ha : a.toNat % 8 = 7) : DoesOK pr st r N M H ⟨a, b, m, k, l⟩ p := by
  obtain ⟨hpr, hON, hOM⟩ := h.old hO; have hN := h.nN; have hM := h.nM; have hdj := h.dj; have hn := pathT_mem b; have hnl := paths_six _ hn; have hP := fun p => path_ok b p; have hce := h.ce
  have hrl := h.rd.len
  have hag1 := fun p hp ho => agreesP_ok h.sp h.pg.ok RD (by omega) (fun x hx => by have := paths_six _ (h.rd.tv x hx).key; omega) p hp ho
  have hag2 := fun p ho => agreesRb_ok h.sr h.pg.ok RD (by omega) (fun x hx => by have := paths_six _ (h.rd.tv x hx).key; omega) p ho
  obtain ⟨F1, hF1, hA1⟩ := appP_ok h.sp h.pg h.wr
  obtain ⟨G1, hG1, hB1⟩ := appR_ok h.sr h.pg h.wr
  have hpg1 := h.pg.apply h.wr
  obtain ⟨F2, hF2, hA2⟩ := appP_ok hF1 hpg1 h.rd
  obtain ⟨G2, hG2, hB2⟩ := appR_ok hG1 hpg1 h.rd
  refine ⟨appS (appS s WR) RD, RD, WR, N, _, PairB.mk' hN hM hdj hF2 hG2 (hpg1.apply h.rd) h.rd h.wr, fun i hi => .inl hi, ?_⟩
  have hmod : ((a.toNat : Int)).tmod 8 = ((7 : Nat) : Int) := by rw [← ha]; exact tmod_nat _ 8
  generalize agreesL s.L RD = ag at hag1 hag2
  generalize appE WR = e1 at hA1 hB1
  generalize appE RD = e2 at hA2 hB2
  generalize pathT b = n at hP
  refine fnOK (n := 171) (rs := [.tmp 4]) Tryz.func17 rfl rfl (by decide) rfl rfl rfl ?_; rintro x rfl hrd hng; rw [blk_open, hce]; (try ((first | refine zn ?_ | refine ze ?_ | refine zk ?_); with_reducible (constructor; repeat constructor)); try refine zl ?_); refine K_ev nmd [] hng (by kernel_rfl) fun hf C S K hC1 hC hS hK => ?_; simp (disch := first | omega | assumption) only [go_sem, actA, AV.cells]; refine hK ?_; clear hK hS hC hC1 K S C hf; (try ((first | refine zn ?_ | refine ze ?_ | refine zk ?_); with_reducible (constructor; repeat constructor)); try refine zl ?_); refine K_ev nmd [] hng (by kernel_rfl) fun hf C S K hC1 hC hS hK => ?_; simp (disch := first | omega | assumption) only [go_sem, actA, AV.cells, Oid.not_under_sub hpr, Oid.sub_not_under hpr, hN, hM, hdj, hON, hOM]; refine hC1 _ (hP _) (by simp (disch := first | omega | assumption) only [go_sem]) ?_; simp (disch := first | omega | assumption) only [go_sem, actA, AV.cells, Oid.not_under_sub hpr, Oid.sub_not_under hpr, hN, hM, hdj, hON, hOM]; refine hK ?_; clear hK hS hC hC1 K S C hf
  (repeat (first | (refine K_ifT rfl rfl ?_) | (refine K_ifF rfl rfl ?_) | (refine K_ev nmd [] hng (by kernel_rfl) fun hf C S K hC1 hC hS hK => ?_; simp (disch := first | omega | assumption) only [go_sem, actA, AV.cells, Oid.not_under_sub hpr, Oid.sub_not_under hpr, hN, hM, hdj, hON, hOM, hmod]; refine hK ?_; clear hK hS hC hC1 K S C hf) | ((first | refine zn ?_ | refine ze ?_ | refine zk ?_); with_reducible (constructor; repeat constructor); try refine zl ?_)))
  have hag : (ag == ag) = true := by cases ag <;> rfl
  refine K_evd nmd [(19, 129), (40, 150)] [(8, 12), (8, 16), (28, 32), (28, 36), (49, 53), (49, 57)] mixed hng (by kernel_rfl) [4] fun hf C S K hC hS hK => ?_; simp (disch := first | omega | assumption) only [go_sem, Oid.not_under_sub hpr, Oid.sub_not_under hpr, hN, hM, hdj, hON, hOM]
  refine hC _ (hag1 _ (mono_sub' rfl hp) (hON.sub _ _)) (by first | exact nbu1 _ | exact nbA1 (by simp [hN, hON.mem]) _) ?_
  simp (disch := first | omega | assumption) only [go_sem, Oid.not_under_sub hpr, Oid.sub_not_under hpr, hN, hM, hdj, hON, hOM]
  refine hC _ (hag2 _ (hOM.sub _ _)) (by first | exact nbu1 _ | exact nbA2 (by simp [hM, hOM.mem]) hdj _) ?_
  simp (disch := first | omega | assumption) only [go_sem, Oid.not_under_sub hpr, Oid.sub_not_under hpr, hN, hM, hdj, hON, hOM, hag, decide_true, decide_false, ne_eq, not_true_eq_false, not_false_eq_true]
  refine hC _ (hA1 _ (mono_sub' rfl hp) (hON.sub _ _)) (by first | exact nbu1 _ | exact nbA1 (by simp [hN, hON.mem]) _) ?_
  simp (disch := first | omega | assumption) only [go_sem, Oid.not_under_sub hpr, Oid.sub_not_under hpr, hN, hM, hdj, hON, hOM]
  refine hC _ (hB1 _ (mono_sub' rfl hp) (hOM.sub _ _)) (by first | exact nbu1 _ | exact nbA2 (by simp [hM, hOM.mem]) hdj _) ?_
  simp (disch := first | omega | assumption) only [go_sem, Oid.not_under_sub hpr, Oid.sub_not_under hpr, hN, hM, hdj, hON, hOM, eq_self, decide_true, decide_false, ne_eq, not_true_eq_false, not_false_eq_true]
  refine hC _ (hA2 _ (mono_sub' rfl hp) (hON.sub _ _)) (by first | exact nbu1 _ | exact nbA1 (by simp [hN, hON.mem]) _) ?_
  simp (disch := first | omega | assumption) only [go_sem, Oid.not_under_sub hpr, Oid.sub_not_under hpr, hN, hM, hdj, hON, hOM]
  refine hC _ (hB2 _ (mono_sub' rfl hp) (hOM.sub _ _)) (by first | exact nbu1 _ | exact nbA2 (by simp [hM, hOM.mem]) hdj _) ?_
  simp (disch := first | omega | assumption) only [go_sem, Oid.not_under_sub hpr, Oid.sub_not_under hpr, hN, hM, hdj, hON, hOM, eq_self, decide_true, decide_false, ne_eq, not_true_eq_false, not_false_eq_true]
  refine hK (by simp (maxSteps := 4000000) (disch := first | omega | assumption) only [go_sem, List.reverse_cons, List.reverse_nil, ne_eq, not_false_eq_true, implies_true]) ?_; clear hK hS hC K S C hf
  (repeat (first | (refine K_ifT rfl rfl ?_) | (refine K_ifF rfl rfl ?_) | (refine K_ev nmd [] hng (by kernel_rfl) fun hf C S K hC1 hC hS hK => ?_; simp (disch := first | omega | assumption) only [go_sem]; refine hK ?_; clear hK hS hC hC1 K S C hf) | ((first | refine zn ?_ | refine ze ?_ | refine zk ?_); with_reducible (constructor; repeat constructor); try refine zl ?_)))
  refine K_ret (done_jn (by simp (disch := first | omega | assumption) only [go_sem, Oid.not_under_sub hpr, Oid.sub_not_under hpr, hN, hM, hdj, hON, hOM]) hN hM hdj (by show _ = some _; simp (disch := first | omega | assumption) only [go_sem, Oid.not_under_sub hpr, Oid.sub_not_under hpr, hN, hM, hdj, hON, hOM]) (by first | exact nbu1 _ | exact nbA1 (by simp [hN, hON.mem]) _) (by first | exact nbu1 _ | exact nbA2 (by simp [hM, hOM.mem]) hdj _))
theorem does_all (a : UInt8) : DoesOK pr st r N M H ⟨a, b, m, k, l⟩ p := by
  have h8 : a.toNat % 8 < 8 := Nat.mod_lt _ (by decide)
  rcases (by omega : a.toNat % 8 < 3 ∨ a.toNat % 8 = 3 ∨ a.toNat % 8 = 4 ∨ a.toNat % 8 = 5 ∨ a.toNat % 8 = 6 ∨ a.toNat % 8 = 7) with e | e | e | e | e | e
  · exact does_put h b m k l hp hO a e
  · exact does_at h b m k l hp hO a e
  · exact does_names h b m k l hp hO a e
  · exact does_begin h b m k l hp hO a e
  · exact does_end h b m k l hp hO a e
  · exact does_apply h b m k l hp hO a e
end
end Go.Proofs.YtaecbmbecofijaaGreatDoor
namespace Go.Proofs.YtaecbmbecofijaaGreatDoor
open Go Go.Ab
set_option maxRecDepth 20000
set_option maxHeartbeats 4000000
theorem pathsRb_ok {r : Oid} {s : St} {M : List Oid} {G : Oid → AObj} (h : StoR r s M G) (hs : SOK s) (p : Oid) (ho : Old0 p M) : CallOK Tryz.prog 63 [.ptr r 0] (Oid.under p) ⟨bk (M, G), .list 1 ((s.L.map (·.1)).map AV.str), []⟩ := by
  have key : ∃ OO RR WW : AV, ∃ tr : Bool, G r = .cells [.list 4 (s.L.map pairAV), OO, RR, WW, .bool tr] := by
    obtain ⟨L, t0⟩ := s
    obtain ⟨rfl, h⟩ := h
    cases t0 with
    | none => obtain ⟨OO, h⟩ := h; exact ⟨_, _, _, _, h⟩
    | some q => exact ⟨_, _, _, _, h⟩
  obtain ⟨OO, RR, WW, tr, hG⟩ := key
  have hM : M = [r] := by
    obtain ⟨L, t0⟩ := s
    exact h.1
  have hr : r ∈ M := by rw [hM]; exact List.mem_singleton.2 rfl
  rw [List.map_map]
  refine CallOK.needBk (pathsR_ok r s.L hs.po.len OO RR WW tr p (ho r hr)) fun q hq => ?_
  rw [List.mem_singleton.1 hq]
  exact mem_bk.2 ⟨hr, hG.symm⟩
theorem sameS_ok {st r : Oid} {s : St} {N M : List Oid} {F G : Oid → AObj} (h1 : StoP st s N F) (h2 : StoR r s M G) (hs : SOK s) (hR : ∀ q, s.t = some q → q.R.length + s.L.length ≤ 1000000 ∧ q.W.length ≤ 1000000) (hdj : DJ N M)
    (p : Oid) (hp : p.mono = false) (hO : Old0 p N) (hO' : Old0 p M) : CallOK Tryz.prog 20 [.ptr st 0, .ptr r 0] (Oid.under p) ⟨bk (N, F) ++ bk (M, G), .bool true, gone (N ++ M)⟩ := by
  have hpa := fun p ho => pathsP_ok h1 hs p ho
  have hpb := fun p ho => pathsRb_ok h2 hs p ho
  have hzl : (s.L.map (·.1)).length ≤ 1000000 := by rw [List.length_map]; exact hs.po.len
  have hzk : ∀ n ∈ s.L.map (·.1), n.length ≤ 1000000 := fun n hn => by
    obtain ⟨q, hq, rfl⟩ := List.mem_map.1 hn
    exact hs.po.key q hq
  have hR' : ∀ q, s.t = some q → q.R.length + (s.L.map (·.1)).length ≤ 1000000 ∧ q.W.length ≤ 1000000 := by rw [List.length_map]; exact hR
  rw [show (s.L.map fun q : Str × Bits => AV.str q.1) = (s.L.map (·.1)).map AV.str by rw [List.map_map]; rfl] at hpa
  generalize s.L.map (·.1) = PS at hpa hpb hzl hzk hR'
  have hsm := fun p => same_ok PS PS (by omega) (by omega) p
  rw [decide_eq_true rfl] at hsm
  refine fnOK (n := 33) (rs := [.tmp 4]) Tryz.func20 rfl rfl (by decide) rfl rfl rfl ?_; rintro x rfl hrd hng
  rw [blk_s02]
  (try ((first | refine zn ?_ | refine ze ?_ | refine zk ?_); with_reducible (constructor; repeat constructor)); try refine zl ?_)
  refine K_ev nmd [] hng (by kernel_rfl) fun hf C S K hC1 hC hS hK => ?_; simp (disch := first | omega | assumption) only [go_sem]
  refine hK ?_; clear hK hS hC hC1 K S C hf
  (try ((first | refine zn ?_ | refine ze ?_ | refine zk ?_); with_reducible (constructor; repeat constructor)); try refine zl ?_)
  refine K_ev nmd [] hng (by kernel_rfl) fun hf C S K hC1 hC hS hK => ?_; simp (disch := first | omega | assumption) only [go_sem]
  refine hC1 _ (hpb _ (hO'.sub _ _)) (by first | exact nbu1 _ | exact nbA2 (by simp) hdj _) ?_
  simp (disch := first | omega | assumption) only [go_sem]
  refine hK ?_; clear hK hS hC hC1 K S C hf
  (try ((first | refine zn ?_ | refine ze ?_ | refine zk ?_); with_reducible (constructor; repeat constructor)); try refine zl ?_)
  refine K_ev nmd [] hng (by kernel_rfl) fun hf C S K hC1 hC hS hK => ?_; simp (disch := first | omega | assumption) only [go_sem, decide_true, decide_false, ne_eq, not_true_eq_false, not_false_eq_true]
  refine hC1 _ (hpa _ (hO.sub _ _)) (by first | exact nbu1 _ | exact nbA1 (by simp) _) ?_
  simp (disch := first | omega | assumption) only [go_sem, decide_true, decide_false, ne_eq, not_true_eq_false, not_false_eq_true]
  refine hC1 _ (hsm _) (fun _ h => by cases h) ?_
  simp (disch := first | omega | assumption) only [go_sem, decide_true, decide_false, ne_eq, not_true_eq_false, not_false_eq_true]
  refine hK ?_; clear hK hS hC hC1 K S C hf
  (repeat (first | (refine K_ifT rfl rfl ?_) | (refine K_ifF rfl rfl ?_) | (refine K_ev nmd [] hng (by kernel_rfl) fun hf C S K hC1 hC hS hK => ?_; simp (disch := first | omega | assumption) only [go_sem]; refine hK ?_; clear hK hS hC hC1 K S C hf) | ((first | refine zn ?_ | refine ze ?_ | refine zk ?_); with_reducible (constructor; repeat constructor); try refine zl ?_)))
  refine K_loop [0, 1, 5, 6] (fun k s' => ∃ (i c : Nat) (z : St) (F G : Oid → AObj), s' = ⟨[(0, .ptr st 0), (1, .ptr r 0), (5, .list 1 (PS.map AV.str)), (6, .int .i64 i)], Mem.blk [] [(N, F), (M, G)], c, []⟩ ∧ k = PS.length - i ∧ i ≤ PS.length ∧ StoP st z N F ∧ StoR r z M G ∧ SOK z ∧
    ∀ q, z.t = some q → q.R.length + (PS.length - i) ≤ 1000000 ∧ q.W.length ≤ 1000000) _ ⟨0, _, s, _, _, rfl, rfl, Nat.zero_le _, h1, h2, hs, hR'⟩ ?_
  clear h1 h2 hs hR hR' hpa hpb
  rintro k s' ⟨i, c, z, F1, G1, rfl, rfl, hi, h1, h2, hs, hR⟩
  (repeat (first | (refine K_ifT rfl rfl ?_) | (refine K_ifF rfl rfl ?_) | (refine K_ev nmd [] hng (by kernel_rfl) fun hf C S K hC1 hC hS hK => ?_; simp (disch := first | omega | assumption) only [go_sem, List.length_map]; refine hK ?_; clear hK hS hC hC1 K S C hf) | ((first | refine zn ?_ | refine ze ?_ | refine zk ?_); with_reducible (constructor; repeat constructor); try refine zl ?_)))
  refine K_ifd rfl rfl (fun hb => ?_) (fun hb => ?_)
  · have hlt : i < PS.length := by omega
    have hgl := hzk (PS.getD i default) (by rw [getD_in hlt]; exact List.getElem_mem hlt)
    generalize hg : PS.getD i default = g at hgl
    obtain ⟨F', hF, hA⟩ := atP_ok h1 hs g (by omega)
    obtain ⟨G', hG, hB⟩ := atR_ok h2 hs (fun q hq => by have := hR q hq; omega) g (by omega)
    have hs' := hs.read (g, false)
    have hR' : ∀ q, (z.read (g, false)).t = some q → q.R.length + (PS.length - (i + 1)) ≤ 1000000 ∧ q.W.length ≤ 1000000 := fun q hq => by
      simp only [St.read, Option.map_eq_some_iff] at hq
      obtain ⟨a, ha, rfl⟩ := hq
      have h3 := hR a ha
      have h4 := readR_len (old := a.old) (W := a.W) (f := (g, false)) (hs.tr a ha).sr
      have h5 : (a.read (g, false)).R.length ≤ a.R.length + 1 := h4
      have h6 : (a.read (g, false)).W = a.W := rfl
      rw [h6]; omega
    generalize getP z.L g = B at hA hB
    obtain ⟨ek, em, el⟩ := B
    simp only [Bits.av] at hA hB
    (try ((first | refine zn ?_ | refine ze ?_ | refine zk ?_); with_reducible (constructor; repeat constructor)); try refine zl ?_)
    refine K_evd nmd [] [(5, 10)] mixed hng (by kernel_rfl) [0, 1, 5, 6, 32] fun hf C S K hC hS hK => ?_; simp (disch := first | omega | assumption) only [go_sem, hg, List.length_map]
    refine hC _ (hA _ (mono_sub' rfl hp) (hO.sub _ _)) (by first | exact nbu1 _ | exact nbA1 (by simp) _) ?_
    simp (disch := first | omega | assumption) only [go_sem, hg, List.length_map]
    refine hC _ (hB _ (mono_sub' rfl hp) (hO'.sub _ _)) (by first | exact nbu1 _ | exact nbA2 (by simp) hdj _) ?_
    simp (disch := first | omega | assumption) only [go_sem, hdj, eq_self, decide_true, decide_false, ne_eq, not_true_eq_false, not_false_eq_true]
    (first | refine hK (dynN_quiet rfl) ?_ | refine hK (by simp (disch := first | omega | assumption) only [go_sem, List.reverse_cons, List.reverse_nil, ne_eq, not_false_eq_true, implies_true]) ?_); clear hK hS hC K S C hf
    (repeat (first | (refine K_ifT rfl rfl ?_) | (refine K_ifF rfl rfl ?_) | (refine K_ev nmd [] hng (by kernel_rfl) fun hf C S K hC1 hC hS hK => ?_; simp (disch := first | omega | assumption) only [go_sem, decide_true, decide_false, ne_eq, not_true_eq_false, not_false_eq_true]; refine hK ?_; clear hK hS hC hC1 K S C hf) | ((first | refine zn ?_ | refine ze ?_ | refine zk ?_); with_reducible (constructor; repeat constructor); try refine zl ?_)))
    exact ⟨_, _, by omega, fun _ _ h => h, i + 1, _, _, _, _, rfl, rfl, by omega, hF, hG, hs', hR'⟩
  · (repeat (first | (refine K_ifT rfl rfl ?_) | (refine K_ifF rfl rfl ?_) | (refine K_ev nmd [] hng (by kernel_rfl) fun hf C S K hC1 hC hS hK => ?_; simp (disch := first | omega | assumption) only [go_sem]; refine hK ?_; clear hK hS hC hC1 K S C hf) | ((first | refine zn ?_ | refine ze ?_ | refine zk ?_); with_reducible (constructor; repeat constructor); try refine zl ?_)))
    exact K_ret (done_gone rfl)
end Go.Proofs.YtaecbmbecofijaaGreatDoor
namespace Go.Proofs.YtaecbmbecofijaaGreatDoor
open Go Go.Ab
set_option maxRecDepth 20000
set_option maxHeartbeats 4000000
theorem blk_open' (pr : Oid) (N M : List Oid) (H : Oid → AObj) : Mem.blk [] [(pr :: (N ++ M), H)] = Mem.blk [(pr, H pr)] [(N, H), (M, H)] := by
  rw [← blk_open, blk_s0]
/-- A pair begun. -/
theorem pair_new {pr st t r : Oid} (d1 : ¬ t = st) (d2 : ¬ pr = st) (d3 : ¬ pr = t) (d4 : ¬ pr = r) (d5 : ¬ st = r) (d6 : ¬ t = r) :
    ∃ H, PairB pr st r ⟨[], none⟩ [] [] [st, t] [r] H ∧ ∀ i o, Mem.blk [] [(pr :: ([st, t] ++ [r]), H)] i = some o →
      (i = pr ∧ o = .cells [.ptr st 0, .ptr r 0, .list 3 [], .list 3 []]) ∨ (i = st ∧ o = .cells [.map t, .nilPtr]) ∨ (i = t ∧ o = .map [.ss] false [] 0) ∨ (i = r ∧ o = .cells [.list 4 [], .list 4 [], .list 3 [], .list 1 [], .bool false]) := by
  have nN : pr ∉ [st, t] := by simp [d2, d3]
  have nM : pr ∉ [r] := by simp [d4]
  have hdj : DJ [st, t] [r] := fun i hi hm => by
    simp only [List.mem_cons, List.not_mem_nil, or_false] at hi hm
    subst hm
    rcases hi with e | e
    · exact d5 e.symm
    · exact d6 e.symm
  refine ⟨_, PairB.mk' (G := fun _ => .cells [.list 4 [], .list 4 [], .list 3 [], .list 1 [], .bool false]) nN nM hdj (stoP_new d1) ⟨rfl, .list 4 [], rfl⟩ PG.new NT.nil NT.nil, fun i o h => ?_⟩
  rw [blk_nil_at] at h
  split at h
  · rename_i hi
    have h := Option.some.inj h
    rcases List.mem_cons.1 hi with rfl | hi
    · exact .inl ⟨rfl, by rw [← h, jn_pr]; rfl⟩
    · rcases List.mem_append.1 hi with hi | hi
      · rw [jn_N nN i hi] at h
        simp only [List.mem_cons, List.not_mem_nil, or_false] at hi
        rcases hi with rfl | rfl
        · exact .inr (.inl ⟨rfl, by rw [← h]; exact if_pos rfl⟩)
        · exact .inr (.inr (.inl ⟨rfl, by rw [← h]; exact if_neg d1⟩))
      · rw [jn_M nM hdj i hi] at h
        exact .inr (.inr (.inr ⟨by simpa using hi, h.symm⟩))
  · cases h
theorem plays_ok (l : List Act) (hl : l.length ≤ 140737488355328) (p : Oid) (hp : p.mono = false) : CallOK Tryz.prog 3 [.list 5 (l.map actA)] (Oid.under p) ⟨[], .bool true, []⟩ := by
  refine fnOK (n := 58) (rs := [.tmp 2]) Tryz.func3 rfl rfl (by decide) rfl rfl rfl ?_; rintro x rfl hrd hng
  (repeat (first | (refine K_ifT rfl rfl ?_) | (refine K_ifF rfl rfl ?_) | (refine K_ev nmd [] hng (by kernel_rfl) fun hf C S K hC1 hC hS hK => ?_; simp (disch := first | omega | assumption) only [go_sem]; (repeat ((first | refine hC1 _ (awake_ok _ (mono_sub' rfl hp)) (by simp (disch := first | omega | assumption) only [go_sem]) ?_ | refine hC1 _ (new_ok _) (by simp (disch := first | omega | assumption) only [go_sem]) ?_ | refine hC1 _ (newR_ok _) (by simp (disch := first | omega | assumption) only [go_sem]) ?_); simp (disch := first | omega | assumption) only [go_sem])); refine hK ?_; clear hK hS hC hC1 K S C hf) | ((first | refine zn ?_ | refine ze ?_ | refine zk ?_); with_reducible (constructor; repeat constructor); try refine zl ?_)))
  have d1 : ¬ Oid.sub 1 0 (.sub 3 0 x.p) = Oid.sub 1 2 (.sub 3 0 x.p) := by simp
  have d2 : ¬ Oid.sub 3 3 x.p = Oid.sub 1 2 (.sub 3 0 x.p) := by simp
  have d3 : ¬ Oid.sub 3 3 x.p = Oid.sub 1 0 (.sub 3 0 x.p) := by simp
  have d4 : ¬ Oid.sub 3 3 x.p = Oid.sub 1 1 (.sub 3 1 x.p) := by simp
  have d5 : ¬ Oid.sub 1 2 (.sub 3 0 x.p) = Oid.sub 1 1 (.sub 3 1 x.p) := by simp
  have d6 : ¬ Oid.sub 1 0 (.sub 3 0 x.p) = Oid.sub 1 1 (.sub 3 1 x.p) := by simp
  obtain ⟨H, hPB, hmem⟩ := pair_new d1 d2 d3 d4 d5 d6
  refine K_cells (.sub 3 3 x.p) _ [.ptr (.sub 1 2 (.sub 3 0 x.p)) 0, .ptr (.sub 1 1 (.sub 3 1 x.p)) 0, .list 3 [], .list 3 []] (by simp [Mem.of_cons_at]) (.cons (.refl _) (.cons (.refl _) (.cons (.nilList 3) (.cons (.nilList 3) .nil)))) ?_
  refine K_drop (Mem.blk [] [(.sub 3 3 x.p :: ([.sub 1 2 (.sub 3 0 x.p), .sub 1 0 (.sub 3 0 x.p)] ++ [.sub 1 1 (.sub 3 1 x.p)]), H)]) (fun i o h => by
    rcases hmem i o h with ⟨rfl, rfl⟩ | ⟨rfl, rfl⟩ | ⟨rfl, rfl⟩ | ⟨rfl, rfl⟩ <;> simp [Mem.set, Mem.of_cons_at]) ?_
  have hO : OldC x.p 4 (.sub 3 3 x.p :: ([Oid.sub 1 2 (.sub 3 0 x.p), Oid.sub 1 0 (.sub 3 0 x.p)] ++ [Oid.sub 1 1 (.sub 3 1 x.p)])) := fun j hj ⟨c', i', hc', hu⟩ => by
    simp only [List.cons_append, List.nil_append, List.mem_cons, List.not_mem_nil, or_false] at hj
    rcases hj with rfl | rfl | rfl | rfl
    · have := (Oid.apart hu (Oid.under_refl _)).1; omega
    · have := (Oid.apart hu (Oid.under_sub (Oid.under_refl _))).1; omega
    · have := (Oid.apart hu (Oid.under_sub (Oid.under_refl _))).1; omega
    · have := (Oid.apart hu (Oid.under_sub (Oid.under_refl _))).1; omega
  clear hmem d1 d2 d3 d4 d5 d6
  generalize [Oid.sub 1 2 (.sub 3 0 x.p), Oid.sub 1 0 (.sub 3 0 x.p)] = N0 at hPB hO ⊢
  generalize [Oid.sub 1 1 (.sub 3 1 x.p)] = M at hPB hO ⊢
  generalize Oid.sub 1 2 (.sub 3 0 x.p) = st at hPB
  generalize Oid.sub 1 1 (.sub 3 1 x.p) = r at hPB
  generalize Oid.sub 3 3 x.p = pr at hPB hO ⊢
  refine K_loop [0, 3, 4, 5] (fun k s' => ∃ (i c : Nat) (s : St) (RD WR : List Tch) (N : List Oid) (H : Oid → AObj), s' = ⟨[(0, .list 5 (l.map actA)), (3, .bool true), (4, .ptr pr 0), (5, .int .i64 i)], Mem.blk [] [(pr :: (N ++ M), H)], c, []⟩ ∧ k = l.length - i ∧ i ≤ l.length ∧ i ≤ 40 ∧ 4 ≤ c ∧ PairB pr st r s RD WR N M H ∧ OldC x.p c (pr :: (N ++ M))) _ ⟨0, _, _, _, _, _, _, rfl, rfl, Nat.zero_le _, by omega, by omega, hPB, hO.mono (by omega)⟩ ?_
  clear hPB hO H N0
  rintro k s' ⟨i, c, s, RD, WR, N, H, rfl, rfl, hi, hi2, hc, hPB, hO⟩
  (try ((first | refine zn ?_ | refine ze ?_ | refine zk ?_); with_reducible (constructor; repeat constructor)); try refine zl ?_)
  refine K_cut [0, 3, 4, 5, 26] (fun s' => ∃ c' : Nat, s' = ⟨[(0, .list 5 (l.map actA)), (3, .bool true), (4, .ptr pr 0), (5, .int .i64 i), (26, .bool (decide (i < l.length ∧ i < 40)))], Mem.blk [] [(pr :: (N ++ M), H)], c', []⟩ ∧ c ≤ c') ?_ ?_
  · refine K_ev nmd [(4, 23)] hng (by kernel_rfl) fun hf C S K hC1 hC hS hK => ?_; simp (disch := first | omega | assumption) only [go_sem, List.length_map]
    (repeat' (first | (refine evG_split (fun hv => ?_) (fun hv => ?_) <;> (try simp only [zb1, zb2, zb3, zb4, zb5] at hv) <;> simp (disch := first | omega | assumption) only [go_sem, hv, List.length_map]) | (refine hK ?_; clear hK hS hC hC1 K S C hf)))
    · rw [show decide (i < l.length ∧ i < 40) = decide ((i : Int) < 40) from decide_eq_decide.2 (by omega)]
      exact K_cutN ⟨_, rfl, by omega⟩
    · rw [show decide (i < l.length ∧ i < 40) = false from decide_eq_false (by omega)]
      exact K_cutN ⟨_, rfl, by omega⟩
  rintro s' ⟨c', rfl, hc'⟩
  refine K_ifd rfl rfl (fun hb => ?_) (fun hb => ?_)
  · have hlt : i < l.length := hb.1
    generalize hg : l.getD i default = g
    obtain ⟨a, b, m, k, d⟩ := g
    (try ((first | refine zn ?_ | refine ze ?_ | refine zk ?_); with_reducible (constructor; repeat constructor)); try refine zl ?_)
    obtain ⟨s', RD', WR', N', H', hPB', hN', hD⟩ := does_all hPB b m k d (p := .sub c' 5 x.p) (mono_sub' rfl hp) (hO.sub hc' 5) a
    have hO' : OldC x.p (c' + 1) (pr :: (N' ++ M)) := fun j hj hy => by
      have hold : ∀ j ∈ pr :: (N ++ M), ¬ Young x.p (c' + 1) j := fun j hj hy => hO j hj (hy.mono (by omega))
      rcases List.mem_cons.1 hj with rfl | hj
      · exact hold _ List.mem_cons_self hy
      · rcases List.mem_append.1 hj with hj | hj
        · rcases hN' j hj with h | h
          · exact hold j (List.mem_cons_of_mem _ (List.mem_append_left _ h)) hy
          · obtain ⟨c1, i1, hc1, hu⟩ := hy
            have := (Oid.apart h hu).1; omega
        · exact hold j (List.mem_cons_of_mem _ (List.mem_append_right _ hj)) hy
    simp only [actA] at hD
    refine K_ev nmd [] hng (by kernel_rfl) fun hf C S K hC1 hC hS hK => ?_; simp (disch := first | omega | assumption) only [go_sem, hg, actA, AV.cells, List.length_map]
    refine hC1 _ hD (by show ∀ q, q ∈ bk _ → _; rw [need_0]; trivial) ?_
    simp (disch := first | omega | assumption) only [go_sem]
    refine hK ?_; clear hK hS hC hC1 K S C hf
    (try ((first | refine zn ?_ | refine ze ?_ | refine zk ?_); with_reducible (constructor; repeat constructor)); try refine zl ?_)
    refine K_exn (P := Tryz.prog) (A := []) (Bs := []) (fun e he => by cases he) (fun B hB => by cases hB) ?_
    (repeat (first | (refine K_ifT rfl rfl ?_) | (refine K_ifF rfl rfl ?_) | (refine K_ev nmd [] hng (by kernel_rfl) fun hf C S K hC1 hC hS hK => ?_; simp (disch := first | omega | assumption) only [go_sem]; refine hK ?_; clear hK hS hC hC1 K S C hf) | ((first | refine zn ?_ | refine ze ?_ | refine zk ?_); with_reducible (constructor; repeat constructor); try refine zl ?_)))
    exact ⟨_, _, by omega, fun _ _ h => h, i + 1, _, _, _, _, _, _, rfl, rfl, by omega, by omega, by omega, hPB', hO'.mono (by omega)⟩
  · have hOx := hO.mono hc'
    have hpr : ∀ cc, c' ≤ cc → ∀ i, ¬ Oid.under (.sub cc i x.p) pr := fun cc h i => hOx.sub h i pr List.mem_cons_self
    have hON : OldC x.p c' N := fun j hj => hOx j (List.mem_cons_of_mem _ (List.mem_append_left _ hj))
    have hOM : OldC x.p c' M := fun j hj => hOx j (List.mem_cons_of_mem _ (List.mem_append_right _ hj))
    have hN := hPB.nN; have hM := hPB.nM; have hdj := hPB.dj
    have hce := hPB.ce
    obtain ⟨es, ck, hm, hcp⟩ := copyP_ok hPB.sp
    rw [blk_open', hce]
    have qa := hpr c' (by omega) 4
    have qb : ¬ Oid.under (.sub 1 4 (.sub c' 4 x.p)) pr := fun h => qa (Oid.under_sub h)
    have oa : Old0 (.sub c' 4 x.p) N := hON.sub (by omega) 4
    have ob : Old0 (.sub 1 4 (.sub c' 4 x.p)) N := oa.sub 1 4
    have pa : Old0 (.sub c' 4 x.p) M := hOM.sub (by omega) 4
    have pb : Old0 (.sub 1 4 (.sub c' 4 x.p)) M := pa.sub 1 4
    have hab : ¬ Oid.sub 0 0 (.sub 1 4 (.sub c' 4 x.p)) = Oid.sub 1 6 (.sub c' 4 x.p) := fun e => by have := congrArg Oid.depth e; simp only [Oid.depth] at this; omega
    have hab' : ¬ Oid.sub 1 6 (.sub c' 4 x.p) = Oid.sub 0 0 (.sub 1 4 (.sub c' 4 x.p)) := fun e => hab e.symm
    have hpu := fun (cc : Nat) (hc2 : c' < cc) => put_ok (Oid.sub 1 6 (.sub c' 4 x.p)) (Oid.sub 0 0 (.sub 1 4 (.sub c' 4 x.p))) es ck hab (.sub cc 2 x.p)
      (fun hu => by have := (Oid.apart hu (Oid.under_sub (Oid.under_refl _))).1; omega) (fun hu => by have := (Oid.apart hu (Oid.under_sub (Oid.under_sub (Oid.under_refl _)))).1; omega) [47, 110, 101, 119] ⟨1, 0, []⟩
    simp only [Bits.av] at hpu
    have hsame := fun p hp ho ho' => sameS_ok hPB.sp hPB.sr hPB.pg.ok (fun q hq => by have := hPB.pg.tl hq; have := hPB.pg.len; omega) hdj p hp ho ho'
    generalize putE [47, 110, 101, 119] ⟨1, 0, []⟩ es ck = E1 at hpu
    generalize putC [47, 110, 101, 119] ⟨1, 0, []⟩ es ck = C1 at hpu
    (repeat (first | (refine K_ifT rfl rfl ?_) | (refine K_ifF rfl rfl ?_) | (refine K_ev nmd [] hng (by kernel_rfl) fun hf C S K hC1 hC hS hK => ?_; simp (disch := first | omega | assumption) only [go_sem]; refine hK ?_; clear hK hS hC hC1 K S C hf) | ((first | refine zn ?_ | refine ze ?_ | refine zk ?_); with_reducible (constructor; repeat constructor); try refine zl ?_)))
    refine K_ev nmd [] hng (by kernel_rfl) fun hf C S K hC1 hC hS hK => ?_; simp (disch := first | omega | assumption) only [go_sem]
    refine hC1 _ (hcp _ (hON.sub (by omega) _)) (by exact nbA1 (by simp [hN]) _) ?_
    simp (disch := first | omega | assumption) only [go_sem, Oid.not_under_sub qa, Oid.sub_not_under qa, Oid.not_under_sub qb, Oid.sub_not_under qb, hab, hab']
    refine hK ?_; clear hK hS hC hC1 K S C hf
    (repeat (first | (refine K_ifT rfl rfl ?_) | (refine K_ifF rfl rfl ?_) | (refine K_ev nmd [] hng (by kernel_rfl) fun hf C S K hC1 hC hS hK => ?_; simp (disch := first | omega | assumption) only [go_sem, Oid.not_under_sub qa, Oid.sub_not_under qa, Oid.not_under_sub qb, Oid.sub_not_under qb, hab, hab']; refine hK ?_; clear hK hS hC hC1 K S C hf) | ((first | refine zn ?_ | refine ze ?_ | refine zk ?_); with_reducible (constructor; repeat constructor); try refine zl ?_)))
    refine K_ev nmd [] hng (by kernel_rfl) fun hf C S K hC1 hC hS hK => ?_; simp (disch := first | omega | assumption) only [go_sem, Oid.not_under_sub qa, Oid.sub_not_under qa, Oid.not_under_sub qb, Oid.sub_not_under qb, hab, hab']
    refine hC1 _ (hpu _ (by omega)) (by simp (disch := first | omega | assumption) only [go_sem, Oid.not_under_sub qa, Oid.sub_not_under qa, Oid.not_under_sub qb, Oid.sub_not_under qb, hab, hab']) ?_
    simp (disch := first | omega | assumption) only [go_sem, Oid.not_under_sub qa, Oid.sub_not_under qa, Oid.not_under_sub qb, Oid.sub_not_under qb, hab, hab']
    refine hK ?_; clear hK hS hC hC1 K S C hf
    (try ((first | refine zn ?_ | refine ze ?_ | refine zk ?_); with_reducible (constructor; repeat constructor)); try refine zl ?_)
    refine K_evd nmd [(1, 47)] [] mixed hng (by kernel_rfl) [2] fun hf C S K hC hS hK => ?_; simp (disch := first | omega | assumption) only [go_sem, Oid.not_under_sub qa, Oid.sub_not_under qa, Oid.not_under_sub qb, Oid.sub_not_under qb, hab, hab', decide_true, decide_false, ne_eq, not_true_eq_false, not_false_eq_true]
    refine hC _ (hsame _ (mono_sub' rfl hp) (hON.sub (by omega) _) (hOM.sub (by omega) _)) (fun q hq => ?_) ?_
    · rcases List.mem_append.1 hq with hq | hq
      · exact nbA1 (by simp [hN, oa.mem, ob.mem]) _ q hq
      · exact nbA2 (by simp [hM, pa.mem, pb.mem]) hdj _ q hq
    simp (disch := first | omega | assumption) only [go_sem, hN, hM, decide_true, decide_false, ne_eq, not_true_eq_false, not_false_eq_true]
    (first | refine hK (dynN_quiet rfl) ?_ | refine hK (by simp (disch := first | omega | assumption) only [go_sem, List.reverse_cons, List.reverse_nil, ne_eq, not_false_eq_true, implies_true]) ?_); clear hK hS hC K S C hf
    (repeat (first | (refine K_ifT rfl rfl ?_) | (refine K_ifF rfl rfl ?_) | (refine K_ev nmd [] hng (by kernel_rfl) fun hf C S K hC1 hC hS hK => ?_; simp (disch := first | omega | assumption) only [go_sem]; refine hK ?_; clear hK hS hC hC1 K S C hf) | ((first | refine zn ?_ | refine ze ?_ | refine zk ?_); with_reducible (constructor; repeat constructor); try refine zl ?_)))
    exact K_ret (done1 rfl)
end Go.Proofs.YtaecbmbecofijaaGreatDoor
namespace Go.Proofs.YtaecbmbecofijaaGreatDoor
open Go Go.Ab
set_option maxRecDepth 100000
theorem c_u8 : Tryz.prog.cellsOf 5 = 1 := by kernel_rfl
theorem c_act : Tryz.prog.cellsOf 34 = 5 := by kernel_rfl
theorem b_act : Tryz.prog.bytesOf 34 = 5 := by kernel_rfl
theorem c_acts : Tryz.prog.cellsOf 22 = 1 := by kernel_rfl
theorem rd_act : Rd Tryz.prog 34 actA (fun _ => True) :=
  (rd_struct Tryz.underlying34 (by kernel_rfl) (rdF_cons rfl (rd_u8 Tryz.underlying5 c_u8) (rdF_cons (by rw [c_u8]) (rd_u8 Tryz.underlying5 c_u8) (rdF_cons (by rw [c_u8]) (rd_u8 Tryz.underlying5 c_u8) (rdF_cons (by rw [c_u8]) (rd_u8 Tryz.underlying5 c_u8) (rdF_cons (by rw [c_u8]) (rd_u8 Tryz.underlying5 c_u8) (rdF_nil _))))))).map
    (fun p => ⟨p.1, p.2.1, p.2.2.1, p.2.2.2.1, p.2.2.2.2.1⟩) (fun _ _ => rfl) (fun _ => c_act.symm) (fun _ _ => trivial)
theorem rd_acts : Rd Tryz.prog 22 (fun l : List Act => .list 5 (l.map actA)) (fun l => l.length ≤ 140737488355328) :=
  (rd_slice Tryz.underlying22 c_acts (by rw [c_act]; decide) rd_act).map id (fun _ _ => by rw [c_act]; rfl) (fun _ => c_acts.symm) (fun l h => by
    have h1 := h.1
    rw [b_act] at h1
    unfold reachBytes at h1
    show l.length ≤ _
    omega)
theorem storePlays_lifted (os : Os) (started : os.Started) (H : Type) (enc : TypeId × Value → H) (F : Stop.Interp) :
    ReturnsInHanded {} Tryz.checked os 3 .any ((OpenSpec.ofChange Rows.storePlaysSpec).preRow enc Tryz.prog Tryz.f3 Rows.storePlaysRow.domain false Rows.storePlaysRow.laid) (((OpenSpec.ofChange Rows.storePlaysSpec).at F).post enc Tryz.prog Tryz.f3 false true false false) := by
  have hx : DataW.whole enc Tryz.prog ((laidWorld os).forCall (fun _ _ => 0) ⟨#[], #[.slice none 0 0], []⟩).memory Tryz.f3.params.toList Rows.storePlaysSpec.vars false (#[.slice none 0 0] : Array Value).toList 8 = some ([.nil], [], []) := by kernel_rfl
  exact law_lifted_row (C := Tryz.checked) (s := Rows.storePlaysSpec) (ts := [22]) (W := fun p : List Act × Unit => p.1.length ≤ 140737488355328 ∧ True) own started (by kernel_rfl) Tryz.func3
    (witness_row_at (enc := enc) (C := Tryz.checked) false (laidWorld os) #[.slice none 0 0] rfl (by kernel_rfl) (by kernel_rfl) (by kernel_rfl)
      (OpenSpec.preRow_of_cond 8 hx (by kernel_rfl) (fun k hk => by cases hk) (by kernel_rfl) (laid_met os _)))
    laidOut full (by rw [Tryz.params3]) (by kernel_rfl) (by kernel_rfl) Tryz.underlying4 rfl (fun ds h => by match ds, h with | [d0], _ => rfl)
    (rdA_slice Tryz.underlying22 c_acts (fun _ => rfl) rd_acts rdA_nil) (fun b hb => plays_ok b.1 hb.1 _ rfl) (fun W h ho => laid_facts h ho)
theorem storePlays_said : Rows.StorePlaysSaid :=
  OpenClaim.holds_of_cond 3 Tryz.f3 rfl rfl rfl rfl rfl rfl rfl ⟨rfl, rfl, rfl, rfl, rfl⟩ rfl rfl rfl rfl rfl (by kernel_rfl) Tryz.func3 (by kernel_rfl)
    (of_decide_eq_true (by kernel_rfl)) (by unfold Func.isWrapper; first | (rw [if_pos (by decide +kernel)]; kernel_rfl) | (rw [if_neg (by decide +kernel)]; exact ⟨rfl, rfl⟩))
    (fun os started H enc _ F => by rw [OpenClaim.pre_eq_preRow]; exact storePlays_lifted os started H enc F)
theorem storePlays_plain (f : FuncId) (fn : Func) (hf : Tryz.pinned.checked.prog.funcNamed "scullion/scullionlaw05.StorePlays" = some f) (hfn : Tryz.pinned.checked.prog.funcs[f]? = some fn) :
    true = Tryz.pinned.checked.prog.looks [] ∧ ∀ (j : Nat) t, fn.params[j]? = some t → Tryz.pinned.checked.prog.wantsStandIn t = false := by
  obtain rfl : f = 3 := Option.some.inj ((show Tryz.prog.funcNamed "scullion/scullionlaw05.StorePlays" = some 3 by kernel_rfl).symm.trans hf) |>.symm
  obtain rfl : fn = Tryz.f3 := (Option.some.inj (Tryz.func3.symm.trans hfn)).symm
  refine ⟨by kernel_rfl, fun j t ht => ?_⟩
  have h0 : (Tryz.f3.params.toList.all fun t => !(Tryz.prog.wantsStandIn t)) = true := by kernel_rfl
  have h1 := List.all_eq_true.1 h0 t (by simpa using Array.mem_of_getElem? ht)
  exact (by simpa using h1 : Tryz.prog.wantsStandIn t = false)
theorem storePlays_holds : Rows.StorePlaysCardSaid :=
  Claim7.holds_tied_plain_at .later [] _ _ _ _ storePlays_said (fun _ h => by cases h) (by kernel_rfl) (fun _ h => by cases h) storePlays_row_tie rfl ⟨rfl, rfl⟩ (by kernel_rfl) rfl storePlays_plain (by kernel_rfl)
end Go.Proofs.YtaecbmbecofijaaGreatDoor
