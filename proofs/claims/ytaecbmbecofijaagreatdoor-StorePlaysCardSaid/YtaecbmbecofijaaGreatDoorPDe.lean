/- A part of the proof: the texts Z7, Z8, Z9h, Z10, Z11, Z13, Z12, FwK, Z15, Z16, Z17, FwS, SortT, Z14, Z18, ShelfB, Z19a, Z19, Z20, FwX, one behind the other. -/
import Derived.Test.YtaecbmbecofijaaGreatDoorPDd
import Derived.Shelf.SlMaps.Clone
import Derived.WalkKit
import Derived.Shelf.SlSortCmp.WholeK
import Derived.Shelf.SlLaysF0
import Derived.Test.YtaecbmbecofijaaGreatDoorProg
import Derived.Shelf.Strings.Builder1
import Derived.Shelf.Small.Bits
import Derived.Shelf.Strconv.Atoi
import Derived.Shelf.Strconv.Itoa0
import Derived.Shelf.Strconv.Itoa1
import Derived.Shelf.LaysM
import Derived.Shelf.Strconv.Itoa2
import Derived.Shelf.Strconv.Itoa3
import Derived.Shelf.Strconv.AtoiErrFast
import Derived.Shelf.Strconv.ParseIntEmpty
import Derived.Shelf.Strconv.AtoiFail
import Derived.Shelf.Strconv.Clone
import Derived.Shelf.Strconv.SyntaxError
import Derived.Shelf.LaysC
import Derived.Shelf.Strconv.ToError
import Derived.Shelf.Strconv.Lower
import Derived.Shelf.Strconv.ParseUint10
import Derived.Shelf.Strconv.ParseUint10Empty
import Derived.Shelf.Strconv.ParseUint10Any
import Derived.Shelf.Strconv.ParseInt10
import Derived.Shelf.Strconv.AtoiLong
import Derived.Shelf.Strconv.AtoiInnerAll
import Derived.Shelf.Strconv.RangeError
import Derived.Shelf.Strconv.ToErrorRange
import Derived.Shelf.Strconv.AtoiAll
import Derived.Shelf.Strings.Search1
import Derived.Shelf.Strings.Search2
import Derived.Shelf.Strings.Search3
import Derived.Shelf.Strings.Cut
import Derived.Shelf.Strings.Count
import Derived.Shelf.Strings.Shaped
import Derived.Shelf.Sort.Plain
import Derived.Shelf.Strings.LastIndex
import Derived.Shelf.Strings.Prefix
import Derived.Shelf.Strings.Split
import Derived.Shelf.Strings.SplitShaped
import Derived.Shelf.Unicode.Decode
import Derived.Shelf.Strings.RuneCount
import Derived.Shelf.Unicode.DecodeSlow
import Derived.Shelf.Slices.In.SortNone
import Derived.Ground.SlgfProg
import Derived.Shelf.SlicesE.IndexFunc
import Derived.Shelf.SlicesE.DeleteFunc
import Derived.Laws.MakeOwn
set_option linter.unusedVariables false
set_option linter.unusedSimpArgs false
set_option linter.unusedSectionVars false
namespace Go.Proofs.YtaecbmbecofijaaGreatDoor
open Go Go.Ab
set_option maxRecDepth 20000
set_option maxHeartbeats 4000000
theorem keysT_seq (b1 o : Oid) (es : List ME) (clock : Nat) (p : Oid) (hne1 : ¬ o = b1) (hb1 : ¬ Oid.under p b1) (ho : ¬ Oid.under p o) :
    SeqND Tryz.prog 121 [.ptr b1 0] p [(b1, .cells [.map o]), (o, .map [.ss] false es clock)] 1 (fun pre xs => pre.length < es.length ∧ ∃ s : Str, xs = [.str s]) (fun b pre => b = true → ∃ U : List ME, U.Perm es ∧ pre = U.map fun e => [.str (keyS e)]) := by
  intro l J L0 hJ hdis hnp hY
  refine callND_cons (by kernel_rfl) fun hcon => ?_
  refine fnND (n := 14) (rs := []) Tryz.func121 rfl rfl (by decide) rfl rfl rfl ?_; rintro x rfl hrd hng
  have hcL : ∀ q ∈ L0, Mem.of L0 q.1 = some q.2 := fun q hq => by
    have := hcon q (List.mem_append_right _ hq)
    rwa [of_app fun q' hq' => hdis q hq q' hq'] at this
  generalize hQ : DoneN Tryz.prog [] ([(b1, .cells [.map o]), (o, .map [.ss] false es clock)] ++ L0) _ _ = Q
  refine T_wf fun hwf => ?_
  obtain ⟨hw1, hw2⟩ := hwf o [.ss] false es clock (by simp only [fa_cons, fa_nil, Mem.of_cons_at, Mem.of_nil_at, Mem.of_upds, Mem.of_putL, putLs, putL, List.cons_append, List.nil_append, List.append_nil, ↓reduceIte, eq_self, and_true, true_and, and_self, and_false, false_and, reduceCtorEq, Oid.sub.injEq, Nat.reduceEqDiff, hne1, Oid.sub_not_under hb1, Oid.sub_not_under ho, Oid.not_under_sub hb1, Oid.not_under_sub ho])
  have hstr : ∀ e ∈ es, e.key = .str (keyS e) := fun e he => by
    obtain ⟨s, hs⟩ := str_of_fits (hw1 e he).1
    simp only [keyS, hs]
  (try ((first | refine zn ?_ | refine ze ?_ | refine zk ?_); with_reducible (constructor; repeat constructor)); try refine zl ?_)
  refine K_ev nmd [] hng (by kernel_rfl) fun hf C S K hC1 hC hS hK => ?_; simp (disch := first | omega | assumption) only [go_sem, hne1, Oid.sub_not_under hb1, Oid.sub_not_under ho, Oid.not_under_sub hb1, Oid.not_under_sub ho, of_put_at]
  refine hK ?_; clear hK hS hC hC1 K S C hf
  (try ((first | refine zn ?_ | refine ze ?_ | refine zk ?_); with_reducible (constructor; repeat constructor)); try refine zl ?_)
  have hn0 : ∀ q ∈ L0, ¬ q.1 = b1 ∧ ¬ q.1 = o ∧ ¬ q.1 = .sub 0 1 x.p := fun q hq => ⟨hdis q hq _ List.mem_cons_self, hdis q hq _ (List.mem_cons_of_mem _ List.mem_cons_self), fun e => hnp q hq (e ▸ Oid.under_sub (Oid.under_refl _))⟩
  refine K_mem ([(b1, .cells [.map o]), (o, .map [.ss] false es clock), (.sub 0 1 x.p, .iter (some o) clock [] clock)] ++ L0) (app_mem ?_ ?_) ?_
  · simp only [fa_cons, fa_nil, Mem.of_cons_at, Mem.of_nil_at, Mem.of_upds, Mem.of_putL, putLs, putL, List.cons_append, List.nil_append, List.append_nil, ↓reduceIte, eq_self, and_true, true_and, and_self, and_false, false_and, reduceCtorEq, Oid.sub.injEq, Nat.reduceEqDiff, hne1, Oid.sub_not_under hb1, Oid.sub_not_under ho, Oid.not_under_sub hb1, Oid.not_under_sub ho, of_put_at]
  · intro q hq
    obtain ⟨a1, a2, a3⟩ := hn0 q hq
    simp only [fa_cons, fa_nil, Mem.of_cons_at, Mem.of_nil_at, Mem.of_upds, Mem.of_putL, putLs, putL, List.cons_append, List.nil_append, List.append_nil, ↓reduceIte, eq_self, and_true, true_and, and_self, and_false, false_and, reduceCtorEq, Oid.sub.injEq, Nat.reduceEqDiff, of_put_at, a1, a2, a3]
    exact hcL q hq
  refine K_loop [0, 1, 5] (fun q s' => ∃ (c : Nat) (U : List ME) (L : List (Oid × AObj)), s' = ⟨[(0, .fn (.yield l) [] []), (1, .ptr b1 0), (5, .iter (.sub 0 1 x.p))], Mem.of ([(b1, .cells [.map o]), (o, .map [.ss] false es clock), (.sub 0 1 x.p, .iter (some o) clock (U.map ME.born) clock)] ++ L), c, []⟩ ∧ 0 < c ∧ q = es.length - U.length ∧ (U.map ME.born).Nodup ∧ (∀ e ∈ U, e ∈ es) ∧ J true (U.map fun e => [.str (keyS e)]) L ∧
    (∀ q ∈ L, Mem.of L q.1 = some q.2) ∧ ∀ q ∈ L, ((∃ q' ∈ L0, q'.1 = q.1) ∨ Oid.under x.p q.1) ∧ ¬ q.1 = b1 ∧ ¬ q.1 = o ∧ ¬ q.1 = .sub 0 1 x.p ∧ ∀ d j, c ≤ d → ¬ Oid.under (.sub d j x.p) q.1) es.length ⟨_, [], L0, rfl, by omega, rfl, List.nodup_nil, fun i h => (by cases h), hJ, hcL, fun q hq => ⟨.inl ⟨q, hq, rfl⟩, (hn0 q hq).1, (hn0 q hq).2.1, (hn0 q hq).2.2, fun d j _ h => hnp q hq (Oid.under_sub h)⟩⟩ ?_
  rintro q s' ⟨c, U, L, rfl, hc, rfl, hnd, hlt, hj, hcc, hnm⟩
  have hst : U.map ME.born = [] ∨ es = [] ∨ ∃ e ∈ es, e.born < clock := by
    cases U with
    | nil => exact .inl rfl
    | cons e _ => exact .inr (.inr ⟨e, hlt e List.mem_cons_self, (hw1 e (hlt e List.mem_cons_self)).2⟩)
  (try ((first | refine zn ?_ | refine ze ?_ | refine zk ?_); with_reducible (constructor; repeat constructor)); try refine zl ?_)
  refine K_ev nmd [] hng (by kernel_rfl) fun hf C S K hC1 hC hS hK => ?_; simp (disch := first | omega | assumption) only [go_sem]
  refine hS _ _ _ (fun o' hd ho' => nd_next (it := .sub 0 1 x.p) (id := o) (since := clock) (ks := [.ss]) (ag := false) (clock := clock) ho' rfl hst) ?_ ?_ (fun _ _ h => h.elim)
  · simp only [fa_cons, fa_nil, Mem.of_cons_at, Mem.of_nil_at, Mem.of_upds, Mem.of_putL, putLs, putL, List.cons_append, List.nil_append, List.append_nil, ↓reduceIte, eq_self, and_true, true_and, and_self, and_false, false_and, reduceCtorEq, Oid.sub.injEq, Nat.reduceEqDiff, hne1, Oid.sub_not_under hb1, Oid.sub_not_under ho, Oid.not_under_sub hb1, Oid.not_under_sub ho]
  rintro val upd (⟨e, he, hns, rfl, rfl⟩ | ⟨hall, rfl, rfl⟩)
  · have hfi := find_born hw2 he
    have hk := hstr e he
    have hnd' : ((U ++ [e]).map ME.born).Nodup := by
      rw [List.map_append]
      exact List.nodup_append.2 ⟨hnd, by simp, fun a ha b hb' e' => by simp at hb'; subst hb'; subst e'; exact hns ha⟩
    have hlt' : ∀ j ∈ U ++ [e], j ∈ es := fun j hj => by
      rcases List.mem_append.1 hj with hj | hj
      · exact hlt j hj
      · simp at hj; subst hj; exact he
    have hle := sub_len hw2 hlt' hnd'
    generalize hks : keyS e = s at *
    simp (disch := first | omega | assumption) only [go_sem, hne1, Oid.sub_not_under hb1, Oid.sub_not_under ho, Oid.not_under_sub hb1, Oid.not_under_sub ho, of_put_at, hk]
    refine hK ?_; clear hK hS hC hC1 K S C hf
    (repeat (first | (refine K_ifT rfl rfl ?_) | (refine K_ifF rfl rfl ?_) | (refine K_ev nmd [] hng (by kernel_rfl) fun hf C S K hC1 hC hS hK => ?_; simp (disch := first | omega | assumption) only [go_sem]; refine hK ?_; clear hK hS hC hC1 K S C hf) | ((first | refine zv ?_ | refine zw ?_ | refine zu ?_); with_reducible (constructor; repeat constructor); try refine zl ?_)))
    refine K_block ?_
    (repeat (first | (refine K_ifT rfl rfl ?_) | (refine K_ifF rfl rfl ?_) | (refine K_ev nmd [] hng (by kernel_rfl) fun hf C S K hC1 hC hS hK => ?_; simp (disch := first | omega | assumption) only [go_sem]; refine hK ?_; clear hK hS hC hC1 K S C hf) | ((first | refine zv ?_ | refine zw ?_ | refine zu ?_); with_reducible (constructor; repeat constructor); try refine zl ?_)))
    refine K_ev nmd [] hng (by kernel_rfl) fun hf C S K hC1 hC hS hK => ?_; simp (disch := first | omega | assumption) only [go_sem, hne1, Oid.sub_not_under hb1, Oid.sub_not_under ho, Oid.not_under_sub hb1, Oid.not_under_sub ho, of_put_at, hfi, hk, List.getLast?_concat]
    refine hK ?_; clear hK hS hC hC1 K S C hf
    (repeat (first | (refine K_ifT rfl rfl ?_) | (refine K_ifF rfl rfl ?_) | (refine K_ev nmd [] hng (by kernel_rfl) fun hf C S K hC1 hC hS hK => ?_; simp (disch := first | omega | assumption) only [go_sem]; refine hK ?_; clear hK hS hC hC1 K S C hf) | ((first | refine zv ?_ | refine zw ?_ | refine zu ?_); with_reducible (constructor; repeat constructor); try refine zl ?_)))
    have hnL : ∀ q ∈ L, ∀ q' ∈ ([(b1, .cells [.map o]), (o, .map [.ss] false es clock), (.sub 0 1 x.p, .iter (some o) clock (U.map ME.born ++ [e.born]) clock)] : List (Oid × AObj)), ¬ q.1 = q'.1 := fun q hq => by
      obtain ⟨_, a1, a2, a3, a4⟩ := hnm q hq
      simp only [fa_cons, fa_nil, Mem.of_cons_at, Mem.of_nil_at, Mem.of_upds, Mem.of_putL, putLs, putL, List.cons_append, List.nil_append, List.append_nil, ↓reduceIte, eq_self, and_true, true_and, and_self, and_false, false_and, reduceCtorEq, Oid.sub.injEq, Nat.reduceEqDiff, a1, a2, a3, not_false_eq_true]
    have hBm : ∀ q ∈ ([(b1, .cells [.map o]), (o, .map [.ss] false es clock), (.sub 0 1 x.p, .iter (some o) clock (U.map ME.born ++ [e.born]) clock)] : List (Oid × AObj)), Mem.of ([(b1, .cells [.map o]), (o, .map [.ss] false es clock), (.sub 0 1 x.p, .iter (some o) clock (U.map ME.born ++ [e.born]) clock)] ++ L) q.1 = some q.2 := by
      simp only [fa_cons, fa_nil, Mem.of_cons_at, Mem.of_nil_at, Mem.of_upds, Mem.of_putL, putLs, putL, List.cons_append, List.nil_append, List.append_nil, ↓reduceIte, eq_self, and_true, true_and, and_self, and_false, false_and, reduceCtorEq, Oid.sub.injEq, Nat.reduceEqDiff, hne1, Oid.sub_not_under hb1, Oid.sub_not_under ho, Oid.not_under_sub hb1, Oid.not_under_sub ho]
    have hall := cons_app hBm hnL hcc
    have hmm : (U ++ [e]).map ME.born = U.map ME.born ++ [e.born] := by simp
    have hlen2 : (U ++ [e]).length = U.length + 1 := by simp
    refine K_ev nmd [] hng (by kernel_rfl) fun hf C S K hC1 hC hS hK => ?_; simp (disch := first | omega | assumption) only [go_sem, hne1, Oid.sub_not_under hb1, Oid.sub_not_under ho, Oid.not_under_sub hb1, Oid.not_under_sub ho, of_put_at]
    refine hS _ _ _ (fun o' hd ho' => eff_yield ho' rfl (hY _ [.str s] L (.sub (c + 1 + 1) 2 x.p) hj rfl ⟨by rw [List.length_map]; rw [hlen2] at hle; omega, s, rfl⟩)) (fun q hq => hall q (List.mem_append_right _ hq)) ?_ (fun _ _ h => h.elim)
    rintro val upd ⟨b, L', rfl, hj', hU⟩
    have hym := yield_mem hU (fun q hq => hall q (List.mem_append_right _ hq)) hBm ?_
    rotate_left
    · intro q hq
      refine ⟨fun q' hq' => hnL q' hq' q hq, fun hu => ?_⟩
      simp only [List.mem_cons, List.not_mem_nil, or_false] at hq
      rcases hq with rfl | rfl | rfl
      · exact hb1 (Oid.under_sub hu)
      · exact ho (Oid.under_sub hu)
      · have := (Oid.apart hu (Oid.under_refl _)).1; omega
    have hcl : ∀ q ∈ L', Mem.of L' q.1 = some q.2 := fun q hq => by
      obtain ⟨o', ho'⟩ := Mem.of_some hq
      obtain ⟨q', h1, h2, h3⟩ := Mem.of_mem ho'
      have h4 := hym q (List.mem_append_right _ hq)
      have h5 := hym q' (List.mem_append_right _ h1)
      rw [h2, h4, h3] at h5
      rw [ho']; exact h5.symm
    simp (disch := first | omega | assumption) only [go_sem]
    refine hK ?_; clear hK hS hC hC1 K S C hf
    (repeat (first | (refine K_ifT rfl rfl ?_) | (refine K_ifF rfl rfl ?_) | (refine K_ev nmd [] hng (by kernel_rfl) fun hf C S K hC1 hC hS hK => ?_; simp (disch := first | omega | assumption) only [go_sem]; refine hK ?_; clear hK hS hC hC1 K S C hf) | ((first | refine zv ?_ | refine zw ?_ | refine zu ?_); with_reducible (constructor; repeat constructor); try refine zl ?_)))
    refine K_mem ([(b1, .cells [.map o]), (o, .map [.ss] false es clock), (.sub 0 1 x.p, .iter (some o) clock (U.map ME.born ++ [e.born]) clock)] ++ L') (by rw [← Mem.of_upds]; exact hym) ?_
    have hnm' : ∀ q ∈ L', ((∃ q' ∈ L0, q'.1 = q.1) ∨ Oid.under x.p q.1) ∧ ¬ q.1 = b1 ∧ ¬ q.1 = o ∧ ¬ q.1 = .sub 0 1 x.p ∧ ∀ d j, c + 1 + 1 + 1 ≤ d → ¬ Oid.under (.sub d j x.p) q.1 := fun q hq => by
      rcases hU.nam q hq with ⟨q', h1, h2⟩ | h1
      · obtain ⟨a0, a1, a2, a3, a4⟩ := hnm q' h1
        rw [h2] at a0 a1 a2 a3 a4
        exact ⟨a0, a1, a2, a3, fun d j hd => a4 d j (by omega)⟩
      · have hu := Oid.under_sub h1
        refine ⟨.inr hu, fun e => hb1 (e ▸ hu), fun e => ho (e ▸ hu), fun e => ?_, fun d j hd h2 => ?_⟩
        · rw [e] at h1; have := (Oid.apart h1 (Oid.under_refl _)).1; omega
        · have := (Oid.apart h1 h2).1; omega
    have hmap : ((U ++ [e]).map fun e => [AV.str (keyS e)]) = (U.map fun e => [AV.str (keyS e)]) ++ [[.str s]] := by simp [hks]
    have hnL' : ∀ q ∈ L', ∀ q' ∈ ([(b1, .cells [.map o]), (o, .map [.ss] false es clock), (.sub 0 1 x.p, .iter (some o) clock (U.map ME.born ++ [e.born]) clock)] : List (Oid × AObj)), ¬ q.1 = q'.1 := fun q hq => by
      obtain ⟨_, a1, a2, a3, a4⟩ := hnm' q hq
      simp only [fa_cons, fa_nil, Mem.of_cons_at, Mem.of_nil_at, Mem.of_upds, Mem.of_putL, putLs, putL, List.cons_append, List.nil_append, List.append_nil, ↓reduceIte, eq_self, and_true, true_and, and_self, and_false, false_and, reduceCtorEq, Oid.sub.injEq, Nat.reduceEqDiff, a1, a2, a3, not_false_eq_true]
    have hall' := cons_app (L := L') (B := [(b1, .cells [.map o]), (o, .map [.ss] false es clock), (.sub 0 1 x.p, .iter (some o) clock (U.map ME.born ++ [e.born]) clock)]) (fun q hq => by
      have := hym q (List.mem_append_left _ hq)
      revert q
      simp only [fa_cons, fa_nil, Mem.of_cons_at, Mem.of_nil_at, Mem.of_upds, Mem.of_putL, putLs, putL, List.cons_append, List.nil_append, List.append_nil, ↓reduceIte, eq_self, and_true, true_and, and_self, and_false, false_and, reduceCtorEq, Oid.sub.injEq, Nat.reduceEqDiff, hne1, Oid.sub_not_under hb1, Oid.sub_not_under ho, Oid.not_under_sub hb1, Oid.not_under_sub ho, implies_true]) hnL' hcl
    cases b with
    | true =>
      (repeat (first | (refine K_ifT rfl rfl ?_) | (refine K_ifF rfl rfl ?_) | (refine K_ev nmd [] hng (by kernel_rfl) fun hf C S K hC1 hC hS hK => ?_; simp (disch := first | omega | assumption) only [go_sem]; refine hK ?_; clear hK hS hC hC1 K S C hf) | ((first | refine zn ?_ | refine ze ?_ | refine zk ?_); with_reducible (constructor; repeat constructor); try refine zl ?_)))
      rw [← hmap] at hj'
      refine ⟨_, Mem.of ([(b1, .cells [.map o]), (o, .map [.ss] false es clock), (.sub 0 1 x.p, .iter (some o) clock (U.map ME.born ++ [e.born]) clock)] ++ L'), ?_, mem_sub hall', c + 1 + 1 + 1, U ++ [e], L', by rw [hmm]; rfl, by omega, rfl, hnd', hlt', hj', hcl, hnm'⟩
      rw [hlen2] at hle ⊢; omega
    | false =>
      refine K_ifT rfl rfl (K_ret ?_)
      subst hQ
      have hsw := swap_of (L := [(b1, .cells [.map o]), (o, .map [.ss] false es clock)] ++ L0) (L' := [(b1, .cells [.map o]), (o, .map [.ss] false es clock)] ++ L') (m := Mem.of ([(b1, .cells [.map o]), (o, .map [.ss] false es clock), (.sub 0 1 x.p, .iter (some o) clock (U.map ME.born ++ [e.born]) clock)] ++ L')) (sp := Oid.under x.p) (fun q hq => hall' q (by
          rcases List.mem_append.1 hq with hq | hq
          · exact List.mem_append_left _ (by simp only [List.mem_cons, List.not_mem_nil, or_false] at hq ⊢; rcases hq with h | h <;> simp [h])
          · exact List.mem_append_right _ hq)) (fun q hq => by
          rcases List.mem_append.1 hq with hq | hq
          · exact .inl ⟨q, List.mem_append_left _ hq, rfl⟩
          · rcases (hnm' q hq).1 with ⟨q', h1, h2⟩ | h
            · exact .inl ⟨q', List.mem_append_right _ h1, h2⟩
            · exact .inr h)
      exact done_ret _ _ rfl ⟨false, _, L', fun h => (by cases h), hj', hsw.1⟩ hsw.2
  · simp (disch := first | omega | assumption) only [go_sem]
    refine hK ?_; clear hK hS hC hC1 K S C hf
    (try ((first | refine zn ?_ | refine ze ?_ | refine zk ?_); with_reducible (constructor; repeat constructor)); try refine zl ?_)
    subst hQ
    have hfull := seen_perm hw2 hlt hnd fun e he => hall e he (hw1 e he).2
    have hnL : ∀ q ∈ L, ∀ q' ∈ ([(b1, .cells [.map o]), (o, .map [.ss] false es clock), (.sub 0 1 x.p, .iter (some o) clock (U.map ME.born) clock)] : List (Oid × AObj)), ¬ q.1 = q'.1 := fun q hq => by
      obtain ⟨_, a1, a2, a3, a4⟩ := hnm q hq
      simp only [fa_cons, fa_nil, Mem.of_cons_at, Mem.of_nil_at, Mem.of_upds, Mem.of_putL, putLs, putL, List.cons_append, List.nil_append, List.append_nil, ↓reduceIte, eq_self, and_true, true_and, and_self, and_false, false_and, reduceCtorEq, Oid.sub.injEq, Nat.reduceEqDiff, a1, a2, a3, not_false_eq_true]
    have hall' := cons_app (L := L) (B := [(b1, .cells [.map o]), (o, .map [.ss] false es clock), (.sub 0 1 x.p, .iter (some o) clock (U.map ME.born) clock)]) (by
      simp only [fa_cons, fa_nil, Mem.of_cons_at, Mem.of_nil_at, Mem.of_upds, Mem.of_putL, putLs, putL, List.cons_append, List.nil_append, List.append_nil, ↓reduceIte, eq_self, and_true, true_and, and_self, and_false, false_and, reduceCtorEq, Oid.sub.injEq, Nat.reduceEqDiff, hne1, Oid.sub_not_under hb1, Oid.sub_not_under ho, Oid.not_under_sub hb1, Oid.not_under_sub ho]) hnL hcc
    have hsw := swap_of (L := [(b1, .cells [.map o]), (o, .map [.ss] false es clock)] ++ L0) (L' := [(b1, .cells [.map o]), (o, .map [.ss] false es clock)] ++ L) (m := Mem.of ([(b1, .cells [.map o]), (o, .map [.ss] false es clock), (.sub 0 1 x.p, .iter (some o) clock (U.map ME.born) clock)] ++ L)) (sp := Oid.under x.p) (fun q hq => hall' q (by
          rcases List.mem_append.1 hq with hq | hq
          · exact List.mem_append_left _ (by simp only [List.mem_cons, List.not_mem_nil, or_false] at hq ⊢; rcases hq with h | h <;> simp [h])
          · exact List.mem_append_right _ hq)) (fun q hq => by
          rcases List.mem_append.1 hq with hq | hq
          · exact .inl ⟨q, List.mem_append_left _ hq, rfl⟩
          · rcases (hnm q hq).1 with ⟨q', h1, h2⟩ | h
            · exact .inl ⟨q', List.mem_append_right _ h1, h2⟩
            · exact .inr h)
    refine K_ifF rfl rfl ?_
    (try ((first | refine zn ?_ | refine ze ?_ | refine zk ?_); with_reducible (constructor; repeat constructor)); try refine zl ?_)
    refine K_nil ?_
    exact done_normal _ _ rfl ⟨true, _, L, fun _ => ⟨U, hfull, rfl⟩, hj, hsw.1⟩ hsw.2
end Go.Proofs.YtaecbmbecofijaaGreatDoor
namespace Go.Proofs.YtaecbmbecofijaaGreatDoor
open Go Go.Ab
set_option maxRecDepth 20000
set_option maxHeartbeats 4000000
theorem keysT_ok (o : Oid) (p : Oid) (ho : ¬ Oid.under p o) : CallOK Tryz.prog 74 [.map o] (Oid.under p) ⟨[], .fn (.func 121) [] [.ptr (.sub 0 0 p) 0], [(.sub 0 0 p, some (.cells [.map o]))]⟩ := by
  refine fnOK (n := 4) (rs := [.tmp 2]) Tryz.func74 rfl rfl (by decide) rfl rfl rfl ?_; rintro x rfl hrd hng
  (repeat (first | (refine K_ifT rfl rfl ?_) | (refine K_ifF rfl rfl ?_) | (refine K_ev nmd [] hng (by kernel_rfl) fun hf C S K hC1 hC hS hK => ?_; simp (disch := first | omega | assumption) only [go_sem]; refine hK ?_; clear hK hS hC hC1 K S C hf) | ((first | refine zn ?_ | refine ze ?_ | refine zk ?_); with_reducible (constructor; repeat constructor); try refine zl ?_)))
  refine K_ret (done_ret _ _ rfl ⟨rfl, rfl⟩ ?_)
  intro i o' h
  rw [Mem.of_upds] at h
  exact h
theorem paths_ok (st t : Oid) (tv : AV) (es : List ME) (clock : Nat) (hel : es.length ≤ 2000000000000) (hts : ¬ t = st) (p : Oid) (hs : ¬ Oid.under p st) (ht : ¬ Oid.under p t) :
    CallOK Tryz.prog 29 [.ptr st 0] (Oid.under p) ⟨[(st, .cells [.map t, tv]), (t, .map [.ss] false es clock)], .list 1 ((sortS (es.map keyS)).map .str), []⟩ := by
  refine fnOK (n := 9) (rs := [.tmp 2]) Tryz.func29 rfl rfl (by decide) rfl rfl rfl ?_; rintro x rfl hrd hng
  have hu12 : Oid.under (.sub 1 4 x.p) (.sub 0 0 (.sub 1 4 x.p)) := Oid.under_sub (Oid.under_refl _)
  have hapt : ∀ p', Oid.under (.sub 1 5 x.p) p' → ¬ Oid.under p' (.sub 0 0 (.sub 1 4 x.p)) := fun p' h h2 => by
    have := (Oid.apart (Oid.under_trans h h2) hu12).2
    omega
  (try ((first | refine zn ?_ | refine ze ?_ | refine zk ?_); with_reducible (constructor; repeat constructor)); try refine zl ?_)
  (repeat (first | (refine K_ifT rfl rfl ?_) | (refine K_ifF rfl rfl ?_) | (refine K_ev nmd [] hng (by kernel_rfl) fun hf C S K hC1 hC hS hK => ?_; simp (disch := first | omega | assumption) only [go_sem]; refine hK ?_; clear hK hS hC hC1 K S C hf) | ((first | refine zn ?_ | refine ze ?_ | refine zk ?_); with_reducible (constructor; repeat constructor); try refine zl ?_)))
  refine K_ev nmd [] hng (by kernel_rfl) fun hf C S K hC1 hC hS hK => ?_; simp (disch := first | omega | assumption) only [go_sem, Oid.not_under_sub ht, Oid.sub_not_under ht, Oid.not_under_sub hs, Oid.sub_not_under hs, hts]
  refine hC1 _ (keysT_ok t _ (fun h => ht (Oid.under_sub h))) (by simp (disch := first | omega | assumption) only [go_sem]) ?_
  simp (disch := first | omega | assumption) only [go_sem]
  refine hC1 _ (sorted_ok 121 [.ptr (.sub 0 0 (.sub 1 4 x.p)) 0] [(.sub 0 0 (.sub 1 4 x.p), .cells [.map t]), (t, .map [.ss] false es clock)] es.length (es.map keyS) _ hel (by simp) _ ?_ ?_
    (fun p' hp => keysT_seq (.sub 0 0 (.sub 1 4 x.p)) t es clock p' ?_ ?_ ?_) ?_) ?_ ?_
  · intro q hq
    simp only [List.mem_cons, List.not_mem_nil, or_false] at hq
    rcases hq with rfl | rfl
    · exact hapt _ (Oid.under_refl _)
    · exact fun h => ht (Oid.under_sub h)
  · intro q hq
    simp only [List.mem_cons, List.not_mem_nil, or_false] at hq
    rcases hq with rfl | rfl <;> (intro sz xs e; cases e)
  · exact fun e => ht (e ▸ Oid.under_sub hu12)
  · exact hapt _ hp
  · exact fun h => ht (Oid.under_sub (Oid.under_trans hp h))
  · intro l hl
    obtain ⟨U, h1, h2⟩ := hl rfl
    have h3 : l = U.map keyS := str_inj (by rw [h2, List.map_map]; rfl)
    rw [h3]
    exact h1.map _
  · have h0 := Oid.not_under_sub (fun h => ht (Oid.under_sub h) : ¬ Oid.under (.sub 1 4 x.p) t) 0 0
    have h1 := Oid.sub_not_under (fun h => ht (Oid.under_sub h) : ¬ Oid.under (.sub 1 4 x.p) t) 0 0
    have h2 := Oid.not_under_sub (fun h => hs (Oid.under_sub h) : ¬ Oid.under (.sub 1 4 x.p) st) 0 0
    have h3 := Oid.sub_not_under (fun h => hs (Oid.under_sub h) : ¬ Oid.under (.sub 1 4 x.p) st) 0 0
    simp only [fa_cons, fa_nil, Mem.of_cons_at, Mem.of_nil_at, Mem.of_upds, Mem.of_putL, putLs, putL, List.cons_append, List.nil_append, List.append_nil, ↓reduceIte, eq_self, and_true, true_and, and_self, and_false, false_and, reduceCtorEq, Oid.sub.injEq, Nat.reduceEqDiff, of_put_at, h0, h1, h2, h3, Oid.not_under_sub ht, Oid.sub_not_under ht, Oid.not_under_sub hs, Oid.sub_not_under hs, hts]
  · simp (disch := first | omega | assumption) only [go_sem]
    refine hK ?_; clear hK hS hC hC1 K S C hf
    (repeat (first | (refine K_ifT rfl rfl ?_) | (refine K_ifF rfl rfl ?_) | (refine K_ev nmd [] hng (by kernel_rfl) fun hf C S K hC1 hC hS hK => ?_; simp (disch := first | omega | assumption) only [go_sem]; refine hK ?_; clear hK hS hC hC1 K S C hf) | ((first | refine zn ?_ | refine ze ?_ | refine zk ?_); with_reducible (constructor; repeat constructor); try refine zl ?_)))
    have h0 := Oid.not_under_sub (fun h => ht (Oid.under_sub h) : ¬ Oid.under (.sub 1 4 x.p) t) 0 0
    have h1 := Oid.sub_not_under (fun h => ht (Oid.under_sub h) : ¬ Oid.under (.sub 1 4 x.p) t) 0 0
    have h2 := Oid.not_under_sub (fun h => hs (Oid.under_sub h) : ¬ Oid.under (.sub 1 4 x.p) st) 0 0
    have h3 := Oid.sub_not_under (fun h => hs (Oid.under_sub h) : ¬ Oid.under (.sub 1 4 x.p) st) 0 0
    refine K_ret (done_upd rfl ?_ ?_)
    all_goals simp only [List.mem_cons, List.not_mem_nil, or_false, forall_eq_or_imp, forall_eq, Option.some.injEq, forall_eq', Mem.of_cons_at, eq_self, if_true, ↓reduceIte, reduceCtorEq, implies_true, not_true_eq_false, false_imp_iff, true_and, and_true, false_and, and_false, imp_self, of_put_at, h0, h1, h2, h3, Oid.not_under_sub ht, Oid.sub_not_under ht, Oid.not_under_sub hs, Oid.sub_not_under hs, hts]
theorem pathsP_eq {es : List ME} {L : PL} (h : MapP es L) (hs : SortG ltB L) : sortS (es.map keyS) = L.map (·.1) := by
  refine sortS_eq ?_ (List.pairwise_map.2 (hs.imp fun {a b} h => List.le_of_lt (ltS_lt h)))
  obtain ⟨E, rfl, h2, _⟩ := h
  have h3 : (E.map (entG AV.str Bits.av)).map keyS = (E.map prj).map (·.1) := by
    rw [List.map_map, List.map_map]; rfl
  rw [h3]
  exact h2.map _
end Go.Proofs.YtaecbmbecofijaaGreatDoor
namespace Go.Proofs.YtaecbmbecofijaaGreatDoor
open Go Go.Ab
set_option maxRecDepth 20000
set_option maxHeartbeats 4000000
theorem putP_len (n : Str) (b : Bits) (L : PL) : (putP n b L).length ≤ L.length + 1 := by
  unfold putP
  split
  · omega
  · generalize (if b.k = 0 then none else some b) = o
    induction L with
    | nil => cases o <;> simp [insG, tipG]
    | cons q L ih =>
      simp only [insG]
      split
      · simp only [List.length_cons]; omega
      · have : (tipG n o).length ≤ 1 := by cases o <;> simp [tipG]
        simp only [List.length_append, List.length_cons]
        split
        · omega
        · rw [List.length_cons]; omega
theorem putP_mem {n : Str} {b : Bits} {L : PL} {q : Str × Bits} (h : q ∈ putP n b L) : q = (n, b) ∨ q ∈ L := by
  unfold putP at h
  split at h
  · exact .inr h
  · refine (insG_mem h).imp (fun h => ?_) id
    obtain ⟨h1, h2⟩ := tipG_mem h
    split at h2
    · cases h2
    · simp only [Option.some.injEq] at h2
      rw [Prod.ext_iff]; exact ⟨h1, h2.symm⟩
end Go.Proofs.YtaecbmbecofijaaGreatDoor
namespace Go.Proofs.YtaecbmbecofijaaGreatDoor
open Go Go.Ab
set_option maxRecDepth 20000
set_option maxHeartbeats 4000000
abbrev RL := List ((Str × Bool) × Str)
def ltF (a b : Str × Bool) : Prop := ltB a.1 b.1 ∨ (a.1 = b.1 ∧ a.2 = false ∧ b.2 = true)
instance : DecidableRel ltF := fun a b => inferInstanceAs (Decidable (ltB a.1 b.1 ∨ (a.1 = b.1 ∧ a.2 = false ∧ b.2 = true)))
theorem ordF : Ord ltF where
  irr a h := by
    rcases h with h | ⟨_, h1, h2⟩
    · exact ordB.irr _ h
    · rw [h1] at h2; cases h2
  tr a b c h1 h2 := by
    rcases h1 with h1 | ⟨h1, h3, h4⟩ <;> rcases h2 with h2 | ⟨h2, h5, h6⟩
    · exact .inl (ordB.tr _ _ _ h1 h2)
    · exact .inl (h2 ▸ h1)
    · exact .inl (h1 ▸ h2)
    · rw [h4] at h5; cases h5
  tot a b h hn := by
    obtain ⟨a1, a2⟩ := a
    obtain ⟨b1, b2⟩ := b
    by_cases he : a1 = b1
    · subst he
      right
      refine ⟨rfl, ?_, ?_⟩
      · cases b2 with
        | false => rfl
        | true =>
          cases a2 with
          | false => exact absurd (.inr ⟨rfl, rfl, rfl⟩) h
          | true => exact absurd rfl hn
      · cases a2 with
        | true => rfl
        | false =>
          cases b2 with
          | false => exact absurd rfl hn
          | true => exact absurd (.inr ⟨rfl, rfl, rfl⟩) h
    · exact .inl (ordB.tot a1 b1 (fun h' => h (.inl h')) he)
def keyF (q : Str × Bool) : AV := .agg [.str q.1, .bool q.2]
theorem encF : EncOK keyF := fun a b => by
  obtain ⟨a1, a2⟩ := a
  obtain ⟨b1, b2⟩ := b
  by_cases h1 : a1 = b1 <;> by_cases h2 : a2 = b2 <;> simp [sameK, keyF, AV.cells, eqCells, eqS, h1, h2]
def tchAV (q : (Str × Bool) × Str) : AV := .agg [.str q.1.1, .bool q.1.2, .str q.2]
/-- What a facet of a tree is. -/
def valP (L : PL) (f : Str × Bool) : Str := if f.2 = true then encT (namesP L f.1) else valT (getP L f.1)
/-- What is noted behind a read. -/
def readR (old : PL) (W : WL) (f : Str × Bool) (R : RL) : RL := if f.2 = false ∧ (lookG f.1 W).isSome = true then R else if (lookG f R).isSome = true then R else insG ltF f (some (valP old f)) R
theorem getP_ok {L : PL} (h : POk L) (n : Str) : (getP L n).ok := by
  unfold getP
  split
  · exact ⟨⟨by decide, by decide⟩, ⟨by decide, by decide⟩, by decide⟩
  · cases h2 : lookG n L with
    | none => exact ⟨⟨by decide, by decide⟩, ⟨by decide, by decide⟩, by decide⟩
    | some b =>
      have : ∀ {L : PL}, lookG n L = some b → ∃ q ∈ L, q.2 = b := by
        intro L
        induction L with
        | nil => intro h; cases h
        | cons q L ih =>
          intro h
          simp only [lookG] at h
          split at h
          · exact ⟨q, List.mem_cons_self, Option.some.inj h⟩
          · obtain ⟨q', h3, h4⟩ := ih h; exact ⟨q', List.mem_cons_of_mem _ h3, h4⟩
      obtain ⟨q, h3, h4⟩ := this h2
      rw [Option.getD_some, ← h4]
      exact h.val q h3
/-- Nothing less than nought. -/
def PNat (L : PL) : Prop := ∀ q ∈ L, 0 ≤ q.2.k ∧ 0 ≤ q.2.m
theorem getP_nat {L : PL} (h : PNat L) (n : Str) : 0 ≤ (getP L n).k ∧ 0 ≤ (getP L n).m := by
  unfold getP
  split
  · exact ⟨by decide, by decide⟩
  · cases h2 : lookG n L with
    | none => exact ⟨by decide, by decide⟩
    | some b =>
      have : ∀ {L : PL}, lookG n L = some b → ∃ q ∈ L, q.2 = b := by
        intro L
        induction L with
        | nil => intro h; cases h
        | cons q L ih =>
          intro h
          simp only [lookG] at h
          split at h
          · exact ⟨q, List.mem_cons_self, Option.some.inj h⟩
          · obtain ⟨q', h3, h4⟩ := ih h; exact ⟨q', List.mem_cons_of_mem _ h3, h4⟩
      obtain ⟨q, h3, h4⟩ := this h2
      rw [Option.getD_some, ← h4]
      exact h q h3
/-- Found just at its place. -/
theorem look_split {κ ν : Type} [DecidableEq κ] {lt : κ → κ → Prop} (ho : Ord lt) (k : κ) {L : List (κ × ν)} (hs : SortG lt L) {i : Nat} (h1 : ∀ j q, j < i → L[j]? = some q → lt q.1 k) (h2 : ∀ q, L[i]? = some q → ¬ lt q.1 k) :
    (lookG k L).isSome = true ↔ ∃ q, L[i]? = some q ∧ q.1 = k := by
  constructor
  · intro h
    obtain ⟨b, hb⟩ := Option.isSome_iff_exists.1 h
    have hm := (lookG_mem (hs.nodup ho)).1 hb
    obtain ⟨j, hj, hjq⟩ := List.mem_iff_getElem.1 hm
    have hjs : L[j]? = some (k, b) := by rw [List.getElem?_eq_getElem hj, hjq]
    rcases Nat.lt_trichotomy j i with h3 | h3 | h3
    · exact absurd (h1 j _ h3 hjs) (ho.irr k)
    · exact ⟨_, by rw [← h3]; exact hjs, rfl⟩
    · have hi : i < L.length := by omega
      have := List.pairwise_iff_getElem.1 hs i j hi hj h3
      rw [hjq] at this
      exact absurd this (h2 _ (List.getElem?_eq_getElem hi))
  · rintro ⟨q, h3, rfl⟩
    rw [(lookG_mem (hs.nodup ho) (n := q.1) (b := q.2)).2 (List.mem_of_getElem? h3)]
    rfl
theorem touchR_ok (r : Oid) (LL : AV) (old : PL) (hold : POk old) (hnat : PNat old) (R : RL) (hR : R.length ≤ 1000000) (hRs : SortG ltF R) (W : WL) (hW : W.length ≤ 1000000) (n : Str) (hn : n.length ≤ 140737488355000) (f : Bool) (p : Oid) (hr : ¬ Oid.under p r) :
    CallOK Tryz.prog 105 [.ptr r 0, .str n, .bool f] (Oid.under p) ⟨[(r, .cells [LL, .list 4 (old.map pairAV), .list 3 (R.map tchAV), .list 1 (W.map fun q => .str q.1), .bool true])], .tuple [], [(r, some (.cells [LL, .list 4 (old.map pairAV), .list 3 ((readR old W (n, f) R).map tchAV), .list 1 (W.map fun q => .str q.1), .bool true]))]⟩ := by
  have hr' : ∀ c i, ¬ Oid.under (.sub c i p) r := fun c i h => hr (Oid.under_sub h)
  have hoL := hold.len
  refine fnOK (n := 144) (rs := []) Tryz.func105 rfl rfl (by decide) rfl rfl rfl ?_; rintro x rfl hrd hng
  refine T_gend ?_
  refine K_seq ?_
  refine K_seq ?_
  refine K_cut [0, 1, 2, 22] (fun s' => ∃ q : Bool, s' = ⟨[(0, .ptr r 0), (1, .str n), (2, .bool f), (22, .bool q)], Mem.of [(r, .cells [LL, .list 4 (old.map pairAV), .list 3 (R.map tchAV), .list 1 (W.map fun q => .str q.1), .bool true])], 1, []⟩ ∧ (q = true ↔ f = false ∧ (lookG n W).isSome = true)) ?_ ?_
  · cases f with
    | true =>
      refine K_ev nmd [(5, 14), (8, 17)] hng (by kernel_rfl) fun hf C S K hC1 hC hS hK => ?_; simp (disch := first | omega | assumption) only [go_sem, Oid.not_under_sub hr, Oid.sub_not_under hr]
      refine hK ?_; clear hK hS hC hC1 K S C hf
      exact K_cutN ⟨_, rfl, by simp⟩
    | false =>
      refine K_ev nmd [(5, 14), (8, 17)] hng (by kernel_rfl) fun hf C S K hC1 hC hS hK => ?_; simp (disch := first | omega | assumption) only [go_sem, Oid.not_under_sub hr, Oid.sub_not_under hr]
      refine hC1 _ (wrote_ok r LL (.list 4 (old.map pairAV)) (.list 3 (R.map tchAV)) (.bool true) W (by omega) n _ (hr' _ _)) (by simp (disch := first | omega | assumption) only [go_sem, Oid.not_under_sub hr, Oid.sub_not_under hr]) ?_
      simp (disch := first | omega | assumption) only [go_sem, Oid.not_under_sub hr, Oid.sub_not_under hr]
      refine hK ?_; clear hK hS hC hC1 K S C hf
      exact K_cutN ⟨_, rfl, by simp⟩
  rintro s' ⟨q, rfl, hq⟩
  refine K_if rfl rfl (fun hb => ?_) (fun hb => ?_)
  · have h1 : readR old W (n, f) R = R := if_pos (hq.1 hb)
    rw [h1]
    (repeat (first | (refine K_ifT rfl rfl ?_) | (refine K_ifF rfl rfl ?_) | (refine K_ev nmd [] hng (by kernel_rfl) fun hf C S K hC1 hC hS hK => ?_; simp (disch := first | omega | assumption) only [go_sem]; refine hK ?_; clear hK hS hC hC1 K S C hf) | ((first | refine zn ?_ | refine ze ?_ | refine zk ?_); with_reducible (constructor; repeat constructor); try refine zl ?_)))
    refine K_ret (.now (done_updR rfl ?_ ?_))
    all_goals simp only [List.mem_cons, List.not_mem_nil, or_false, forall_eq_or_imp, forall_eq, Option.some.injEq, forall_eq', Mem.of_cons_at, eq_self, if_true, ↓reduceIte, reduceCtorEq, implies_true, not_true_eq_false, false_imp_iff, true_and, and_true, false_and, and_false, imp_self]
  · have h1 : readR old W (n, f) R = if (lookG (n, f) R).isSome = true then R else insG ltF (n, f) (some (valP old (n, f))) R := if_neg fun h => by rw [hq.2 h] at hb; cases hb
    rw [h1]
    (repeat (first | (refine K_ifT rfl rfl ?_) | (refine K_ifF rfl rfl ?_) | (refine K_ev nmd [] hng (by kernel_rfl) fun hf C S K hC1 hC hS hK => ?_; simp (disch := first | omega | assumption) only [go_sem]; refine hK ?_; clear hK hS hC hC1 K S C hf) | ((first | refine zn ?_ | refine ze ?_ | refine zk ?_); with_reducible (constructor; repeat constructor); try refine zl ?_)))
    refine K_loop [0, 1, 2, 6] (fun k s' => ∃ i c' : Nat, k = R.length - i ∧ i ≤ R.length ∧ 0 < c' ∧ (∀ j q, j < i → R[j]? = some q → ltF q.1 (n, f)) ∧ s' = ⟨[(0, .ptr r 0), (1, .str n), (2, .bool f), (6, .int .i64 i)], Mem.of [(r, .cells [LL, .list 4 (old.map pairAV), .list 3 (R.map tchAV), .list 1 (W.map fun q => .str q.1), .bool true])], c', []⟩) _ ⟨0, _, rfl, Nat.zero_le _, by omega, fun j q h => by omega, rfl⟩ ?_
    rintro k s' ⟨i, c', rfl, hi, hc', hlt, rfl⟩
    have hc0 : ¬ c' = 0 := by omega
    generalize hg : R.getD i default = g
    obtain ⟨⟨gn, gf⟩, gv⟩ := g
    (try ((first | refine zn ?_ | refine ze ?_ | refine zk ?_); with_reducible (constructor; repeat constructor)); try refine zl ?_)
    refine K_cut [0, 1, 2, 6, 67] (fun s' => ∃ q : Bool, s' = ⟨[(0, .ptr r 0), (1, .str n), (2, .bool f), (6, .int .i64 i), (67, .bool q)], Mem.of [(r, .cells [LL, .list 4 (old.map pairAV), .list 3 (R.map tchAV), .list 1 (W.map fun q => .str q.1), .bool true])], c' + 1, []⟩ ∧ (q = true ↔ i < R.length ∧ ltF (gn, gf) (n, f))) ?_ ?_
    · refine K_ev nmd [(7, 30), (18, 41), (29, 52), (40, 63)] hng (by kernel_rfl) fun hf C S K hC1 hC hS hK => ?_; simp (disch := first | omega | assumption) only [go_sem, Oid.not_under_sub hr, Oid.sub_not_under hr, hg, tchAV, AV.cells]
      (repeat' (first | (refine evG_split (fun hv => ?_) (fun hv => ?_) <;> (try simp only [zb1, zb2, zb3, zb4, zb5] at hv) <;> simp (disch := first | omega | assumption) only [go_sem, hv, Oid.not_under_sub hr, Oid.sub_not_under hr, hg, tchAV, AV.cells]) | (refine hK ?_; clear hK hS hC hC1 K S C hf)))
      all_goals refine K_cutN ⟨_, rfl, ?_⟩
      all_goals first | (simp_all [ltF, ltB]; done) | (simp_all [ltF, ltB]; omega)
    rintro s' ⟨q, rfl, hq⟩
    refine K_if rfl rfl (fun hb => ?_) (fun hb => ?_)
    · obtain ⟨hl, hle⟩ := hq.1 hb
      (repeat (first | (refine K_ifT rfl rfl ?_) | (refine K_ifF rfl rfl ?_) | (refine K_ev nmd [] hng (by kernel_rfl) fun hf C S K hC1 hC hS hK => ?_; simp (disch := first | omega | assumption) only [go_sem]; refine hK ?_; clear hK hS hC hC1 K S C hf) | ((first | refine zn ?_ | refine ze ?_ | refine zk ?_); with_reducible (constructor; repeat constructor); try refine zl ?_)))
      refine ⟨_, _, by omega, fun _ _ h => h, i + 1, _, rfl, by omega, by omega, fun j q' hj hq' => ?_, rfl⟩
      rcases Nat.lt_or_ge j i with h | h
      · exact hlt j q' h hq'
      · obtain rfl : j = i := by omega
        rw [List.getElem?_eq_getElem hl] at hq'; simp only [Option.some.injEq] at hq'
        rw [getD_in hl, hq'] at hg
        rw [hg]; exact hle
    · have hnl : ∀ q, R[i]? = some q → ¬ ltF q.1 (n, f) := fun q' h1 h2 => by
        obtain ⟨hl, h3⟩ := List.getElem?_eq_some_iff.1 h1
        rw [getD_in hl, h3] at hg
        rw [hg] at h2
        rw [hq.2 ⟨hl, h2⟩] at hb; cases hb
      have hsp := insG_split (lt := ltF) (n, f) (some (valP old (n, f))) R i hi hlt hnl
      have hlk := look_split ordF (n, f) hRs hlt hnl
      (try ((first | refine zn ?_ | refine ze ?_ | refine zk ?_); with_reducible (constructor; repeat constructor)); try refine zl ?_)
      refine K_cut [0, 1, 2, 6, 100] (fun s' => ∃ q : Bool, s' = ⟨[(0, .ptr r 0), (1, .str n), (2, .bool f), (6, .int .i64 i), (100, .bool q)], Mem.of [(r, .cells [LL, .list 4 (old.map pairAV), .list 3 (R.map tchAV), .list 1 (W.map fun q => .str q.1), .bool true])], c' + 1 + 1, []⟩ ∧ (q = true ↔ i < R.length ∧ gn = n ∧ gf = f)) ?_ ?_
      · refine K_ev nmd [(7, 77), (19, 89)] hng (by kernel_rfl) fun hf C S K hC1 hC hS hK => ?_; simp (disch := first | omega | assumption) only [go_sem, Oid.not_under_sub hr, Oid.sub_not_under hr, hg, tchAV, AV.cells]
        (repeat' (first | (refine evG_split (fun hv => ?_) (fun hv => ?_) <;> (try simp only [zb1, zb2, zb3, zb4, zb5] at hv) <;> simp (disch := first | omega | assumption) only [go_sem, hv, Oid.not_under_sub hr, Oid.sub_not_under hr, hg, tchAV, AV.cells]) | (refine hK ?_; clear hK hS hC hC1 K S C hf)))
        all_goals refine K_cutN ⟨_, rfl, ?_⟩
        all_goals first | (simp_all; done) | (simp_all; omega)
      rintro s' ⟨q2, rfl, hq2⟩
      have hfound : (lookG (n, f) R).isSome = true ↔ q2 = true := by
        rw [hlk, hq2]
        constructor
        · rintro ⟨e, h1, h2⟩
          obtain ⟨hl, h3⟩ := List.getElem?_eq_some_iff.1 h1
          rw [getD_in hl, h3] at hg
          rw [hg] at h2
          simp only [Prod.mk.injEq] at h2
          exact ⟨hl, h2⟩
        · rintro ⟨hl, rfl, rfl⟩
          rw [getD_in hl] at hg
          exact ⟨_, List.getElem?_eq_getElem hl, by rw [hg]⟩
      refine K_if rfl rfl (fun hb => ?_) (fun hb => ?_)
      · rw [if_pos (hfound.2 hb)]
        (repeat (first | (refine K_ifT rfl rfl ?_) | (refine K_ifF rfl rfl ?_) | (refine K_ev nmd [] hng (by kernel_rfl) fun hf C S K hC1 hC hS hK => ?_; simp (disch := first | omega | assumption) only [go_sem]; refine hK ?_; clear hK hS hC hC1 K S C hf) | ((first | refine zn ?_ | refine ze ?_ | refine zk ?_); with_reducible (constructor; repeat constructor); try refine zl ?_)))
        refine K_ret (.now (done_updR rfl ?_ ?_))
        all_goals simp only [List.mem_cons, List.not_mem_nil, or_false, forall_eq_or_imp, forall_eq, Option.some.injEq, forall_eq', Mem.of_cons_at, eq_self, if_true, ↓reduceIte, reduceCtorEq, implies_true, not_true_eq_false, false_imp_iff, true_and, and_true, false_and, and_false, imp_self]
      · have hnf : ¬ (lookG (n, f) R).isSome = true := fun h => by rw [hfound.1 h] at hb; cases hb
        rw [if_neg hnf]
        have hsp2 : insG ltF (n, f) (some (valP old (n, f))) R = R.take i ++ [((n, f), valP old (n, f))] ++ R.drop i := by
          rw [hsp]
          cases hwi : R[i]? with
          | none =>
            have hd : R.drop i = [] := List.drop_eq_nil_of_le (List.getElem?_eq_none_iff.1 hwi)
            simp only [hd, tipG, List.append_nil]
          | some q' =>
            have : ¬ q'.1 = (n, f) := fun e => hnf (hlk.2 ⟨q', hwi, e⟩)
            simp only [if_neg this]; rfl
        have hnames := fun p => namesR_ok old hold n hn p
        obtain ⟨l1, l2⟩ := namesP_enc hold n
        have henc := fun p => encodeR_ok (namesP old n) (by omega) (by omega) p
        have hget := fun p => get_ok old (by omega) n p
        have hval := fun p => valueR_ok (getP old n) (getP_ok hold n) (getP_nat hnat n) p
        cases f with
        | true =>
          rw [show valP old (n, true) = encT (namesP old n) from if_pos rfl] at *
          generalize namesP old n = A at *
          (repeat (first | (refine K_ifT rfl rfl ?_) | (refine K_ifF rfl rfl ?_) | (refine K_ev nmd [] hng (by kernel_rfl) fun hf C S K hC1 hC hS hK => ?_; simp (disch := first | omega | assumption) only [go_sem, Oid.not_under_sub hr, Oid.sub_not_under hr]; (repeat ((first | refine hC1 _ (hnames _) (by simp (disch := first | omega | assumption) only [go_sem]) ?_ | refine hC1 _ (henc _) (by simp (disch := first | omega | assumption) only [go_sem]) ?_); simp (disch := first | omega | assumption) only [go_sem])); refine hK ?_; clear hK hS hC hC1 K S C hf) | ((first | refine zn ?_ | refine ze ?_ | refine zk ?_); with_reducible (constructor; repeat constructor); try refine zl ?_)))
          refine K_nil (G_freezeM (.sub (c' + 1 + 1 + 1 + 1 + 1 + 1 + 1 + 1) 8 x.p) r 3 ((insG ltF (n, true) (some (encT A)) R).map tchAV) [LL, .list 4 (old.map pairAV), .sl (.sub (c' + 1 + 1 + 1 + 1 + 1 + 1 + 1 + 1) 8 x.p) 3 (min i R.length + 1 + (R.length - i)), .list 1 (W.map fun q => .str q.1), .bool true] [LL, .list 4 (old.map pairAV), .list 3 ((insG ltF (n, true) (some (encT A)) R).map tchAV), .list 1 (W.map fun q => .str q.1), .bool true] ?_ ?_ ?_ (.keep (.keep (.turn ?_ (.keep (.keep .nil))))) (.now (done_updN rfl ?_ ?_)))
          · simp (disch := first | omega | assumption) only [go_sem, Oid.not_under_sub hr, Oid.sub_not_under hr]
            rw [hsp2]; simp [tchAV]
          · simp (disch := first | omega | assumption) only [go_sem, Oid.not_under_sub hr, Oid.sub_not_under hr]
          · exact fun e => hr (e ▸ Oid.under_sub (Oid.under_refl _))
          · rw [hsp2]; simp only [List.length_map, List.length_append, List.length_take, List.length_drop, List.length_cons, List.length_nil]
          · simp (disch := first | omega | assumption) only [go_sem, Oid.not_under_sub hr, Oid.sub_not_under hr]
            all_goals simp only [List.mem_cons, List.not_mem_nil, or_false, forall_eq_or_imp, forall_eq, Option.some.injEq, forall_eq', Mem.of_cons_at, eq_self, if_true, ↓reduceIte, reduceCtorEq, implies_true, not_true_eq_false, false_imp_iff, true_and, and_true, false_and, and_false, imp_self]
          · simp (disch := first | omega | assumption) only [go_sem, Oid.not_under_sub hr, Oid.sub_not_under hr]
            all_goals simp only [List.mem_cons, List.not_mem_nil, or_false, forall_eq_or_imp, forall_eq, Option.some.injEq, forall_eq', Mem.of_cons_at, eq_self, if_true, ↓reduceIte, reduceCtorEq, implies_true, not_true_eq_false, false_imp_iff, true_and, and_true, false_and, and_false, imp_self]
        | false =>
          rw [show valP old (n, false) = valT (getP old n) from if_neg Bool.false_ne_true] at *
          generalize getP old n = B at *
          simp only [Bits.av] at hget hval
          (repeat (first | (refine K_ifT rfl rfl ?_) | (refine K_ifF rfl rfl ?_) | (refine K_ev nmd [] hng (by kernel_rfl) fun hf C S K hC1 hC hS hK => ?_; simp (disch := first | omega | assumption) only [go_sem, Oid.not_under_sub hr, Oid.sub_not_under hr]; (repeat ((first | refine hC1 _ (hget _) (by simp (disch := first | omega | assumption) only [go_sem]) ?_ | refine hC1 _ (hval _) (by simp (disch := first | omega | assumption) only [go_sem]) ?_); simp (disch := first | omega | assumption) only [go_sem])); refine hK ?_; clear hK hS hC hC1 K S C hf) | ((first | refine zn ?_ | refine ze ?_ | refine zk ?_); with_reducible (constructor; repeat constructor); try refine zl ?_)))
          refine K_nil (G_freezeM (.sub (c' + 1 + 1 + 1 + 1 + 1 + 1 + 1 + 1) 8 x.p) r 3 ((insG ltF (n, false) (some (valT B)) R).map tchAV) [LL, .list 4 (old.map pairAV), .sl (.sub (c' + 1 + 1 + 1 + 1 + 1 + 1 + 1 + 1) 8 x.p) 3 (min i R.length + 1 + (R.length - i)), .list 1 (W.map fun q => .str q.1), .bool true] [LL, .list 4 (old.map pairAV), .list 3 ((insG ltF (n, false) (some (valT B)) R).map tchAV), .list 1 (W.map fun q => .str q.1), .bool true] ?_ ?_ ?_ (.keep (.keep (.turn ?_ (.keep (.keep .nil))))) (.now (done_updN rfl ?_ ?_)))
          · simp (disch := first | omega | assumption) only [go_sem, Oid.not_under_sub hr, Oid.sub_not_under hr]
            rw [hsp2]; simp [tchAV]
          · simp (disch := first | omega | assumption) only [go_sem, Oid.not_under_sub hr, Oid.sub_not_under hr]
          · exact fun e => hr (e ▸ Oid.under_sub (Oid.under_refl _))
          · rw [hsp2]; simp only [List.length_map, List.length_append, List.length_take, List.length_drop, List.length_cons, List.length_nil]
          · simp (disch := first | omega | assumption) only [go_sem, Oid.not_under_sub hr, Oid.sub_not_under hr]
            all_goals simp only [List.mem_cons, List.not_mem_nil, or_false, forall_eq_or_imp, forall_eq, Option.some.injEq, forall_eq', Mem.of_cons_at, eq_self, if_true, ↓reduceIte, reduceCtorEq, implies_true, not_true_eq_false, false_imp_iff, true_and, and_true, false_and, and_false, imp_self]
          · simp (disch := first | omega | assumption) only [go_sem, Oid.not_under_sub hr, Oid.sub_not_under hr]
            all_goals simp only [List.mem_cons, List.not_mem_nil, or_false, forall_eq_or_imp, forall_eq, Option.some.injEq, forall_eq', Mem.of_cons_at, eq_self, if_true, ↓reduceIte, reduceCtorEq, implies_true, not_true_eq_false, false_imp_iff, true_and, and_true, false_and, and_false, imp_self]
end Go.Proofs.YtaecbmbecofijaaGreatDoor
namespace Go.Proofs.YtaecbmbecofijaaGreatDoor
open Go Go.Ab
set_option maxRecDepth 20000
set_option maxHeartbeats 4000000
theorem valueT_ok (o : Oid) (eso : List ME) (co : Nat) (old : PL) (hm : MapP eso old) (hs : SortG ltB old) (ho : POk old) (n : Str) (hn : n.length ≤ 140737488355000) (f : Bool) (p : Oid) (hp : p.mono = false) (u1 : ¬ Oid.under p o) :
    CallOK Tryz.prog 73 [.map o, keyF (n, f)] (Oid.under p) ⟨[(o, .map [.ss] false eso co)], .str (valP old (n, f)), []⟩ := by
  have u1' : ∀ c i, ¬ Oid.under (.sub c i p) o := fun c i h => u1 (Oid.under_sub h)
  have hkl := fun e he => Nat.le_trans (mapP_key hm ho e he) (show 1000000 ≤ 140737488355328 by decide)
  have hol := ho.len
  have hel : eso.length ≤ 2000000000000 := by rw [mapP_len hm]; omega
  have hnm := fun p h => names_ok o n hn eso co hkl hel p h
  rw [namesE_eq hm hs] at hnm
  obtain ⟨l1, l2⟩ := namesP_enc ho n
  have hen := fun p hp => encode_ok (namesP old n) (by omega) (by omega) p hp
  have hat := fun p h => at_ok o o eso co p h h n ((lookG n old).getD Bits.no) (mapP_val hm n)
  have hgp : (if n = [] then (⟨2, 7, []⟩ : Bits) else (lookG n old).getD Bits.no) = getP old n := rfl
  rw [hgp] at hat
  have hv := fun p hp => value_ok (getP old n) (getP_ok ho n) p hp
  simp only [keyF]
  refine fnOK (n := 17) (rs := [.tmp 4]) Tryz.func73 rfl rfl (by decide) rfl rfl rfl ?_; rintro x rfl hrd hng
  (try ((first | refine zn ?_ | refine ze ?_ | refine zk ?_); with_reducible (constructor; repeat constructor)); try refine zl ?_)
  refine K_ev nmd [] hng (by kernel_rfl) fun hf C S K hC1 hC hS hK => ?_; simp (disch := first | omega | assumption) only [go_sem, Oid.not_under_sub u1, Oid.sub_not_under u1]
  refine hK ?_; clear hK hS hC hC1 K S C hf
  cases f with
  | true =>
    rw [show valP old (n, true) = encT (namesP old n) from if_pos rfl]
    generalize namesP old n = A at *
    (repeat (first | (refine K_ifT rfl rfl ?_) | (refine K_ifF rfl rfl ?_) | (refine K_ev nmd [] hng (by kernel_rfl) fun hf C S K hC1 hC hS hK => ?_; simp (disch := first | omega | assumption) only [go_sem, Oid.not_under_sub u1, Oid.sub_not_under u1]; (repeat ((first | refine hC1 _ (hnm _ (u1' _ _)) (by simp (disch := first | omega | assumption) only [go_sem]) ?_ | refine hC1 _ (hen _ (mono_sub' rfl hp)) (by simp (disch := first | omega | assumption) only [go_sem]) ?_); simp (disch := first | omega | assumption) only [go_sem])); refine hK ?_; clear hK hS hC hC1 K S C hf) | ((first | refine zn ?_ | refine ze ?_ | refine zk ?_); with_reducible (constructor; repeat constructor); try refine zl ?_)))
    refine K_ret (done_upd rfl ?_ ?_)
    all_goals simp only [List.mem_cons, List.not_mem_nil, or_false, forall_eq_or_imp, forall_eq, Option.some.injEq, forall_eq', Mem.of_cons_at, eq_self, if_true, ↓reduceIte, reduceCtorEq, implies_true, not_true_eq_false, false_imp_iff, true_and, and_true, false_and, and_false, imp_self, Oid.not_under_sub u1, Oid.sub_not_under u1]
  | false =>
    rw [show valP old (n, false) = valT (getP old n) from if_neg Bool.false_ne_true]
    generalize getP old n = B at *
    simp only [Bits.av] at hat hv
    (repeat (first | (refine K_ifT rfl rfl ?_) | (refine K_ifF rfl rfl ?_) | (refine K_ev nmd [] hng (by kernel_rfl) fun hf C S K hC1 hC hS hK => ?_; simp (disch := first | omega | assumption) only [go_sem, Oid.not_under_sub u1, Oid.sub_not_under u1]; (repeat ((first | refine hC1 _ (hat _ (u1' _ _)) (by simp (disch := first | omega | assumption) only [go_sem]) ?_ | refine hC1 _ (hv _ (mono_sub' rfl hp)) (by simp (disch := first | omega | assumption) only [go_sem]) ?_); simp (disch := first | omega | assumption) only [go_sem])); refine hK ?_; clear hK hS hC hC1 K S C hf) | ((first | refine zn ?_ | refine ze ?_ | refine zk ?_); with_reducible (constructor; repeat constructor); try refine zl ?_)))
    refine K_ret (done_upd rfl ?_ ?_)
    all_goals simp only [List.mem_cons, List.not_mem_nil, or_false, forall_eq_or_imp, forall_eq, Option.some.injEq, forall_eq', Mem.of_cons_at, eq_self, if_true, ↓reduceIte, reduceCtorEq, implies_true, not_true_eq_false, false_imp_iff, true_and, and_true, false_and, and_false, imp_self, Oid.not_under_sub u1, Oid.sub_not_under u1]
def readE (f w h : Bool) (k v : AV) (es : List ME) (c : Nat) : List ME × Nat := if ((!f && w) || h) = true then (es, c) else (setE k v c es, c + 1)
section
variable (st t tr o rd wr : Oid) (hn : [wr, rd, o, tr, t, st].Nodup) (es eso esr esw : List ME) (clock co cr cw : Nat)
include hn
theorem readT_ok (old : PL) (hm : MapP eso old) (hs : SortG ltB old) (ho : POk old) (n : Str) (hnl : n.length ≤ 140737488355000) (f w h : Bool) (hw : valE (.str n) (.bool false) esw = .bool w) (hh : hasE (keyF (n, f)) esr = h) (p : Oid) (hp : p.mono = false) (hu : ∀ i ∈ [st, t, tr, o, rd, wr], ¬ Oid.under p i) :
    CallOK Tryz.prog 64 [.ptr st 0, keyF (n, f)] (Oid.under p) ⟨[(st, .cells [.map t, .ptr tr 0]), (t, .map [.ss] false es clock), (tr, .cells [.map o, .map rd, .map wr]), (o, .map [.ss] false eso co), (rd, .map [.ss, .sb] true esr cr), (wr, .map [.ss] false esw cw)], .tuple [], [(rd, some (.map [.ss, .sb] true (readE f w h (keyF (n, f)) (.str (valP old (n, f))) esr cr).1 (readE f w h (keyF (n, f)) (.str (valP old (n, f))) esr cr).2))]⟩ := by
  simp only [List.nodup_cons, List.mem_cons, List.not_mem_nil, or_false, not_or, not_false_eq_true, List.nodup_nil, and_true] at hn; simp only [List.mem_cons, List.not_mem_nil, or_false, forall_eq_or_imp, forall_eq] at hu; have hd := hn; obtain ⟨u1, u2, u3, u4, u5, u6⟩ := hu
  have u4' : ∀ c i, ¬ Oid.under (.sub c i p) o := fun c i h => u4 (Oid.under_sub h)
  have hval := fun p hp h => valueT_ok o eso co old hm hs ho n hnl f p hp h
  generalize valP old (n, f) = V at *
  simp only [keyF] at hval hh ⊢
  refine fnOK (n := 59) (rs := []) Tryz.func64 rfl rfl (by decide) rfl rfl rfl ?_; rintro x rfl hrd hng
  cases f with
  | false =>
    cases w with
    | true =>
      (try ((first | refine zn ?_ | refine ze ?_ | refine zk ?_); with_reducible (constructor; repeat constructor)); try refine zl ?_)
      refine K_ev nmd [] hng (by kernel_rfl) fun hf C S K hC1 hC hS hK => ?_; simp (disch := first | omega | assumption) only [go_sem, hd, Oid.not_under_sub u1, Oid.sub_not_under u1, Oid.not_under_sub u2, Oid.sub_not_under u2, Oid.not_under_sub u3, Oid.sub_not_under u3, Oid.not_under_sub u4, Oid.sub_not_under u4, Oid.not_under_sub u5, Oid.sub_not_under u5, Oid.not_under_sub u6, Oid.sub_not_under u6]
      refine hK ?_; clear hK hS hC hC1 K S C hf
      (try ((first | refine zn ?_ | refine ze ?_ | refine zk ?_); with_reducible (constructor; repeat constructor)); try refine zl ?_)
      refine K_evd nmd [(5, 11), (9, 15)] [] mixed hng (by kernel_rfl) [0, 3, 27] fun hf C S K hC hS hK => ?_; simp (disch := first | omega | assumption) only [go_sem, hw, hd, Oid.not_under_sub u1, Oid.sub_not_under u1, Oid.not_under_sub u2, Oid.sub_not_under u2, Oid.not_under_sub u3, Oid.sub_not_under u3, Oid.not_under_sub u4, Oid.sub_not_under u4, Oid.not_under_sub u5, Oid.sub_not_under u5, Oid.not_under_sub u6, Oid.sub_not_under u6]
      (first | refine hK (dynN_quiet rfl) ?_ | refine hK (by simp (disch := first | omega | assumption) only [go_sem, List.reverse_cons, List.reverse_nil, ne_eq, not_false_eq_true, implies_true]) ?_); clear hK hS hC K S C hf
      (repeat (first | (refine K_ifT rfl rfl ?_) | (refine K_ifF rfl rfl ?_) | (refine K_ev nmd [] hng (by kernel_rfl) fun hf C S K hC1 hC hS hK => ?_; simp (disch := first | omega | assumption) only [go_sem]; refine hK ?_; clear hK hS hC hC1 K S C hf) | ((first | refine zn ?_ | refine ze ?_ | refine zk ?_); with_reducible (constructor; repeat constructor); try refine zl ?_)))
      refine K_ret (done_upd rfl ?_ ?_)
      all_goals simp only [List.mem_cons, List.not_mem_nil, or_false, forall_eq_or_imp, forall_eq, Option.some.injEq, forall_eq', Mem.of_cons_at, eq_self, if_true, ↓reduceIte, reduceCtorEq, implies_true, not_true_eq_false, false_imp_iff, true_and, and_true, false_and, and_false, imp_self, hd, Oid.not_under_sub u1, Oid.sub_not_under u1, Oid.not_under_sub u2, Oid.sub_not_under u2, Oid.not_under_sub u3, Oid.sub_not_under u3, Oid.not_under_sub u4, Oid.sub_not_under u4, Oid.not_under_sub u5, Oid.sub_not_under u5, Oid.not_under_sub u6, Oid.sub_not_under u6, readE, Bool.not_false, Bool.true_and, Bool.true_or]
    | false =>
      (try ((first | refine zn ?_ | refine ze ?_ | refine zk ?_); with_reducible (constructor; repeat constructor)); try refine zl ?_)
      refine K_ev nmd [] hng (by kernel_rfl) fun hf C S K hC1 hC hS hK => ?_; simp (disch := first | omega | assumption) only [go_sem, hd, Oid.not_under_sub u1, Oid.sub_not_under u1, Oid.not_under_sub u2, Oid.sub_not_under u2, Oid.not_under_sub u3, Oid.sub_not_under u3, Oid.not_under_sub u4, Oid.sub_not_under u4, Oid.not_under_sub u5, Oid.sub_not_under u5, Oid.not_under_sub u6, Oid.sub_not_under u6]
      refine hK ?_; clear hK hS hC hC1 K S C hf
      (try ((first | refine zn ?_ | refine ze ?_ | refine zk ?_); with_reducible (constructor; repeat constructor)); try refine zl ?_)
      refine K_evd nmd [(5, 11), (9, 15)] [] mixed hng (by kernel_rfl) [0, 3, 27] fun hf C S K hC hS hK => ?_; simp (disch := first | omega | assumption) only [go_sem, hw, hd, Oid.not_under_sub u1, Oid.sub_not_under u1, Oid.not_under_sub u2, Oid.sub_not_under u2, Oid.not_under_sub u3, Oid.sub_not_under u3, Oid.not_under_sub u4, Oid.sub_not_under u4, Oid.not_under_sub u5, Oid.sub_not_under u5, Oid.not_under_sub u6, Oid.sub_not_under u6]
      (first | refine hK (dynN_quiet rfl) ?_ | refine hK (by simp (disch := first | omega | assumption) only [go_sem, List.reverse_cons, List.reverse_nil, ne_eq, not_false_eq_true, implies_true]) ?_); clear hK hS hC K S C hf
      (repeat (first | (refine K_ifT rfl rfl ?_) | (refine K_ifF rfl rfl ?_) | (refine K_ev nmd [] hng (by kernel_rfl) fun hf C S K hC1 hC hS hK => ?_; simp (disch := first | omega | assumption) only [go_sem]; refine hK ?_; clear hK hS hC hC1 K S C hf) | ((first | refine zn ?_ | refine ze ?_ | refine zk ?_); with_reducible (constructor; repeat constructor); try refine zl ?_)))
      (try ((first | refine zn ?_ | refine ze ?_ | refine zk ?_); with_reducible (constructor; repeat constructor)); try refine zl ?_)
      cases h with
      | true =>
        refine K_evd nmd [] [] mixed hng (by kernel_rfl) [0, 3, 5] fun hf C S K hC hS hK => ?_; simp (disch := first | omega | assumption) only [go_sem, hh, resOk, hd, Oid.not_under_sub u1, Oid.sub_not_under u1, Oid.not_under_sub u2, Oid.sub_not_under u2, Oid.not_under_sub u3, Oid.sub_not_under u3, Oid.not_under_sub u4, Oid.sub_not_under u4, Oid.not_under_sub u5, Oid.sub_not_under u5, Oid.not_under_sub u6, Oid.sub_not_under u6]
        (first | refine hK (dynN_quiet rfl) ?_ | refine hK (by simp (disch := first | omega | assumption) only [go_sem, List.reverse_cons, List.reverse_nil, ne_eq, not_false_eq_true, implies_true]) ?_); clear hK hS hC K S C hf
        (repeat (first | (refine K_ifT rfl rfl ?_) | (refine K_ifF rfl rfl ?_) | (refine K_ev nmd [] hng (by kernel_rfl) fun hf C S K hC1 hC hS hK => ?_; simp (disch := first | omega | assumption) only [go_sem]; refine hK ?_; clear hK hS hC hC1 K S C hf) | ((first | refine zn ?_ | refine ze ?_ | refine zk ?_); with_reducible (constructor; repeat constructor); try refine zl ?_)))
        refine K_nil (done_updN rfl ?_ ?_)
        all_goals simp only [List.mem_cons, List.not_mem_nil, or_false, forall_eq_or_imp, forall_eq, Option.some.injEq, forall_eq', Mem.of_cons_at, eq_self, if_true, ↓reduceIte, reduceCtorEq, implies_true, not_true_eq_false, false_imp_iff, true_and, and_true, false_and, and_false, imp_self, hd, Oid.not_under_sub u1, Oid.sub_not_under u1, Oid.not_under_sub u2, Oid.sub_not_under u2, Oid.not_under_sub u3, Oid.sub_not_under u3, Oid.not_under_sub u4, Oid.sub_not_under u4, Oid.not_under_sub u5, Oid.sub_not_under u5, Oid.not_under_sub u6, Oid.sub_not_under u6, readE, Bool.not_false, Bool.true_and, Bool.true_or, Bool.or_true]
      | false =>
        refine K_evd nmd [] [] mixed hng (by kernel_rfl) [0, 3, 5] fun hf C S K hC hS hK => ?_; simp (disch := first | omega | assumption) only [go_sem, hh, resOk, hd, Oid.not_under_sub u1, Oid.sub_not_under u1, Oid.not_under_sub u2, Oid.sub_not_under u2, Oid.not_under_sub u3, Oid.sub_not_under u3, Oid.not_under_sub u4, Oid.sub_not_under u4, Oid.not_under_sub u5, Oid.sub_not_under u5, Oid.not_under_sub u6, Oid.sub_not_under u6]
        (first | refine hK (dynN_quiet rfl) ?_ | refine hK (by simp (disch := first | omega | assumption) only [go_sem, List.reverse_cons, List.reverse_nil, ne_eq, not_false_eq_true, implies_true]) ?_); clear hK hS hC K S C hf
        (repeat (first | (refine K_ifT rfl rfl ?_) | (refine K_ifF rfl rfl ?_) | (refine K_ev nmd [] hng (by kernel_rfl) fun hf C S K hC1 hC hS hK => ?_; simp (disch := first | omega | assumption) only [go_sem]; refine hK ?_; clear hK hS hC hC1 K S C hf) | ((first | refine zn ?_ | refine ze ?_ | refine zk ?_); with_reducible (constructor; repeat constructor); try refine zl ?_)))
        refine K_evd nmd [] [(3, 16), (6, 16), (7, 16)] mixed hng (by kernel_rfl) [0] fun hf C S K hC hS hK => ?_; simp (disch := first | omega | assumption) only [go_sem, hh, hd, Oid.not_under_sub u1, Oid.sub_not_under u1, Oid.not_under_sub u2, Oid.sub_not_under u2, Oid.not_under_sub u3, Oid.sub_not_under u3, Oid.not_under_sub u4, Oid.sub_not_under u4, Oid.not_under_sub u5, Oid.sub_not_under u5, Oid.not_under_sub u6, Oid.sub_not_under u6]
        refine hC _ (hval _ (mono_sub' rfl hp) (u4' _ _)) (by simp (disch := first | omega | assumption) only [go_sem, hd, Oid.not_under_sub u1, Oid.sub_not_under u1, Oid.not_under_sub u2, Oid.sub_not_under u2, Oid.not_under_sub u3, Oid.sub_not_under u3, Oid.not_under_sub u4, Oid.sub_not_under u4, Oid.not_under_sub u5, Oid.sub_not_under u5, Oid.not_under_sub u6, Oid.sub_not_under u6]) ?_
        simp (disch := first | omega | assumption) only [go_sem, hh, hd, Oid.not_under_sub u1, Oid.sub_not_under u1, Oid.not_under_sub u2, Oid.sub_not_under u2, Oid.not_under_sub u3, Oid.sub_not_under u3, Oid.not_under_sub u4, Oid.sub_not_under u4, Oid.not_under_sub u5, Oid.sub_not_under u5, Oid.not_under_sub u6, Oid.sub_not_under u6]
        (first | refine hK (dynN_quiet rfl) ?_ | refine hK (by simp (disch := first | omega | assumption) only [go_sem, List.reverse_cons, List.reverse_nil, ne_eq, not_false_eq_true, implies_true]) ?_); clear hK hS hC K S C hf
        refine K_nil (done_updN rfl ?_ ?_)
        all_goals simp only [List.mem_cons, List.not_mem_nil, or_false, forall_eq_or_imp, forall_eq, Option.some.injEq, forall_eq', Mem.of_cons_at, eq_self, if_true, ↓reduceIte, reduceCtorEq, implies_true, not_true_eq_false, false_imp_iff, true_and, and_true, false_and, and_false, imp_self, hd, Oid.not_under_sub u1, Oid.sub_not_under u1, Oid.not_under_sub u2, Oid.sub_not_under u2, Oid.not_under_sub u3, Oid.sub_not_under u3, Oid.not_under_sub u4, Oid.sub_not_under u4, Oid.not_under_sub u5, Oid.sub_not_under u5, Oid.not_under_sub u6, Oid.sub_not_under u6, readE, hh, Bool.not_false, Bool.not_true, Bool.true_and, Bool.false_and, Bool.or_false, Bool.false_eq_true]
  | true =>
    (try ((first | refine zn ?_ | refine ze ?_ | refine zk ?_); with_reducible (constructor; repeat constructor)); try refine zl ?_)
    refine K_ev nmd [] hng (by kernel_rfl) fun hf C S K hC1 hC hS hK => ?_; simp (disch := first | omega | assumption) only [go_sem, hd, Oid.not_under_sub u1, Oid.sub_not_under u1, Oid.not_under_sub u2, Oid.sub_not_under u2, Oid.not_under_sub u3, Oid.sub_not_under u3, Oid.not_under_sub u4, Oid.sub_not_under u4, Oid.not_under_sub u5, Oid.sub_not_under u5, Oid.not_under_sub u6, Oid.sub_not_under u6]
    refine hK ?_; clear hK hS hC hC1 K S C hf
    (try ((first | refine zn ?_ | refine ze ?_ | refine zk ?_); with_reducible (constructor; repeat constructor)); try refine zl ?_)
    refine K_evd nmd [(5, 11), (9, 15)] [] mixed hng (by kernel_rfl) [0, 3, 27] fun hf C S K hC hS hK => ?_; simp (disch := first | omega | assumption) only [go_sem, hd, Oid.not_under_sub u1, Oid.sub_not_under u1, Oid.not_under_sub u2, Oid.sub_not_under u2, Oid.not_under_sub u3, Oid.sub_not_under u3, Oid.not_under_sub u4, Oid.sub_not_under u4, Oid.not_under_sub u5, Oid.sub_not_under u5, Oid.not_under_sub u6, Oid.sub_not_under u6]
    (first | refine hK (dynN_quiet rfl) ?_ | refine hK (by simp (disch := first | omega | assumption) only [go_sem, List.reverse_cons, List.reverse_nil, ne_eq, not_false_eq_true, implies_true]) ?_); clear hK hS hC K S C hf
    (repeat (first | (refine K_ifT rfl rfl ?_) | (refine K_ifF rfl rfl ?_) | (refine K_ev nmd [] hng (by kernel_rfl) fun hf C S K hC1 hC hS hK => ?_; simp (disch := first | omega | assumption) only [go_sem]; refine hK ?_; clear hK hS hC hC1 K S C hf) | ((first | refine zn ?_ | refine ze ?_ | refine zk ?_); with_reducible (constructor; repeat constructor); try refine zl ?_)))
    (try ((first | refine zn ?_ | refine ze ?_ | refine zk ?_); with_reducible (constructor; repeat constructor)); try refine zl ?_)
    cases h with
    | true =>
      refine K_evd nmd [] [] mixed hng (by kernel_rfl) [0, 3, 5] fun hf C S K hC hS hK => ?_; simp (disch := first | omega | assumption) only [go_sem, hh, resOk, hd, Oid.not_under_sub u1, Oid.sub_not_under u1, Oid.not_under_sub u2, Oid.sub_not_under u2, Oid.not_under_sub u3, Oid.sub_not_under u3, Oid.not_under_sub u4, Oid.sub_not_under u4, Oid.not_under_sub u5, Oid.sub_not_under u5, Oid.not_under_sub u6, Oid.sub_not_under u6]
      (first | refine hK (dynN_quiet rfl) ?_ | refine hK (by simp (disch := first | omega | assumption) only [go_sem, List.reverse_cons, List.reverse_nil, ne_eq, not_false_eq_true, implies_true]) ?_); clear hK hS hC K S C hf
      (repeat (first | (refine K_ifT rfl rfl ?_) | (refine K_ifF rfl rfl ?_) | (refine K_ev nmd [] hng (by kernel_rfl) fun hf C S K hC1 hC hS hK => ?_; simp (disch := first | omega | assumption) only [go_sem]; refine hK ?_; clear hK hS hC hC1 K S C hf) | ((first | refine zn ?_ | refine ze ?_ | refine zk ?_); with_reducible (constructor; repeat constructor); try refine zl ?_)))
      refine K_nil (done_updN rfl ?_ ?_)
      all_goals simp only [List.mem_cons, List.not_mem_nil, or_false, forall_eq_or_imp, forall_eq, Option.some.injEq, forall_eq', Mem.of_cons_at, eq_self, if_true, ↓reduceIte, reduceCtorEq, implies_true, not_true_eq_false, false_imp_iff, true_and, and_true, false_and, and_false, imp_self, hd, Oid.not_under_sub u1, Oid.sub_not_under u1, Oid.not_under_sub u2, Oid.sub_not_under u2, Oid.not_under_sub u3, Oid.sub_not_under u3, Oid.not_under_sub u4, Oid.sub_not_under u4, Oid.not_under_sub u5, Oid.sub_not_under u5, Oid.not_under_sub u6, Oid.sub_not_under u6, readE, Bool.not_false, Bool.true_and, Bool.true_or, Bool.or_true]
    | false =>
      refine K_evd nmd [] [] mixed hng (by kernel_rfl) [0, 3, 5] fun hf C S K hC hS hK => ?_; simp (disch := first | omega | assumption) only [go_sem, hh, resOk, hd, Oid.not_under_sub u1, Oid.sub_not_under u1, Oid.not_under_sub u2, Oid.sub_not_under u2, Oid.not_under_sub u3, Oid.sub_not_under u3, Oid.not_under_sub u4, Oid.sub_not_under u4, Oid.not_under_sub u5, Oid.sub_not_under u5, Oid.not_under_sub u6, Oid.sub_not_under u6]
      (first | refine hK (dynN_quiet rfl) ?_ | refine hK (by simp (disch := first | omega | assumption) only [go_sem, List.reverse_cons, List.reverse_nil, ne_eq, not_false_eq_true, implies_true]) ?_); clear hK hS hC K S C hf
      (repeat (first | (refine K_ifT rfl rfl ?_) | (refine K_ifF rfl rfl ?_) | (refine K_ev nmd [] hng (by kernel_rfl) fun hf C S K hC1 hC hS hK => ?_; simp (disch := first | omega | assumption) only [go_sem]; refine hK ?_; clear hK hS hC hC1 K S C hf) | ((first | refine zn ?_ | refine ze ?_ | refine zk ?_); with_reducible (constructor; repeat constructor); try refine zl ?_)))
      refine K_evd nmd [] [(3, 16), (6, 16), (7, 16)] mixed hng (by kernel_rfl) [0] fun hf C S K hC hS hK => ?_; simp (disch := first | omega | assumption) only [go_sem, hh, hd, Oid.not_under_sub u1, Oid.sub_not_under u1, Oid.not_under_sub u2, Oid.sub_not_under u2, Oid.not_under_sub u3, Oid.sub_not_under u3, Oid.not_under_sub u4, Oid.sub_not_under u4, Oid.not_under_sub u5, Oid.sub_not_under u5, Oid.not_under_sub u6, Oid.sub_not_under u6]
      refine hC _ (hval _ (mono_sub' rfl hp) (u4' _ _)) (by simp (disch := first | omega | assumption) only [go_sem, hd, Oid.not_under_sub u1, Oid.sub_not_under u1, Oid.not_under_sub u2, Oid.sub_not_under u2, Oid.not_under_sub u3, Oid.sub_not_under u3, Oid.not_under_sub u4, Oid.sub_not_under u4, Oid.not_under_sub u5, Oid.sub_not_under u5, Oid.not_under_sub u6, Oid.sub_not_under u6]) ?_
      simp (disch := first | omega | assumption) only [go_sem, hh, hd, Oid.not_under_sub u1, Oid.sub_not_under u1, Oid.not_under_sub u2, Oid.sub_not_under u2, Oid.not_under_sub u3, Oid.sub_not_under u3, Oid.not_under_sub u4, Oid.sub_not_under u4, Oid.not_under_sub u5, Oid.sub_not_under u5, Oid.not_under_sub u6, Oid.sub_not_under u6]
      (first | refine hK (dynN_quiet rfl) ?_ | refine hK (by simp (disch := first | omega | assumption) only [go_sem, List.reverse_cons, List.reverse_nil, ne_eq, not_false_eq_true, implies_true]) ?_); clear hK hS hC K S C hf
      refine K_nil (done_updN rfl ?_ ?_)
      all_goals simp only [List.mem_cons, List.not_mem_nil, or_false, forall_eq_or_imp, forall_eq, Option.some.injEq, forall_eq', Mem.of_cons_at, eq_self, if_true, ↓reduceIte, reduceCtorEq, implies_true, not_true_eq_false, false_imp_iff, true_and, and_true, false_and, and_false, imp_self, hd, Oid.not_under_sub u1, Oid.sub_not_under u1, Oid.not_under_sub u2, Oid.sub_not_under u2, Oid.not_under_sub u3, Oid.sub_not_under u3, Oid.not_under_sub u4, Oid.sub_not_under u4, Oid.not_under_sub u5, Oid.sub_not_under u5, Oid.not_under_sub u6, Oid.sub_not_under u6, readE, hh, Bool.not_false, Bool.not_true, Bool.true_and, Bool.false_and, Bool.or_false, Bool.false_eq_true]
end
end Go.Proofs.YtaecbmbecofijaaGreatDoor
namespace Go.Proofs.YtaecbmbecofijaaGreatDoor
open Go Go.Ab
set_option maxRecDepth 20000
set_option maxHeartbeats 4000000
section
variable (st t tr o rd wr : Oid) (hn : [wr, rd, o, tr, t, st].Nodup) (es eso esr esw : List ME) (clock co cr cw : Nat)
include hn
theorem atT_ok (old L : PL) (hm : MapP eso old) (hs : SortG ltB old) (ho : POk old) (hm1 : MapP es L) (n : Str) (hnl : n.length ≤ 140737488355000) (w h : Bool) (hw : valE (.str n) (.bool false) esw = .bool w) (hh : hasE (keyF (n, false)) esr = h) (p : Oid) (hp : p.mono = false) (hu : ∀ i ∈ [st, t, tr, o, rd, wr], ¬ Oid.under p i) :
    CallOK Tryz.prog 24 [.ptr st 0, .str n] (Oid.under p) ⟨[(st, .cells [.map t, .ptr tr 0]), (t, .map [.ss] false es clock), (tr, .cells [.map o, .map rd, .map wr]), (o, .map [.ss] false eso co), (rd, .map [.ss, .sb] true esr cr), (wr, .map [.ss] false esw cw)], (getP L n).av, [(rd, some (.map [.ss, .sb] true (readE false w h (keyF (n, false)) (.str (valP old (n, false))) esr cr).1 (readE false w h (keyF (n, false)) (.str (valP old (n, false))) esr cr).2))]⟩ := by
  have hrd' := fun p hp hu => readT_ok st t tr o rd wr hn es eso esr esw clock co cr cw old hm hs ho n hnl false w h hw hh p hp hu
  have hat := fun p h => at_ok t t es clock p h h n ((lookG n L).getD Bits.no) (mapP_val hm1 n)
  have hgp : (if n = [] then (⟨2, 7, []⟩ : Bits) else (lookG n L).getD Bits.no) = getP L n := rfl
  rw [hgp] at hat
  have hu' : ∀ c j, ∀ i ∈ [st, t, tr, o, rd, wr], ¬ Oid.under (.sub c j p) i := fun c j i hi h => hu i hi (Oid.under_sub h)
  simp only [List.nodup_cons, List.mem_cons, List.not_mem_nil, or_false, not_or, not_false_eq_true, List.nodup_nil, and_true] at hn; simp only [List.mem_cons, List.not_mem_nil, or_false, forall_eq_or_imp, forall_eq] at hu; have hd := hn; obtain ⟨u1, u2, u3, u4, u5, u6⟩ := hu
  have u2' : ∀ c i, ¬ Oid.under (.sub c i p) t := fun c i h => u2 (Oid.under_sub h)
  generalize (readE false w h (keyF (n, false)) (.str (valP old (n, false))) esr cr).1 = E1 at *
  generalize (readE false w h (keyF (n, false)) (.str (valP old (n, false))) esr cr).2 = C1 at *
  generalize getP L n = B at *
  simp only [Bits.av, keyF] at *
  refine fnOK (n := 15) (rs := [.cell 4 37]) Tryz.func24 rfl rfl (by decide) rfl rfl rfl ?_; rintro x rfl hrd hng
  (repeat (first | (refine K_ifT rfl rfl ?_) | (refine K_ifF rfl rfl ?_) | (refine K_ev nmd [] hng (by kernel_rfl) fun hf C S K hC1 hC hS hK => ?_; simp (disch := first | omega | assumption) only [go_sem, hd, Oid.not_under_sub u1, Oid.sub_not_under u1, Oid.not_under_sub u2, Oid.sub_not_under u2, Oid.not_under_sub u3, Oid.sub_not_under u3, Oid.not_under_sub u4, Oid.sub_not_under u4, Oid.not_under_sub u5, Oid.sub_not_under u5, Oid.not_under_sub u6, Oid.sub_not_under u6]; refine hK ?_; clear hK hS hC hC1 K S C hf) | ((first | refine zn ?_ | refine ze ?_ | refine zk ?_); with_reducible (constructor; repeat constructor); try refine zl ?_)))
  refine K_ev nmd [] hng (by kernel_rfl) fun hf C S K hC1 hC hS hK => ?_; simp (disch := first | omega | assumption) only [go_sem, hd, Oid.not_under_sub u1, Oid.sub_not_under u1, Oid.not_under_sub u2, Oid.sub_not_under u2, Oid.not_under_sub u3, Oid.sub_not_under u3, Oid.not_under_sub u4, Oid.sub_not_under u4, Oid.not_under_sub u5, Oid.sub_not_under u5, Oid.not_under_sub u6, Oid.sub_not_under u6]
  refine hC1 _ (hrd' _ (mono_sub' rfl hp) (hu' _ _)) (by simp (disch := first | omega | assumption) only [go_sem, hd, Oid.not_under_sub u1, Oid.sub_not_under u1, Oid.not_under_sub u2, Oid.sub_not_under u2, Oid.not_under_sub u3, Oid.sub_not_under u3, Oid.not_under_sub u4, Oid.sub_not_under u4, Oid.not_under_sub u5, Oid.sub_not_under u5, Oid.not_under_sub u6, Oid.sub_not_under u6]) ?_
  simp (disch := first | omega | assumption) only [go_sem, hd, Oid.not_under_sub u1, Oid.sub_not_under u1, Oid.not_under_sub u2, Oid.sub_not_under u2, Oid.not_under_sub u3, Oid.sub_not_under u3, Oid.not_under_sub u4, Oid.sub_not_under u4, Oid.not_under_sub u5, Oid.sub_not_under u5, Oid.not_under_sub u6, Oid.sub_not_under u6]
  refine hK ?_; clear hK hS hC hC1 K S C hf
  (try ((first | refine zn ?_ | refine ze ?_ | refine zk ?_); with_reducible (constructor; repeat constructor)); try refine zl ?_)
  refine K_ev nmd [] hng (by kernel_rfl) fun hf C S K hC1 hC hS hK => ?_; simp (disch := first | omega | assumption) only [go_sem, hd, Oid.not_under_sub u1, Oid.sub_not_under u1, Oid.not_under_sub u2, Oid.sub_not_under u2, Oid.not_under_sub u3, Oid.sub_not_under u3, Oid.not_under_sub u4, Oid.sub_not_under u4, Oid.not_under_sub u5, Oid.sub_not_under u5, Oid.not_under_sub u6, Oid.sub_not_under u6]
  refine hC1 _ (hat _ (u2' _ _)) (by simp (disch := first | omega | assumption) only [go_sem, hd, Oid.not_under_sub u1, Oid.sub_not_under u1, Oid.not_under_sub u2, Oid.sub_not_under u2, Oid.not_under_sub u3, Oid.sub_not_under u3, Oid.not_under_sub u4, Oid.sub_not_under u4, Oid.not_under_sub u5, Oid.sub_not_under u5, Oid.not_under_sub u6, Oid.sub_not_under u6]) ?_
  simp (disch := first | omega | assumption) only [go_sem, hd, Oid.not_under_sub u1, Oid.sub_not_under u1, Oid.not_under_sub u2, Oid.sub_not_under u2, Oid.not_under_sub u3, Oid.sub_not_under u3, Oid.not_under_sub u4, Oid.sub_not_under u4, Oid.not_under_sub u5, Oid.sub_not_under u5, Oid.not_under_sub u6, Oid.sub_not_under u6]
  refine hK ?_; clear hK hS hC hC1 K S C hf
  (repeat (first | (refine K_ifT rfl rfl ?_) | (refine K_ifF rfl rfl ?_) | (refine K_ev nmd [] hng (by kernel_rfl) fun hf C S K hC1 hC hS hK => ?_; simp (disch := first | omega | assumption) only [go_sem, hd, Oid.not_under_sub u1, Oid.sub_not_under u1, Oid.not_under_sub u2, Oid.sub_not_under u2, Oid.not_under_sub u3, Oid.sub_not_under u3, Oid.not_under_sub u4, Oid.sub_not_under u4, Oid.not_under_sub u5, Oid.sub_not_under u5, Oid.not_under_sub u6, Oid.sub_not_under u6]; refine hK ?_; clear hK hS hC hC1 K S C hf) | ((first | refine zn ?_ | refine ze ?_ | refine zk ?_); with_reducible (constructor; repeat constructor); try refine zl ?_)))
  refine K_ret (done_upd (by simp (disch := first | omega | assumption) only [go_sem, hd, Oid.not_under_sub u1, Oid.sub_not_under u1, Oid.not_under_sub u2, Oid.sub_not_under u2, Oid.not_under_sub u3, Oid.sub_not_under u3, Oid.not_under_sub u4, Oid.sub_not_under u4, Oid.not_under_sub u5, Oid.sub_not_under u5, Oid.not_under_sub u6, Oid.sub_not_under u6]) ?_ ?_)
  all_goals simp only [List.mem_cons, List.not_mem_nil, or_false, forall_eq_or_imp, forall_eq, Option.some.injEq, forall_eq', Mem.of_cons_at, eq_self, if_true, ↓reduceIte, reduceCtorEq, implies_true, not_true_eq_false, false_imp_iff, true_and, and_true, false_and, and_false, imp_self, hd, Oid.not_under_sub u1, Oid.sub_not_under u1, Oid.not_under_sub u2, Oid.sub_not_under u2, Oid.not_under_sub u3, Oid.sub_not_under u3, Oid.not_under_sub u4, Oid.sub_not_under u4, Oid.not_under_sub u5, Oid.sub_not_under u5, Oid.not_under_sub u6, Oid.sub_not_under u6]
theorem namesT_ok (old L : PL) (hm : MapP eso old) (hs : SortG ltB old) (ho : POk old) (hm1 : MapP es L) (hs1 : SortG ltB L) (ho1 : POk L) (n : Str) (hnl : n.length ≤ 140737488355000) (w h : Bool) (hw : valE (.str n) (.bool false) esw = .bool w) (hh : hasE (keyF (n, true)) esr = h) (p : Oid) (hp : p.mono = false) (hu : ∀ i ∈ [st, t, tr, o, rd, wr], ¬ Oid.under p i) :
    CallOK Tryz.prog 25 [.ptr st 0, .str n] (Oid.under p) ⟨[(st, .cells [.map t, .ptr tr 0]), (t, .map [.ss] false es clock), (tr, .cells [.map o, .map rd, .map wr]), (o, .map [.ss] false eso co), (rd, .map [.ss, .sb] true esr cr), (wr, .map [.ss] false esw cw)], .list 1 ((namesP L n).map AV.str), [(rd, some (.map [.ss, .sb] true (readE true w h (keyF (n, true)) (.str (valP old (n, true))) esr cr).1 (readE true w h (keyF (n, true)) (.str (valP old (n, true))) esr cr).2))]⟩ := by
  have hrd' := fun p hp hu => readT_ok st t tr o rd wr hn es eso esr esw clock co cr cw old hm hs ho n hnl true w h hw hh p hp hu
  have hkl := fun e he => Nat.le_trans (mapP_key hm1 ho1 e he) (show 1000000 ≤ 140737488355328 by decide)
  have hol := ho1.len
  have hel : es.length ≤ 2000000000000 := by rw [mapP_len hm1]; omega
  have hnm := fun p h => names_ok t n hnl es clock hkl hel p h
  rw [namesE_eq hm1 hs1] at hnm
  have hu' : ∀ c j, ∀ i ∈ [st, t, tr, o, rd, wr], ¬ Oid.under (.sub c j p) i := fun c j i hi h => hu i hi (Oid.under_sub h)
  simp only [List.nodup_cons, List.mem_cons, List.not_mem_nil, or_false, not_or, not_false_eq_true, List.nodup_nil, and_true] at hn; simp only [List.mem_cons, List.not_mem_nil, or_false, forall_eq_or_imp, forall_eq] at hu; have hd := hn; obtain ⟨u1, u2, u3, u4, u5, u6⟩ := hu
  have u2' : ∀ c i, ¬ Oid.under (.sub c i p) t := fun c i h => u2 (Oid.under_sub h)
  generalize (readE true w h (keyF (n, true)) (.str (valP old (n, true))) esr cr).1 = E1 at *
  generalize (readE true w h (keyF (n, true)) (.str (valP old (n, true))) esr cr).2 = C1 at *
  generalize namesP L n = B at *
  simp only [keyF] at *
  refine fnOK (n := 15) (rs := [.tmp 4]) Tryz.func25 rfl rfl (by decide) rfl rfl rfl ?_; rintro x rfl hrd hng
  (repeat (first | (refine K_ifT rfl rfl ?_) | (refine K_ifF rfl rfl ?_) | (refine K_ev nmd [] hng (by kernel_rfl) fun hf C S K hC1 hC hS hK => ?_; simp (disch := first | omega | assumption) only [go_sem, hd, Oid.not_under_sub u1, Oid.sub_not_under u1, Oid.not_under_sub u2, Oid.sub_not_under u2, Oid.not_under_sub u3, Oid.sub_not_under u3, Oid.not_under_sub u4, Oid.sub_not_under u4, Oid.not_under_sub u5, Oid.sub_not_under u5, Oid.not_under_sub u6, Oid.sub_not_under u6]; refine hK ?_; clear hK hS hC hC1 K S C hf) | ((first | refine zn ?_ | refine ze ?_ | refine zk ?_); with_reducible (constructor; repeat constructor); try refine zl ?_)))
  refine K_ev nmd [] hng (by kernel_rfl) fun hf C S K hC1 hC hS hK => ?_; simp (disch := first | omega | assumption) only [go_sem, hd, Oid.not_under_sub u1, Oid.sub_not_under u1, Oid.not_under_sub u2, Oid.sub_not_under u2, Oid.not_under_sub u3, Oid.sub_not_under u3, Oid.not_under_sub u4, Oid.sub_not_under u4, Oid.not_under_sub u5, Oid.sub_not_under u5, Oid.not_under_sub u6, Oid.sub_not_under u6]
  refine hC1 _ (hrd' _ (mono_sub' rfl hp) (hu' _ _)) (by simp (disch := first | omega | assumption) only [go_sem, hd, Oid.not_under_sub u1, Oid.sub_not_under u1, Oid.not_under_sub u2, Oid.sub_not_under u2, Oid.not_under_sub u3, Oid.sub_not_under u3, Oid.not_under_sub u4, Oid.sub_not_under u4, Oid.not_under_sub u5, Oid.sub_not_under u5, Oid.not_under_sub u6, Oid.sub_not_under u6]) ?_
  simp (disch := first | omega | assumption) only [go_sem, hd, Oid.not_under_sub u1, Oid.sub_not_under u1, Oid.not_under_sub u2, Oid.sub_not_under u2, Oid.not_under_sub u3, Oid.sub_not_under u3, Oid.not_under_sub u4, Oid.sub_not_under u4, Oid.not_under_sub u5, Oid.sub_not_under u5, Oid.not_under_sub u6, Oid.sub_not_under u6]
  refine hK ?_; clear hK hS hC hC1 K S C hf
  (try ((first | refine zn ?_ | refine ze ?_ | refine zk ?_); with_reducible (constructor; repeat constructor)); try refine zl ?_)
  refine K_ev nmd [] hng (by kernel_rfl) fun hf C S K hC1 hC hS hK => ?_; simp (disch := first | omega | assumption) only [go_sem, hd, Oid.not_under_sub u1, Oid.sub_not_under u1, Oid.not_under_sub u2, Oid.sub_not_under u2, Oid.not_under_sub u3, Oid.sub_not_under u3, Oid.not_under_sub u4, Oid.sub_not_under u4, Oid.not_under_sub u5, Oid.sub_not_under u5, Oid.not_under_sub u6, Oid.sub_not_under u6]
  refine hC1 _ (hnm _ (u2' _ _)) (by simp (disch := first | omega | assumption) only [go_sem, hd, Oid.not_under_sub u1, Oid.sub_not_under u1, Oid.not_under_sub u2, Oid.sub_not_under u2, Oid.not_under_sub u3, Oid.sub_not_under u3, Oid.not_under_sub u4, Oid.sub_not_under u4, Oid.not_under_sub u5, Oid.sub_not_under u5, Oid.not_under_sub u6, Oid.sub_not_under u6]) ?_
  simp (disch := first | omega | assumption) only [go_sem, hd, Oid.not_under_sub u1, Oid.sub_not_under u1, Oid.not_under_sub u2, Oid.sub_not_under u2, Oid.not_under_sub u3, Oid.sub_not_under u3, Oid.not_under_sub u4, Oid.sub_not_under u4, Oid.not_under_sub u5, Oid.sub_not_under u5, Oid.not_under_sub u6, Oid.sub_not_under u6]
  refine hK ?_; clear hK hS hC hC1 K S C hf
  (repeat (first | (refine K_ifT rfl rfl ?_) | (refine K_ifF rfl rfl ?_) | (refine K_ev nmd [] hng (by kernel_rfl) fun hf C S K hC1 hC hS hK => ?_; simp (disch := first | omega | assumption) only [go_sem, hd, Oid.not_under_sub u1, Oid.sub_not_under u1, Oid.not_under_sub u2, Oid.sub_not_under u2, Oid.not_under_sub u3, Oid.sub_not_under u3, Oid.not_under_sub u4, Oid.sub_not_under u4, Oid.not_under_sub u5, Oid.sub_not_under u5, Oid.not_under_sub u6, Oid.sub_not_under u6]; refine hK ?_; clear hK hS hC hC1 K S C hf) | ((first | refine zn ?_ | refine ze ?_ | refine zk ?_); with_reducible (constructor; repeat constructor); try refine zl ?_)))
  refine K_ret (done_upd rfl ?_ ?_)
  all_goals simp only [List.mem_cons, List.not_mem_nil, or_false, forall_eq_or_imp, forall_eq, Option.some.injEq, forall_eq', Mem.of_cons_at, eq_self, if_true, ↓reduceIte, reduceCtorEq, implies_true, not_true_eq_false, false_imp_iff, true_and, and_true, false_and, and_false, imp_self, hd, Oid.not_under_sub u1, Oid.sub_not_under u1, Oid.not_under_sub u2, Oid.sub_not_under u2, Oid.not_under_sub u3, Oid.sub_not_under u3, Oid.not_under_sub u4, Oid.sub_not_under u4, Oid.not_under_sub u5, Oid.sub_not_under u5, Oid.not_under_sub u6, Oid.sub_not_under u6]
def putWE (n : Str) (es : List ME) (c : Nat) : List ME × Nat := if n = [] then (es, c) else (setE (.str n) (.bool true) c es, if hasE (.str n) es = true then c else c + 1)
theorem putT_ok (n : Str) (b : Bits) (p : Oid) (hp : p.mono = false) (hu : ∀ i ∈ [st, t, tr, o, rd, wr], ¬ Oid.under p i) :
    CallOK Tryz.prog 19 [.ptr st 0, .str n, b.av] (Oid.under p) ⟨[(st, .cells [.map t, .ptr tr 0]), (t, .map [.ss] false es clock), (tr, .cells [.map o, .map rd, .map wr]), (o, .map [.ss] false eso co), (rd, .map [.ss, .sb] true esr cr), (wr, .map [.ss] false esw cw)], .tuple [], [(t, some (.map [.ss] false (putE n b es clock) (putC n b es clock))), (wr, some (.map [.ss] false (putWE n esw cw).1 (putWE n esw cw).2))]⟩ := by
  simp only [List.nodup_cons, List.mem_cons, List.not_mem_nil, or_false, not_or, not_false_eq_true, List.nodup_nil, and_true] at hn; simp only [List.mem_cons, List.not_mem_nil, or_false, forall_eq_or_imp, forall_eq] at hu; have hd := hn; obtain ⟨u1, u2, u3, u4, u5, u6⟩ := hu
  simp only [Bits.av]
  by_cases hn0 : n = []
  · unfold putE putC putWE
    simp only [if_pos hn0]
    refine fnOK (n := 35) (rs := []) Tryz.func19 rfl rfl (by decide) rfl rfl rfl ?_; rintro x rfl hrd hng
    (repeat (first | (refine K_ifT rfl rfl ?_) | (refine K_ifF rfl rfl ?_) | (refine K_ev nmd [] hng (by kernel_rfl) fun hf C S K hC1 hC hS hK => ?_; simp (disch := first | omega | assumption) only [go_sem, hd, Oid.not_under_sub u1, Oid.sub_not_under u1, Oid.not_under_sub u2, Oid.sub_not_under u2, Oid.not_under_sub u3, Oid.sub_not_under u3, Oid.not_under_sub u4, Oid.sub_not_under u4, Oid.not_under_sub u5, Oid.sub_not_under u5, Oid.not_under_sub u6, Oid.sub_not_under u6]; refine hK ?_; clear hK hS hC hC1 K S C hf) | ((first | refine zn ?_ | refine ze ?_ | refine zk ?_); with_reducible (constructor; repeat constructor); try refine zl ?_)))
    refine K_ifd rfl rfl (fun hb => ?_) (fun hb => ?_)
    · (repeat (first | (refine K_ifT rfl rfl ?_) | (refine K_ifF rfl rfl ?_) | (refine K_ev nmd [] hng (by kernel_rfl) fun hf C S K hC1 hC hS hK => ?_; simp (disch := first | omega | assumption) only [go_sem, hd, Oid.not_under_sub u1, Oid.sub_not_under u1, Oid.not_under_sub u2, Oid.sub_not_under u2, Oid.not_under_sub u3, Oid.sub_not_under u3, Oid.not_under_sub u4, Oid.sub_not_under u4, Oid.not_under_sub u5, Oid.sub_not_under u5, Oid.not_under_sub u6, Oid.sub_not_under u6]; refine hK ?_; clear hK hS hC hC1 K S C hf) | ((first | refine zn ?_ | refine ze ?_ | refine zk ?_); with_reducible (constructor; repeat constructor); try refine zl ?_)))
      refine K_ret (done_updR rfl ?_ ?_)
      all_goals simp only [List.mem_cons, List.not_mem_nil, or_false, forall_eq_or_imp, forall_eq, Option.some.injEq, forall_eq', Mem.of_cons_at, eq_self, if_true, ↓reduceIte, reduceCtorEq, implies_true, not_true_eq_false, false_imp_iff, true_and, and_true, false_and, and_false, imp_self, hd, Oid.not_under_sub u1, Oid.sub_not_under u1, Oid.not_under_sub u2, Oid.sub_not_under u2, Oid.not_under_sub u3, Oid.sub_not_under u3, Oid.not_under_sub u4, Oid.sub_not_under u4, Oid.not_under_sub u5, Oid.sub_not_under u5, Oid.not_under_sub u6, Oid.sub_not_under u6]
    · exact absurd hn0 hb
  · unfold putE putC putWE
    simp only [if_neg hn0]
    refine fnOK (n := 35) (rs := []) Tryz.func19 rfl rfl (by decide) rfl rfl rfl ?_; rintro x rfl hrd hng
    (repeat (first | (refine K_ifT rfl rfl ?_) | (refine K_ifF rfl rfl ?_) | (refine K_ev nmd [] hng (by kernel_rfl) fun hf C S K hC1 hC hS hK => ?_; simp (disch := first | omega | assumption) only [go_sem, hd, Oid.not_under_sub u1, Oid.sub_not_under u1, Oid.not_under_sub u2, Oid.sub_not_under u2, Oid.not_under_sub u3, Oid.sub_not_under u3, Oid.not_under_sub u4, Oid.sub_not_under u4, Oid.not_under_sub u5, Oid.sub_not_under u5, Oid.not_under_sub u6, Oid.sub_not_under u6]; refine hK ?_; clear hK hS hC hC1 K S C hf) | ((first | refine zn ?_ | refine ze ?_ | refine zk ?_); with_reducible (constructor; repeat constructor); try refine zl ?_)))
    refine K_ifd rfl rfl (fun hb => ?_) (fun hb => ?_)
    · exact absurd hb hn0
    · (repeat (first | (refine K_ifT rfl rfl ?_) | (refine K_ifF rfl rfl ?_) | (refine K_ev nmd [] hng (by kernel_rfl) fun hf C S K hC1 hC hS hK => ?_; simp (disch := first | omega | assumption) only [go_sem, hd, Oid.not_under_sub u1, Oid.sub_not_under u1, Oid.not_under_sub u2, Oid.sub_not_under u2, Oid.not_under_sub u3, Oid.sub_not_under u3, Oid.not_under_sub u4, Oid.sub_not_under u4, Oid.not_under_sub u5, Oid.sub_not_under u5, Oid.not_under_sub u6, Oid.sub_not_under u6]; refine hK ?_; clear hK hS hC hC1 K S C hf) | ((first | refine zn ?_ | refine ze ?_ | refine zk ?_); with_reducible (constructor; repeat constructor); try refine zl ?_)))
      by_cases hk : b.k = 0
      · simp only [if_pos hk]
        refine K_ifd rfl rfl (fun hb => ?_) (fun hb => ?_)
        · (repeat (first | (refine K_ifT rfl rfl ?_) | (refine K_ifF rfl rfl ?_) | (refine K_ev nmd [] hng (by kernel_rfl) fun hf C S K hC1 hC hS hK => ?_; simp (disch := first | omega | assumption) only [go_sem, hd, Oid.not_under_sub u1, Oid.sub_not_under u1, Oid.not_under_sub u2, Oid.sub_not_under u2, Oid.not_under_sub u3, Oid.sub_not_under u3, Oid.not_under_sub u4, Oid.sub_not_under u4, Oid.not_under_sub u5, Oid.sub_not_under u5, Oid.not_under_sub u6, Oid.sub_not_under u6]; refine hK ?_; clear hK hS hC hC1 K S C hf) | ((first | refine zn ?_ | refine ze ?_ | refine zk ?_); with_reducible (constructor; repeat constructor); try refine zl ?_)))
          refine K_nil (done_updN rfl ?_ ?_)
          all_goals simp only [List.mem_cons, List.not_mem_nil, or_false, forall_eq_or_imp, forall_eq, Option.some.injEq, forall_eq', Mem.of_cons_at, eq_self, if_true, ↓reduceIte, reduceCtorEq, implies_true, not_true_eq_false, false_imp_iff, true_and, and_true, false_and, and_false, imp_self, hd, Oid.not_under_sub u1, Oid.sub_not_under u1, Oid.not_under_sub u2, Oid.sub_not_under u2, Oid.not_under_sub u3, Oid.sub_not_under u3, Oid.not_under_sub u4, Oid.sub_not_under u4, Oid.not_under_sub u5, Oid.sub_not_under u5, Oid.not_under_sub u6, Oid.sub_not_under u6]
        · exact absurd hk hb
      · simp only [if_neg hk]
        refine K_ifd rfl rfl (fun hb => ?_) (fun hb => ?_)
        · exact absurd hb hk
        · (try ((first | refine zn ?_ | refine ze ?_ | refine zk ?_); with_reducible (constructor; repeat constructor)); try refine zl ?_)
          refine K_evd nmd [] [] mixed hng (by kernel_rfl) [0] fun hf C S K hC hS hK => ?_; simp (disch := first | omega | assumption) only [go_sem, hd, Oid.not_under_sub u1, Oid.sub_not_under u1, Oid.not_under_sub u2, Oid.sub_not_under u2, Oid.not_under_sub u3, Oid.sub_not_under u3, Oid.not_under_sub u4, Oid.sub_not_under u4, Oid.not_under_sub u5, Oid.sub_not_under u5, Oid.not_under_sub u6, Oid.sub_not_under u6]
          (first | refine hK (dynN_quiet rfl) ?_ | refine hK (by simp (disch := first | omega | assumption) only [go_sem, List.reverse_cons, List.reverse_nil, ne_eq, not_false_eq_true, implies_true]) ?_); clear hK hS hC K S C hf
          refine K_nil (done_updN rfl ?_ ?_)
          all_goals simp only [List.mem_cons, List.not_mem_nil, or_false, forall_eq_or_imp, forall_eq, Option.some.injEq, forall_eq', Mem.of_cons_at, eq_self, if_true, ↓reduceIte, reduceCtorEq, implies_true, not_true_eq_false, false_imp_iff, true_and, and_true, false_and, and_false, imp_self, Bits.av, hd, Oid.not_under_sub u1, Oid.sub_not_under u1, Oid.not_under_sub u2, Oid.sub_not_under u2, Oid.not_under_sub u3, Oid.sub_not_under u3, Oid.not_under_sub u4, Oid.sub_not_under u4, Oid.not_under_sub u5, Oid.sub_not_under u5, Oid.not_under_sub u6, Oid.sub_not_under u6]
end
end Go.Proofs.YtaecbmbecofijaaGreatDoor
namespace Go.Proofs.YtaecbmbecofijaaGreatDoor
open Go Go.Ab
set_option maxRecDepth 100000
set_option maxHeartbeats 2000000
theorem clone_w (b : Nat) (es : Array MapEntry) (clock : Nat) (w : World) (hb : w.heap[b]? = some (.map es clock)) :
    Calls Tryz.prog 62 #[.map (some b)] w fun e w' => e = .returned (.map (some w.heap.size)) ∧ w' = w.alloc (.map es clock) := by
  have hq := fun w => run_eql_map_nil_sl (P := Tryz.prog) w 91 _ _ (some b) Tryz.underlying91
  go_enter Tryz.func62, Tryz.ntmps62
  go_wp2
  rw [run_callFunc_extern Tryz.func109 (by kernel_rfl) (by kernel_rfl) (by kernel_rfl) (e := Extern.MapsClone.clone) (by kernel_rfl), run_maps_clone_sl w 91 hb]
  simp only [Result.andThen]
  rw [Oper.upon_value]
  go_wp2
  rw [run_typeAssert_map_sl _ 91 20 _ _ _ Tryz.underlying91]
  simp only [Result.andThen]
  rw [Oper.upon_value]
  go_wp2
  go_ret
  exact ⟨rfl, rfl⟩
theorem clone_ok (o : Oid) (ks : List TyS) (ag : Bool) (es : List ME) (clock : Nat) (p : Oid) : CallOK Tryz.prog 62 [.map o] (Oid.under p) ⟨[(o, .map ks ag es clock)], .map (.sub 0 0 p), [(.sub 0 0 p, some (.map ks ag es clock))]⟩ :=
  ⟨by kernel_rfl, fun x g args w m hm hn ha hs hx => by
    obtain ⟨v, rfl, hv⟩ := ha.one
    obtain ⟨b, rfl, hb⟩ := hv.map_inv
    have hmi := hn (o, .map ks ag es clock) (by simp)
    obtain ⟨b', h1, _, _, h4⟩ := hm.obj o _ hmi
    rw [hb] at h1; simp only [Option.some.injEq] at h1; subst h1
    obtain ⟨⟨ents, k1, k2⟩, k3⟩ := h4
    refine (clone_w b ents clock w k1).mono ?_
    rintro e w' ⟨rfl, rfl⟩
    obtain ⟨hl, hu⟩ := hs (.sub 0 0 p) (Oid.under_sub (Oid.under_refl _))
    have hle := Gh.le_bind (b := w.heap.size) hl
    have hnew := hm.new (i := .sub 0 0 p) hl hu (o := .map ks ag es clock) (ob := .map ents clock) ⟨⟨ents, heap_new _ _, k2.mono hle⟩, k3⟩ (fun t9 h9 => by cases h9)
    refine ⟨g.bind (.sub 0 0 p) w.heap.size, _, rfl, hle, fun i hi => ?_, .map _ _ ?_, hnew⟩
    · simp only [Gh.bind]
      rw [if_neg]
      rintro rfl
      exact hi (Oid.under_sub (Oid.under_refl _))
    · simp [Gh.bind]⟩
theorem begin_ok (st t : Oid) (tv : AV) (es : List ME) (clock : Nat) (hts : ¬ t = st) (p : Oid) (hs : ¬ Oid.under p st) (ht : ¬ Oid.under p t) :
    CallOK Tryz.prog 23 [.ptr st 0] (Oid.under p) ⟨[(st, .cells [.map t, tv]), (t, .map [.ss] false es clock)], .tuple [], [(st, some (.cells [.map t, .ptr (.sub 0 9 p) 0])), (.sub 0 9 p, some (.cells [.map (.sub 0 0 (.sub 0 5 p)), .map (.sub 0 6 p), .map (.sub 0 7 p)])), (.sub 0 0 (.sub 0 5 p), some (.map [.ss] false es clock)), (.sub 0 6 p, some (.map [.ss, .sb] true [] 0)), (.sub 0 7 p, some (.map [.ss] false [] 0))]⟩ := by
  have hs5 : ¬ Oid.under (.sub 0 5 p) st := fun h => hs (Oid.under_sub h)
  have ht5 : ¬ Oid.under (.sub 0 5 p) t := fun h => ht (Oid.under_sub h)
  refine fnOK (n := 14) (rs := []) Tryz.func23 rfl rfl (by decide) rfl rfl rfl ?_; rintro x rfl hrd hng
  (try ((first | refine zn ?_ | refine ze ?_ | refine zk ?_); with_reducible (constructor; repeat constructor)); try refine zl ?_)
  refine K_ev nmd [] hng (by kernel_rfl) fun hf C S K hC1 hC hS hK => ?_; simp (disch := first | omega | assumption) only [go_sem, Oid.not_under_sub ht, Oid.sub_not_under ht, Oid.not_under_sub hs, Oid.sub_not_under hs, hts, Oid.sub_not_under hs5, Oid.not_under_sub hs5, Oid.sub_not_under ht5, Oid.not_under_sub ht5]
  refine hC1 _ (clone_ok t [.ss] false es clock _) (by simp (disch := first | omega | assumption) only [go_sem, Oid.not_under_sub ht, Oid.sub_not_under ht, Oid.not_under_sub hs, Oid.sub_not_under hs, hts, Oid.sub_not_under hs5, Oid.not_under_sub hs5, Oid.sub_not_under ht5, Oid.not_under_sub ht5]) ?_
  simp (disch := first | omega | assumption) only [go_sem, Oid.not_under_sub ht, Oid.sub_not_under ht, Oid.not_under_sub hs, Oid.sub_not_under hs, hts, Oid.sub_not_under hs5, Oid.not_under_sub hs5, Oid.sub_not_under ht5, Oid.not_under_sub ht5]
  refine hK ?_; clear hK hS hC hC1 K S C hf
  (repeat (first | (refine K_ifT rfl rfl ?_) | (refine K_ifF rfl rfl ?_) | (refine K_ev nmd [] hng (by kernel_rfl) fun hf C S K hC1 hC hS hK => ?_; simp (disch := first | omega | assumption) only [go_sem]; refine hK ?_; clear hK hS hC hC1 K S C hf) | ((first | refine zn ?_ | refine ze ?_ | refine zk ?_); with_reducible (constructor; repeat constructor); try refine zl ?_)))
  refine K_nil (done_updN rfl ?_ ?_)
  all_goals simp only [List.mem_cons, List.not_mem_nil, or_false, forall_eq_or_imp, forall_eq, Option.some.injEq, forall_eq', Mem.of_cons_at, eq_self, if_true, ↓reduceIte, reduceCtorEq, implies_true, not_true_eq_false, false_imp_iff, true_and, and_true, false_and, and_false, imp_self, Oid.sub.injEq, Nat.reduceEqDiff, Oid.not_under_sub ht, Oid.sub_not_under ht, Oid.not_under_sub hs, Oid.sub_not_under hs, hts, Oid.sub_not_under hs5, Oid.not_under_sub hs5, Oid.sub_not_under ht5, Oid.not_under_sub ht5]
theorem copy_ok (st t : Oid) (tv : AV) (es : List ME) (clock : Nat) (hts : ¬ t = st) (p : Oid) (hs : ¬ Oid.under p st) (ht : ¬ Oid.under p t) :
    CallOK Tryz.prog 18 [.ptr st 0] (Oid.under p) ⟨[(st, .cells [.map t, tv]), (t, .map [.ss] false es clock)], .ptr (.sub 1 6 p) 0, [(.sub 1 6 p, some (.cells [.map (.sub 0 0 (.sub 1 4 p)), .nilPtr])), (.sub 0 0 (.sub 1 4 p), some (.map [.ss] false es clock))]⟩ := by
  have hs5 : ¬ Oid.under (.sub 1 4 p) st := fun h => hs (Oid.under_sub h)
  have ht5 : ¬ Oid.under (.sub 1 4 p) t := fun h => ht (Oid.under_sub h)
  refine fnOK (n := 10) (rs := [.tmp 2]) Tryz.func18 rfl rfl (by decide) rfl rfl rfl ?_; rintro x rfl hrd hng
  (repeat (first | (refine K_ifT rfl rfl ?_) | (refine K_ifF rfl rfl ?_) | (refine K_ev nmd [] hng (by kernel_rfl) fun hf C S K hC1 hC hS hK => ?_; simp (disch := first | omega | assumption) only [go_sem, Oid.not_under_sub ht, Oid.sub_not_under ht, Oid.not_under_sub hs, Oid.sub_not_under hs, hts, Oid.sub_not_under hs5, Oid.not_under_sub hs5, Oid.sub_not_under ht5, Oid.not_under_sub ht5]; refine hK ?_; clear hK hS hC hC1 K S C hf) | ((first | refine zn ?_ | refine ze ?_ | refine zk ?_); with_reducible (constructor; repeat constructor); try refine zl ?_)))
  refine K_ev nmd [] hng (by kernel_rfl) fun hf C S K hC1 hC hS hK => ?_; simp (disch := first | omega | assumption) only [go_sem, Oid.not_under_sub ht, Oid.sub_not_under ht, Oid.not_under_sub hs, Oid.sub_not_under hs, hts, Oid.sub_not_under hs5, Oid.not_under_sub hs5, Oid.sub_not_under ht5, Oid.not_under_sub ht5]
  refine hC1 _ (clone_ok t [.ss] false es clock _) (by simp (disch := first | omega | assumption) only [go_sem, Oid.not_under_sub ht, Oid.sub_not_under ht, Oid.not_under_sub hs, Oid.sub_not_under hs, hts, Oid.sub_not_under hs5, Oid.not_under_sub hs5, Oid.sub_not_under ht5, Oid.not_under_sub ht5]) ?_
  simp (disch := first | omega | assumption) only [go_sem, Oid.not_under_sub ht, Oid.sub_not_under ht, Oid.not_under_sub hs, Oid.sub_not_under hs, hts, Oid.sub_not_under hs5, Oid.not_under_sub hs5, Oid.sub_not_under ht5, Oid.not_under_sub ht5]
  refine hK ?_; clear hK hS hC hC1 K S C hf
  (repeat (first | (refine K_ifT rfl rfl ?_) | (refine K_ifF rfl rfl ?_) | (refine K_ev nmd [] hng (by kernel_rfl) fun hf C S K hC1 hC hS hK => ?_; simp (disch := first | omega | assumption) only [go_sem]; refine hK ?_; clear hK hS hC hC1 K S C hf) | ((first | refine zn ?_ | refine ze ?_ | refine zk ?_); with_reducible (constructor; repeat constructor); try refine zl ?_)))
  refine K_ret (done_upd rfl ?_ ?_)
  all_goals simp only [List.mem_cons, List.not_mem_nil, or_false, forall_eq_or_imp, forall_eq, Option.some.injEq, forall_eq', Mem.of_cons_at, eq_self, if_true, ↓reduceIte, reduceCtorEq, implies_true, not_true_eq_false, false_imp_iff, true_and, and_true, false_and, and_false, imp_self, Oid.sub.injEq, Nat.reduceEqDiff, Oid.not_under_sub ht, Oid.sub_not_under ht, Oid.not_under_sub hs, Oid.sub_not_under hs, hts, Oid.sub_not_under hs5, Oid.not_under_sub hs5, Oid.sub_not_under ht5, Oid.not_under_sub ht5]
end Go.Proofs.YtaecbmbecofijaaGreatDoor
namespace Go.Ab
/-- A block: its objects' names, and what lies under them. -/
abbrev Bk := List Oid × (Oid → AObj)
def bk (B : Bk) : List (Oid × AObj) := B.1.map fun i => (i, B.2 i)
/-- All of a block's objects are exchanged. -/
def sb (N : List Oid) (f : Oid → AObj) : List (Oid × Option AObj) := N.map fun i => (i, some (f i))
def Mem.blk (A : List (Oid × AObj)) (Bs : List Bk) : Mem := Mem.of (A ++ (Bs.map bk).flatten)
def Mem.cons (a : Oid × AObj) (m : Mem) : Mem := m.set a.1 (some a.2)
/-- Nothing of it lies under p. -/
def Old0 (p : Oid) (N : List Oid) : Prop := ∀ i ∈ N, ¬ Oid.under p i
def DJ (N M : List Oid) : Prop := ∀ i ∈ N, i ∉ M
theorem Old0.sub {p : Oid} {N : List Oid} (h : Old0 p N) (c i : Nat) : Old0 (.sub c i p) N := fun j hj hu => h j hj (Oid.under_sub hu)
theorem Old0.mem {p : Oid} {N : List Oid} (h : Old0 p N) {c i : Nat} : Oid.sub c i p ∉ N := fun hm => h _ hm (Oid.under_sub (Oid.under_refl _))
/-- What was made ahead of count c. -/
def OldC (p : Oid) (c : Nat) (N : List Oid) : Prop := ∀ i ∈ N, ¬ Young p c i
theorem OldC.sub {p : Oid} {c0 : Nat} {N : List Oid} (h : OldC p c0 N) {c : Nat} (hc : c0 ≤ c) (i : Nat) : Old0 (.sub c i p) N := fun j hj hu => h j hj ⟨c, i, hc, hu⟩
theorem OldC.mono {p : Oid} {c0 c : Nat} {N : List Oid} (h : OldC p c0 N) (hc : c0 ≤ c) : OldC p c N := fun j hj hu => h j hj (hu.mono hc)
theorem OldC.mem {p : Oid} {c0 : Nat} {N : List Oid} (h : OldC p c0 N) {c i : Nat} (hc : c0 ≤ c) : Oid.sub c i p ∉ N := fun hm => h _ hm ⟨c, i, hc, Oid.under_refl _⟩
theorem Old0.C {p : Oid} {N : List Oid} (h : Old0 p N) (c : Nat) : OldC p c N := fun j hj hu => h j hj hu.under
theorem Mem.blk_at (q : Oid × AObj) (A : List (Oid × AObj)) (Bs : List Bk) (i : Oid) : Mem.blk (q :: A) Bs i = if i = q.1 then some q.2 else Mem.blk A Bs i := rfl
theorem Mem.blk_cons (q : Oid × AObj) (A : List (Oid × AObj)) (Bs : List Bk) : Mem.cons q (Mem.blk A Bs) = Mem.blk (q :: A) Bs := rfl
theorem blk_upd_nil (A : List (Oid × AObj)) (Bs : List Bk) : (Mem.blk A Bs).upds [] = Mem.blk A Bs := rfl
theorem of_putL_app (i : Oid) (o : AObj) (F : List (Oid × AObj)) : ∀ A, (Mem.of (A ++ F)).set i (some o) = Mem.of (putL i (some o) A ++ F)
  | [] => rfl
  | q :: A => by
    have ih := of_putL_app i o F A
    simp only [putL]
    by_cases h : i = q.1
    · rw [if_pos h]; funext k; simp only [List.cons_append, Mem.of, Mem.set]; subst h; split <;> rfl
    · rw [if_neg h]; funext k; simp only [List.cons_append, Mem.of]; rw [← ih]; simp only [Mem.set]
      by_cases h1 : k = i
      · rw [if_pos h1, if_pos h1, if_neg (fun h2 => h (h1.symm.trans h2))]
      · rw [if_neg h1, if_neg h1]
theorem blk_upd_some (A : List (Oid × AObj)) (Bs : List Bk) (i : Oid) (o : AObj) (u : List (Oid × Option AObj)) : (Mem.blk A Bs).upds ((i, some o) :: u) = (Mem.blk (putL i (some o) A) Bs).upds u := by
  show ((Mem.of _).set i (some o)).upds u = _
  rw [of_putL_app]; rfl
/-- A name is struck out of a block. -/
def del (i : Oid) (B : Bk) : Bk := (B.1.filter fun j => decide (¬ j = i), B.2)
def delB (i : Oid) : List Bk → List Bk
  | [] => []
  | B :: Bs => del i B :: delB i Bs
theorem delB_nil (i : Oid) : delB i [] = [] := rfl
theorem delB_cons (i : Oid) (B : Bk) (Bs : List Bk) : delB i (B :: Bs) = del i B :: delB i Bs := rfl
/-! ### a block is exchanged -/
theorem upds_at (N : List Oid) (f : Oid → AObj) (i : Oid) : ∀ m : Mem, (m.upds (sb N f)) i = if i ∈ N then some (f i) else m i := by
  induction N with
  | nil => intro m; simp [sb, Mem.upds]
  | cons j N ih =>
    intro m
    show ((m.set j (some (f j))).upds (sb N f)) i = _
    rw [ih]
    by_cases h1 : i ∈ N
    · rw [if_pos h1, if_pos (List.mem_cons_of_mem _ h1)]
    · rw [if_neg h1]
      by_cases h2 : i = j
      · subst h2; rw [if_pos List.mem_cons_self]; simp [Mem.set]
      · rw [if_neg (by simp [h1, h2])]; simp [Mem.set, h2]
theorem of_bk (N : List Oid) (f : Oid → AObj) (F : List (Oid × AObj)) (i : Oid) : Mem.of (bk (N, f) ++ F) i = if i ∈ N then some (f i) else Mem.of F i := by
  induction N with
  | nil => simp [bk]
  | cons j N ih =>
    show (Mem.of (bk (N, f) ++ F)).set j (some (f j)) i = _
    simp only [Mem.set]
    by_cases h2 : i = j
    · subst h2; rw [if_pos rfl, if_pos List.mem_cons_self]
    · rw [if_neg h2, ih]
      by_cases h1 : i ∈ N
      · rw [if_pos h1, if_pos (List.mem_cons_of_mem _ h1)]
      · rw [if_neg h1, if_neg (by simp [h1, h2])]
theorem blk_nil_at (N : List Oid) (f : Oid → AObj) (Bs : List Bk) (i : Oid) : Mem.blk [] ((N, f) :: Bs) i = if i ∈ N then some (f i) else Mem.blk [] Bs i := of_bk N f _ i
theorem blk_sb0 (N : List Oid) (f g : Oid → AObj) (Bs : List Bk) : (Mem.blk [] ((N, f) :: Bs)).upds (sb N g) = Mem.blk [] ((N, g) :: Bs) := by
  funext i
  rw [upds_at, blk_nil_at, blk_nil_at]
  split <;> rfl
theorem blk_sb1 {M N : List Oid} (h : DJ M N) (e f g : Oid → AObj) (Bs : List Bk) : (Mem.blk [] ((M, e) :: (N, f) :: Bs)).upds (sb N g) = Mem.blk [] ((M, e) :: (N, g) :: Bs) := by
  funext i
  rw [upds_at, blk_nil_at, blk_nil_at, blk_nil_at, blk_nil_at]
  by_cases h1 : i ∈ N
  · rw [if_pos h1, if_neg (fun h2 => h i h2 h1), if_pos h1]
  · simp only [if_neg h1]
theorem blk_sbA {q : Oid × AObj} {A : List (Oid × AObj)} {Bs : List Bk} {N : List Oid} {g : Oid → AObj} (h : q.1 ∉ N) : (Mem.blk (q :: A) Bs).upds (sb N g) = Mem.cons q ((Mem.blk A Bs).upds (sb N g)) := by
  funext i
  rw [upds_at]
  simp only [Mem.cons, Mem.set, Mem.blk_at]
  rw [upds_at]
  by_cases h1 : i = q.1
  · subst h1; rw [if_neg h, if_pos rfl, if_pos rfl]
  · rw [if_neg h1, if_neg h1]
theorem blk_sbV {i : Oid} {o : AObj} {A : List (Oid × AObj)} {Bs : List Bk} {N : List Oid} {g : Oid → AObj} (h : i ∉ N) : (Mem.blk ((i, o) :: A) Bs).upds (sb N g) = Mem.cons (i, o) ((Mem.blk A Bs).upds (sb N g)) := blk_sbA h
theorem blk_sbS {c k : Nat} {p : Oid} {o : AObj} {A : List (Oid × AObj)} {Bs : List Bk} {N : List Oid} {g : Oid → AObj} (h : Old0 p N) : (Mem.blk ((.sub c k p, o) :: A) Bs).upds (sb N g) = Mem.cons (.sub c k p, o) ((Mem.blk A Bs).upds (sb N g)) := blk_sbA h.mem
/-! ### what a call asks -/
theorem mem_bk {B : Bk} {q : Oid × AObj} : q ∈ bk B ↔ q.1 ∈ B.1 ∧ q.2 = B.2 q.1 := by
  simp only [bk, List.mem_map]
  constructor
  · rintro ⟨i, h1, rfl⟩; exact ⟨h1, rfl⟩
  · rintro ⟨h1, h2⟩; exact ⟨q.1, h1, by rw [← h2]⟩
theorem need_0 (N : List Oid) (f : Oid → AObj) (Bs : List Bk) : (∀ q, q ∈ bk (N, f) → Mem.blk [] ((N, f) :: Bs) q.1 = some q.2) = True := eq_true fun q hq => by
  obtain ⟨h1, h2⟩ := mem_bk.1 hq
  rw [blk_nil_at, if_pos h1, h2]
theorem need_A {a : Oid × AObj} {A : List (Oid × AObj)} {Bs : List Bk} {N : List Oid} {f : Oid → AObj} (h : a.1 ∉ N) : (∀ q, q ∈ bk (N, f) → Mem.blk (a :: A) Bs q.1 = some q.2) = (∀ q, q ∈ bk (N, f) → Mem.blk A Bs q.1 = some q.2) := by
  refine propext ⟨fun k q hq => ?_, fun k q hq => ?_⟩
  · have := k q hq
    rwa [Mem.blk_at, if_neg (fun e : q.1 = a.1 => h (e ▸ (mem_bk.1 hq).1))] at this
  · rw [Mem.blk_at, if_neg (fun e : q.1 = a.1 => h (e ▸ (mem_bk.1 hq).1))]; exact k q hq
theorem need_S {c k : Nat} {p : Oid} {o : AObj} {A : List (Oid × AObj)} {Bs : List Bk} {N : List Oid} {f : Oid → AObj} (h : Old0 p N) : (∀ q, q ∈ bk (N, f) → Mem.blk ((.sub c k p, o) :: A) Bs q.1 = some q.2) = (∀ q, q ∈ bk (N, f) → Mem.blk A Bs q.1 = some q.2) := need_A h.mem
/-! ### the beginning and the end of a walk -/
theorem blk_s0 (B : Bk) : Mem.of (bk B) = Mem.blk [] [B] := by simp [Mem.blk]
theorem blk_s02 (B C : Bk) : Mem.of (bk B ++ bk C) = Mem.blk [] [B, C] := by simp [Mem.blk]
/-- What was asked, changed as it is told, is there. -/
theorem upd_blk {A0 : List (Oid × AObj)} {U : List (Oid × Option AObj)} {N : List Oid} {f g : Oid → AObj} {m : Mem} (h2 : ∀ q, q ∈ U → ∀ o, q.2 = some o → m q.1 = some o) (h3 : ∀ q, q ∈ A0 → (∀ r, r ∈ U → ¬ r.1 = q.1) → m q.1 = some q.2)
    (h4 : ∀ q, q ∈ bk (N, g) → m q.1 = some q.2) (i : Oid) (o : AObj) (h : ((Mem.of (A0 ++ bk (N, f))).upds (U ++ sb N g)) i = some o) : m i = some o := by
  rw [upds_append, upds_at] at h
  by_cases h1 : i ∈ N
  · rw [if_pos h1] at h
    rw [← h]; exact h4 (i, g i) (mem_bk.2 ⟨h1, rfl⟩)
  · rw [if_neg h1] at h
    by_cases hk : ∃ q ∈ U, q.1 = i
    · obtain ⟨q', k1, k2, k3⟩ := upds_mem (m := Mem.of (A0 ++ bk (N, f))) hk
      rw [k3] at h
      rw [← k2]; exact h2 q' k1 o h
    · rw [upds_nokey fun q hq e => hk ⟨q, hq, e⟩] at h
      obtain ⟨q, k1, rfl, rfl⟩ := Mem.of_mem h
      rcases List.mem_append.1 k1 with k1 | k1
      · exact h3 q k1 fun r hr e => hk ⟨r, hr, e⟩
      · exact absurd (mem_bk.1 k1).1 h1
section
variable {P : Program} {rs : List ResultVar} {fr : List (Nat × AV)} {m : Mem} {c : Nat} {val : AV} {N : List Oid} {f g : Oid → AObj} {Rp : AV → List (Oid × Option AObj) → Prop}
theorem done_b0 (h1 : retM P m fr rs = some val) (h4 : ∀ q, q ∈ bk (N, g) → m q.1 = some q.2) : DoneN P rs (bk (N, f)) (fun v u => v = val ∧ u = sb N g) Rp .ret ⟨fr, m, c, []⟩ :=
  done_ret val _ h1 ⟨rfl, rfl⟩ (upd_blk (A0 := []) (U := []) (fun _ h => by cases h) (fun _ h => by cases h) h4)
end
/-! ### a contract in the words of a block -/
theorem CallOK.toBk {P : Program} [Laid P] {f : FuncId} {xs : List AV} {sp : Oid → Prop} {L0 : List (Oid × AObj)} {v : AV} {U : List (Oid × Option AObj)} {N : List Oid} {F G : Oid → AObj}
    (h : CallOK P f xs sp ⟨L0, v, U⟩) (hL : ∀ q, q ∈ L0 → q ∈ bk (N, F)) (hU : ∀ q, q ∈ U → q.1 ∈ N) (hf : ∀ i, i ∈ N → ((Mem.of (bk (N, F))).upds U) i = some (G i)) : CallOK P f xs sp ⟨bk (N, F), v, sb N G⟩ :=
  ⟨h.enters, fun x g args w m hm hn ha hs hx => by
    refine (h.calls x g args w m hm (fun q hq => hn q (hL q hq)) ha hs hx).mono fun en w' ⟨g', v', h1, h2, h3, h4, h5⟩ => ⟨g', v', h1, h2, h3, h4, ?_⟩
    have : m.upds U = m.upds (sb N G) := by
      funext i
      rw [upds_at]
      by_cases hi : i ∈ N
      · rw [if_pos hi, ← hf i hi]
        refine upds_congr ?_
        rw [hn (i, F i) (mem_bk.2 ⟨hi, rfl⟩)]
        have := of_bk N F [] i
        rw [List.append_nil, if_pos hi] at this
        exact this.symm
      · rw [if_neg hi, upds_nokey fun q hq (e : q.1 = i) => hi (e ▸ hU q hq)]
    simp only at h5 ⊢
    rw [← this]; exact h5⟩
def setF (F : Oid → AObj) (i : Oid) (o : AObj) : Oid → AObj := fun j => if j = i then o else F j
theorem setF_at (F : Oid → AObj) (i : Oid) (o : AObj) (j : Oid) : setF F i o j = if j = i then o else F j := rfl
theorem of_bk0 {N : List Oid} {F : Oid → AObj} {i : Oid} (h : i ∈ N) : Mem.of (bk (N, F)) i = some (F i) := by
  have := of_bk N F [] i
  rwa [List.append_nil, if_pos h] at this
theorem bk2 (F : Oid → AObj) (a b : Oid) : bk ([a, b], F) = [(a, F a), (b, F b)] := rfl
theorem bk6 (F : Oid → AObj) (a b c d e f : Oid) : bk ([a, b, c, d, e, f], F) = [(a, F a), (b, F b), (c, F c), (d, F d), (e, F e), (f, F f)] := rfl
theorem bk1 (F : Oid → AObj) (a : Oid) : bk ([a], F) = [(a, F a)] := rfl
/-- One object's contract as a block's. -/
theorem CallOK.one {P : Program} [Laid P] {f : FuncId} {xs : List AV} {sp : Oid → Prop} {r : Oid} {o o' : AObj} {v : AV} {F : Oid → AObj} (h : CallOK P f xs sp ⟨[(r, o)], v, [(r, some o')]⟩) (hF : F r = o) : CallOK P f xs sp ⟨bk ([r], F), v, sb [r] (setF F r o')⟩ := by
  refine h.toBk ?_ (fun q hq => by rw [List.mem_singleton.1 hq]; simp) fun i hi => ?_
  · rw [bk1, hF]; exact fun q hq => hq
  · rw [List.mem_singleton.1 hi]
    show ((Mem.of _).set r (some o')) r = _
    simp [Mem.set, setF]
/-- A block is exchanged for one with other names. -/
def sbx (N : List Oid) (f : Oid → AObj) : List (Oid × Option AObj) := sb N f
theorem CallOK.toBx {P : Program} [Laid P] {f : FuncId} {xs : List AV} {sp : Oid → Prop} {L0 : List (Oid × AObj)} {v : AV} {U : List (Oid × Option AObj)} {N N' : List Oid} {F G : Oid → AObj}
    (h : CallOK P f xs sp ⟨L0, v, U⟩) (hL : ∀ q, q ∈ L0 → q ∈ bk (N, F)) (hU : ∀ q, q ∈ U → q.1 ∈ N') (hN : ∀ i, i ∈ N' → i ∈ N ∨ ∃ q ∈ U, q.1 = i) (hf : ∀ i, i ∈ N' → ((Mem.of (bk (N, F))).upds U) i = some (G i)) : CallOK P f xs sp ⟨bk (N, F), v, sbx N' G⟩ :=
  ⟨h.enters, fun x g args w m hm hn ha hs hx => by
    refine (h.calls x g args w m hm (fun q hq => hn q (hL q hq)) ha hs hx).mono fun en w' ⟨g', v', h1, h2, h3, h4, h5⟩ => ⟨g', v', h1, h2, h3, h4, ?_⟩
    have : m.upds U = m.upds (sbx N' G) := by
      funext i
      unfold sbx
      rw [upds_at]
      by_cases hi : i ∈ N'
      · rw [if_pos hi, ← hf i hi]
        by_cases hk : ∃ q ∈ U, q.1 = i
        · exact upds_key hk
        · refine upds_congr ?_
          have hiN := (hN i hi).resolve_right hk
          rw [hn (i, F i) (mem_bk.2 ⟨hiN, rfl⟩), of_bk0 hiN]
      · rw [if_neg hi, upds_nokey fun q hq (e : q.1 = i) => hi (e ▸ hU q hq)]
    simp only at h5 ⊢
    rw [← this]; exact h5⟩
theorem blk_exch {A : List (Oid × AObj)} {N N' : List Oid} {F G : Oid → AObj} {Bs : List Bk} (hA : ∀ a ∈ A, a.1 ∉ N') (hB : ∀ B ∈ Bs, DJ N B.1) : ∀ i o, Mem.blk A ((N', G) :: Bs) i = some o → ((Mem.blk A ((N, F) :: Bs)).upds (sbx N' G)) i = some o := by
  intro i o h
  unfold sbx
  rw [upds_at]
  have hBs : ∀ Cs : List Bk, (∀ B ∈ Cs, DJ N B.1) → ∀ o, Mem.blk [] Cs i = some o → i ∉ N := by
    intro Cs
    induction Cs with
    | nil => intro _ o h; cases h
    | cons C Cs ih =>
      obtain ⟨M, E⟩ := C
      intro hC o h
      rw [blk_nil_at] at h
      split at h
      · rename_i hm; exact fun hi => hC (M, E) List.mem_cons_self i hi hm
      · exact ih (fun B hB => hC B (List.mem_cons_of_mem _ hB)) o h
  induction A with
  | nil =>
    rw [blk_nil_at] at h ⊢
    split at h
    · rename_i hi; rw [if_pos hi]; exact h
    · rename_i hi; rw [if_neg hi, if_neg (hBs Bs hB o h)]; exact h
  | cons a A ih =>
    rw [Mem.blk_at] at h ⊢
    split at h
    · rename_i e
      rw [if_neg (by rw [e]; exact hA a List.mem_cons_self), if_pos e]; exact h
    · rename_i e
      have := ih (fun a ha => hA a (List.mem_cons_of_mem _ ha)) h
      rw [if_neg e]; exact this
theorem K_exch {P : Program} [Laid P] {x : Ctx} {n : Nat} {a : Code} {Q : AX → AS → Prop} {fr : List (Nat × AV)} {c : Nat} {ds : List AD} {A : List (Oid × AObj)} {N N' : List Oid} {F G : Oid → AObj} {Bs : List Bk} (hA : ∀ a ∈ A, a.1 ∉ N') (hB : ∀ B ∈ Bs, DJ N B.1)
    (h : T P x n a ⟨fr, Mem.blk A ((N', G) :: Bs), c, ds⟩ Q) : T P x n a ⟨fr, (Mem.blk A ((N, F) :: Bs)).upds (sbx N' G), c, ds⟩ Q := K_drop _ (blk_exch hA hB) h
attribute [go_sem] Mem.blk_at blk_upd_nil blk_upd_some delB_nil delB_cons blk_sb0 blk_sb1 blk_sbV blk_sbS Mem.blk_cons need_0 need_S
end Go.Ab
namespace Go.Proofs.YtaecbmbecofijaaGreatDoor
open Go Go.Ab
/-- What is noted: what was there at Begin, the reads since, the places written. -/
structure Tr where
  old : PL
  R : RL
  W : WL
/-- A store's state. -/
structure St where
  L : PL
  t : Option Tr
def Tr.read (q : Tr) (f : Str × Bool) : Tr := { q with R := readR q.old q.W f q.R }
def Tr.put (q : Tr) (n : Str) : Tr := { q with W := putW true n q.W }
def St.read (s : St) (f : Str × Bool) : St := ⟨s.L, s.t.map fun q => q.read f⟩
def St.put (s : St) (n : Str) (b : Bits) : St := ⟨putP n b s.L, s.t.map fun q => q.put n⟩
def St.begin (s : St) : St := ⟨s.L, some ⟨s.L, [], []⟩⟩
/-- What is noted is in order, and small. -/
structure TOK (q : Tr) : Prop where
  so : SortG ltB q.old
  sr : SortG ltF q.R
  sw : SortG ltB q.W
  po : POk q.old
  no : PNat q.old
structure SOK (s : St) : Prop where
  sl : SortG ltB s.L
  po : POk s.L
  no : PNat s.L
  tr : ∀ q, s.t = some q → TOK q
theorem readR_sort {old : PL} {W : WL} {f : Str × Bool} {R : RL} (h : SortG ltF R) : SortG ltF (readR old W f R) := by
  unfold readR
  split
  · exact h
  · split
    · exact h
    · exact insG_sort ordF _ _ h
theorem readR_len {old : PL} {W : WL} {f : Str × Bool} {R : RL} (h : SortG ltF R) : (readR old W f R).length ≤ R.length + 1 := by
  unfold readR
  split
  · omega
  · split
    · omega
    · have := (insG_filter ordF f (some (valP old f)) h).length_eq
      rw [this, List.length_append]
      have := List.length_filter_le (fun q => decide (¬ q.1 = f)) R
      simp only [tipG, List.length_singleton]; omega
theorem putW_sort {tr : Bool} {n : Str} {W : WL} (h : SortG ltB W) : SortG ltB (putW tr n W) := by
  unfold putW
  split
  · exact h
  · split
    · exact insG_sort ordB _ _ h
    · exact h
theorem SOK.read {s : St} (h : SOK s) (f : Str × Bool) : SOK (s.read f) :=
  ⟨h.sl, h.po, h.no, fun q hq => by
    simp only [St.read, Option.map_eq_some_iff] at hq
    obtain ⟨a, h1, rfl⟩ := hq
    have k := h.tr a h1
    exact ⟨k.so, readR_sort k.sr, k.sw, k.po, k.no⟩⟩
/-! ### the store of the program -/
def StoP (st : Oid) (s : St) (N : List Oid) (F : Oid → AObj) : Prop := N.Nodup ∧ match s.t with
  | none => ∃ (t : Oid) (es : List ME) (clock : Nat), N = [st, t] ∧ F st = .cells [.map t, .nilPtr] ∧ F t = .map [.ss] false es clock ∧ MapP es s.L
  | some q => ∃ (t tr o rd wr : Oid) (es eso esr esw : List ME) (clock co cr cw : Nat), N = [st, t, tr, o, rd, wr] ∧ F st = .cells [.map t, .ptr tr 0] ∧ F t = .map [.ss] false es clock ∧ F tr = .cells [.map o, .map rd, .map wr] ∧
      F o = .map [.ss] false eso co ∧ F rd = .map [.ss, .sb] true esr cr ∧ F wr = .map [.ss] false esw cw ∧ MapP es s.L ∧ MapP eso q.old ∧ MapG keyF AV.str esr q.R ∧ MapG AV.str (fun _ : Unit => .bool true) esw q.W
theorem lookW_val {esw : List ME} {W : WL} (h : MapG AV.str (fun _ : Unit => .bool true) esw W) (n : Str) : valE (.str n) (.bool false) esw = .bool (lookG n W).isSome := by
  rw [mapG_val encS h]
  cases lookG n W <;> rfl
/-- What is noted of a read, in the map. -/
theorem readE_map {old : PL} {W : WL} {esr : List ME} {R : RL} (h : MapG keyF AV.str esr R) (hs : SortG ltF R) (n : Str) (f : Bool) (cr : Nat) :
    MapG keyF AV.str (readE f (lookG n W).isSome (lookG (n, f) R).isSome (keyF (n, f)) (.str (valP old (n, f))) esr cr).1 (readR old W (n, f) R) := by
  unfold readE readR
  by_cases h1 : f = false ∧ (lookG n W).isSome = true
  · rw [if_pos h1, if_pos (by rw [h1.1, h1.2]; rfl)]; exact h
  · rw [if_neg h1]
    by_cases h2 : (lookG (n, f) R).isSome = true
    · rw [if_pos h2, if_pos (by rw [h2, Bool.or_true])]; exact h
    · rw [if_neg h2, if_neg]
      · exact mapG_set encF h (n, f) (valP old (n, f)) cr ((insG_filter ordF (n, f) (some (valP old (n, f))) hs).trans (.refl _))
      · intro h3
        rw [Bool.or_eq_true, Bool.and_eq_true, Bool.not_eq_true'] at h3
        rcases h3 with h3 | h3
        · exact h1 h3
        · exact h2 h3
/-- What an operation that reads a facet makes of the block: nothing, or the map of what was read. -/
theorem read_blk {st : Oid} {s : St} {N : List Oid} {F : Oid → AObj} (h : StoP st s N F) (hs : SOK s) (g : Str × Bool) (f : FuncId) (xs : List AV) (v : AV)
    (h0 : ∀ (t : Oid) (es : List ME) (clock : Nat), s.t = none → ¬ t = st → MapP es s.L → ∀ p, p.mono = false → ¬ Oid.under p st → ¬ Oid.under p t → CallOK Tryz.prog f xs (Oid.under p) ⟨[(st, .cells [.map t, .nilPtr]), (t, .map [.ss] false es clock)], v, []⟩)
    (h1 : ∀ (q : Tr) (t tr o rd wr : Oid) (es eso esr esw : List ME) (clock co cr cw : Nat), s.t = some q → [wr, rd, o, tr, t, st].Nodup → MapP es s.L → MapP eso q.old → valE (.str g.1) (.bool false) esw = .bool (lookG g.1 q.W).isSome → hasE (keyF (g.1, g.2)) esr = (lookG (g.1, g.2) q.R).isSome →
      ∀ p, p.mono = false → (∀ i ∈ [st, t, tr, o, rd, wr], ¬ Oid.under p i) → CallOK Tryz.prog f xs (Oid.under p) ⟨[(st, .cells [.map t, .ptr tr 0]), (t, .map [.ss] false es clock), (tr, .cells [.map o, .map rd, .map wr]), (o, .map [.ss] false eso co), (rd, .map [.ss, .sb] true esr cr), (wr, .map [.ss] false esw cw)], v,
        [(rd, some (.map [.ss, .sb] true (readE g.2 (lookG g.1 q.W).isSome (lookG (g.1, g.2) q.R).isSome (keyF (g.1, g.2)) (.str (valP q.old (g.1, g.2))) esr cr).1 (readE g.2 (lookG g.1 q.W).isSome (lookG (g.1, g.2) q.R).isSome (keyF (g.1, g.2)) (.str (valP q.old (g.1, g.2))) esr cr).2))]⟩) :
    ∃ F', StoP st (s.read g) N F' ∧ ∀ p, p.mono = false → Old0 p N → CallOK Tryz.prog f xs (Oid.under p) ⟨bk (N, F), v, sb N F'⟩ := by
  obtain ⟨L, t0⟩ := s
  obtain ⟨hnd, h⟩ := h
  cases t0 with
  | none =>
    obtain ⟨t, es, clock, rfl, k1, k2, k3⟩ := h
    have hts : ¬ t = st := fun e => by simp [e] at hnd
    refine ⟨F, ⟨hnd, t, es, clock, rfl, k1, k2, k3⟩, fun p hp ho => ?_⟩
    refine (h0 t es clock rfl hts k3 p hp (ho _ (by simp)) (ho _ (by simp))).toBk ?_ (fun _ hq => by cases hq) fun i hi => of_bk0 hi
    rw [bk2, k1, k2]; exact fun q hq => hq
  | some q =>
    obtain ⟨t, tr, o, rd, wr, es, eso, esr, esw, clock, co, cr, cw, rfl, k1, k2, k3, k4, k5, k6, m1, m2, m3, m4⟩ := h
    have hT := hs.tr q rfl
    have hnd' : [wr, rd, o, tr, t, st].Nodup := (List.reverse_perm [st, t, tr, o, rd, wr]).nodup_iff.2 hnd
    have hc := h1 q t tr o rd wr es eso esr esw clock co cr cw rfl hnd' m1 m2 (lookW_val m4 g.1) (mapG_has encF m3 (g.1, g.2))
    have hme := readE_map (old := q.old) (W := q.W) m3 hT.sr g.1 g.2 cr
    generalize (readE g.2 (lookG g.1 q.W).isSome (lookG (g.1, g.2) q.R).isSome (keyF (g.1, g.2)) (.str (valP q.old (g.1, g.2))) esr cr).1 = E1 at hc hme
    generalize (readE g.2 (lookG g.1 q.W).isSome (lookG (g.1, g.2) q.R).isSome (keyF (g.1, g.2)) (.str (valP q.old (g.1, g.2))) esr cr).2 = C1 at hc
    have hn0 := hnd
    simp only [List.nodup_cons, List.mem_cons, List.not_mem_nil, or_false, not_or] at hn0
    obtain ⟨⟨n1, n2, n3, n4, n5⟩, ⟨n6, n7, n8, n9⟩, ⟨n10, n11, n12⟩, ⟨n13, n14⟩, n15, _⟩ := hn0
    refine ⟨setF F rd (.map [.ss, .sb] true E1 C1), ⟨hnd, t, tr, o, rd, wr, es, eso, E1, esw, clock, co, C1, cw, rfl, ?_, ?_, ?_, ?_, ?_, ?_, m1, m2, hme, m4⟩, fun p hp ho => ?_⟩
    · rw [setF_at, if_neg n4]; exact k1
    · rw [setF_at, if_neg n8]; exact k2
    · rw [setF_at, if_neg n11]; exact k3
    · rw [setF_at, if_neg n13]; exact k4
    · rw [setF_at, if_pos rfl]
    · rw [setF_at, if_neg fun e => n15 e.symm]; exact k6
    · refine (hc p hp ho).toBk ?_ (fun q hq => by rw [List.mem_singleton.1 hq]; simp) fun i hi => ?_
      · rw [bk6, k1, k2, k3, k4, k5, k6]; exact fun q hq => hq
      · show ((Mem.of _).set rd (some (.map [.ss, .sb] true E1 C1))) i = _
        simp only [Mem.set, setF_at]
        split
        · rfl
        · exact of_bk0 hi
theorem atP_ok {st : Oid} {s : St} {N : List Oid} {F : Oid → AObj} (h : StoP st s N F) (hs : SOK s) (n : Str) (hn : n.length ≤ 140737488355000) :
    ∃ F', StoP st (s.read (n, false)) N F' ∧ ∀ p, p.mono = false → Old0 p N → CallOK Tryz.prog 24 [.ptr st 0, .str n] (Oid.under p) ⟨bk (N, F), (getP s.L n).av, sb N F'⟩ :=
  read_blk h hs (n, false) _ _ _
    (fun t es clock _ hts hm p _ h1 h2 => storeAt_ok st t es clock hts p h1 h2 n ((lookG n s.L).getD Bits.no) (mapP_val hm n))
    (fun q t tr o rd wr es eso esr esw clock co cr cw hq hn' hm hmo hw hh p hp hu => atT_ok st t tr o rd wr hn' es eso esr esw clock co cr cw q.old s.L hmo (hs.tr q hq).so (hs.tr q hq).po hm n hn _ _ hw hh p hp hu)
theorem namesP_ok {st : Oid} {s : St} {N : List Oid} {F : Oid → AObj} (h : StoP st s N F) (hs : SOK s) (n : Str) (hn : n.length ≤ 140737488355000) :
    ∃ F', StoP st (s.read (n, true)) N F' ∧ ∀ p, p.mono = false → Old0 p N → CallOK Tryz.prog 25 [.ptr st 0, .str n] (Oid.under p) ⟨bk (N, F), .list 1 ((namesP s.L n).map AV.str), sb N F'⟩ :=
  read_blk h hs (n, true) _ _ _
    (fun t es clock _ hts hm p _ h1 h2 => by
      have := storeNames_ok st t es clock hts p h1 h2 n hn (fun e he => Nat.le_trans (mapP_key hm hs.po e he) (by decide)) (by have := hs.po.len; rw [mapP_len hm]; omega)
      rwa [namesE_eq hm hs.sl] at this)
    (fun q t tr o rd wr es eso esr esw clock co cr cw hq hn' hm hmo hw hh p hp hu => namesT_ok st t tr o rd wr hn' es eso esr esw clock co cr cw q.old s.L hmo (hs.tr q hq).so (hs.tr q hq).po hm hs.sl hs.po n hn _ _ hw hh p hp hu)
end Go.Proofs.YtaecbmbecofijaaGreatDoor
namespace Go.Proofs.YtaecbmbecofijaaGreatDoor
open Go Go.Ab
set_option maxRecDepth 20000
set_option maxHeartbeats 4000000
theorem atR_of (r : Oid) (L : PL) (hL : L.length ≤ 1000000) (n : Str) (o1 r1 w1 b1 o2 r2 w2 b2 : AV) (hT : ∀ p, ¬ Oid.under p r → CallOK Tryz.prog 105 [.ptr r 0, .str n, .bool false] (Oid.under p) ⟨[(r, .cells [.list 4 (L.map pairAV), o1, r1, w1, b1])], .tuple [], [(r, some (.cells [.list 4 (L.map pairAV), o2, r2, w2, b2]))]⟩)
    (p : Oid) (hr : ¬ Oid.under p r) : CallOK Tryz.prog 58 [.ptr r 0, .str n] (Oid.under p) ⟨[(r, .cells [.list 4 (L.map pairAV), o1, r1, w1, b1])], (getP L n).av, [(r, some (.cells [.list 4 (L.map pairAV), o2, r2, w2, b2]))]⟩ := by
  have hr' : ∀ c i, ¬ Oid.under (.sub c i p) r := fun c i h => hr (Oid.under_sub h)
  have hg := fun p => get_ok L (by omega) n p
  generalize getP L n = B at hg ⊢
  simp only [Bits.av] at hg ⊢
  refine fnOK (n := 14) (rs := [.cell 4 37]) Tryz.func58 rfl rfl (by decide) rfl rfl rfl ?_; rintro x rfl hrd hng
  (repeat (first | (refine K_ifT rfl rfl ?_) | (refine K_ifF rfl rfl ?_) | (refine K_ev nmd [] hng (by kernel_rfl) fun hf C S K hC1 hC hS hK => ?_; simp (disch := first | omega | assumption) only [go_sem, Oid.not_under_sub hr, Oid.sub_not_under hr]; (repeat ((first | refine hC1 _ (hT _ (hr' _ _)) (by simp (disch := first | omega | assumption) only [go_sem]) ?_ | refine hC1 _ (hg _) (by simp (disch := first | omega | assumption) only [go_sem]) ?_); simp (disch := first | omega | assumption) only [go_sem])); refine hK ?_; clear hK hS hC hC1 K S C hf) | ((first | refine zn ?_ | refine ze ?_ | refine zk ?_); with_reducible (constructor; repeat constructor); try refine zl ?_)))
  refine K_ret (done_upd (by simp (disch := first | omega | assumption) only [go_sem, Oid.not_under_sub hr, Oid.sub_not_under hr]) ?_ ?_)
  all_goals simp only [List.mem_cons, List.not_mem_nil, or_false, forall_eq_or_imp, forall_eq, Option.some.injEq, forall_eq', Mem.of_cons_at, eq_self, if_true, ↓reduceIte, reduceCtorEq, implies_true, not_true_eq_false, false_imp_iff, true_and, and_true, false_and, and_false, imp_self, Oid.not_under_sub hr, Oid.sub_not_under hr]
theorem namesR_of (r : Oid) (L : PL) (hL : POk L) (n : Str) (hn : n.length ≤ 140737488355000) (o1 r1 w1 b1 o2 r2 w2 b2 : AV) (hT : ∀ p, ¬ Oid.under p r → CallOK Tryz.prog 105 [.ptr r 0, .str n, .bool true] (Oid.under p) ⟨[(r, .cells [.list 4 (L.map pairAV), o1, r1, w1, b1])], .tuple [], [(r, some (.cells [.list 4 (L.map pairAV), o2, r2, w2, b2]))]⟩)
    (p : Oid) (hr : ¬ Oid.under p r) : CallOK Tryz.prog 59 [.ptr r 0, .str n] (Oid.under p) ⟨[(r, .cells [.list 4 (L.map pairAV), o1, r1, w1, b1])], .list 1 ((namesP L n).map AV.str), [(r, some (.cells [.list 4 (L.map pairAV), o2, r2, w2, b2]))]⟩ := by
  have hr' : ∀ c i, ¬ Oid.under (.sub c i p) r := fun c i h => hr (Oid.under_sub h)
  have hg := fun p => namesR_ok L hL n hn p
  generalize namesP L n = B at hg ⊢
  refine fnOK (n := 14) (rs := [.tmp 4]) Tryz.func59 rfl rfl (by decide) rfl rfl rfl ?_; rintro x rfl hrd hng
  (repeat (first | (refine K_ifT rfl rfl ?_) | (refine K_ifF rfl rfl ?_) | (refine K_ev nmd [] hng (by kernel_rfl) fun hf C S K hC1 hC hS hK => ?_; simp (disch := first | omega | assumption) only [go_sem, Oid.not_under_sub hr, Oid.sub_not_under hr]; (repeat ((first | refine hC1 _ (hT _ (hr' _ _)) (by simp (disch := first | omega | assumption) only [go_sem]) ?_ | refine hC1 _ (hg _) (by simp (disch := first | omega | assumption) only [go_sem]) ?_); simp (disch := first | omega | assumption) only [go_sem])); refine hK ?_; clear hK hS hC hC1 K S C hf) | ((first | refine zn ?_ | refine ze ?_ | refine zk ?_); with_reducible (constructor; repeat constructor); try refine zl ?_)))
  refine K_ret (done_upd (by simp (disch := first | omega | assumption) only [go_sem, Oid.not_under_sub hr, Oid.sub_not_under hr]) ?_ ?_)
  all_goals simp only [List.mem_cons, List.not_mem_nil, or_false, forall_eq_or_imp, forall_eq, Option.some.injEq, forall_eq', Mem.of_cons_at, eq_self, if_true, ↓reduceIte, reduceCtorEq, implies_true, not_true_eq_false, false_imp_iff, true_and, and_true, false_and, and_false, imp_self, Oid.not_under_sub hr, Oid.sub_not_under hr]
/-! the store of the reference, a block -/
def StoR (r : Oid) (s : St) (N : List Oid) (F : Oid → AObj) : Prop := N = [r] ∧ match s.t with
  | none => ∃ OO : AV, F r = .cells [.list 4 (s.L.map pairAV), OO, .list 3 [], .list 1 [], .bool false]
  | some q => F r = .cells [.list 4 (s.L.map pairAV), .list 4 (q.old.map pairAV), .list 3 (q.R.map tchAV), .list 1 (q.W.map fun w => .str w.1), .bool true]
theorem touch_blk {r : Oid} {s : St} {N : List Oid} {F : Oid → AObj} (h : StoR r s N F) (hs : SOK s) (hR : ∀ q, s.t = some q → q.R.length ≤ 1000000 ∧ q.W.length ≤ 1000000) (g : Str × Bool) (hn : g.1.length ≤ 140737488355000) (f : FuncId) (xs : List AV) (v : AV)
    (h0 : ∀ (o1 r1 w1 b1 o2 r2 w2 b2 : AV), (∀ p, ¬ Oid.under p r → CallOK Tryz.prog 105 [.ptr r 0, .str g.1, .bool g.2] (Oid.under p) ⟨[(r, .cells [.list 4 (s.L.map pairAV), o1, r1, w1, b1])], .tuple [], [(r, some (.cells [.list 4 (s.L.map pairAV), o2, r2, w2, b2]))]⟩) →
      ∀ p, ¬ Oid.under p r → CallOK Tryz.prog f xs (Oid.under p) ⟨[(r, .cells [.list 4 (s.L.map pairAV), o1, r1, w1, b1])], v, [(r, some (.cells [.list 4 (s.L.map pairAV), o2, r2, w2, b2]))]⟩) :
    ∃ F', StoR r (s.read g) N F' ∧ ∀ p, p.mono = false → Old0 p N → CallOK Tryz.prog f xs (Oid.under p) ⟨bk (N, F), v, sb N F'⟩ := by
  obtain ⟨L, t0⟩ := s
  obtain ⟨rfl, h⟩ := h
  cases t0 with
  | none =>
    obtain ⟨OO, hF⟩ := h
    refine ⟨setF F r (.cells [.list 4 (L.map pairAV), OO, .list 3 [], .list 1 [], .bool false]), ⟨rfl, OO, by rw [setF_at, if_pos rfl]; rfl⟩, fun p _ ho => ?_⟩
    exact (h0 OO (.list 3 []) (.list 1 []) (.bool false) OO (.list 3 []) (.list 1 []) (.bool false) (fun p hp => callOK_keep (touch0_ok r L OO (.list 3 []) (.list 1 []) g.1 g.2 p hp) (by simp)) p (ho r (by simp))).one hF
  | some q =>
    have hT := hs.tr q rfl
    obtain ⟨hR1, hW1⟩ := hR q rfl
    refine ⟨setF F r (.cells [.list 4 (L.map pairAV), .list 4 (q.old.map pairAV), .list 3 ((readR q.old q.W g q.R).map tchAV), .list 1 (q.W.map fun w => .str w.1), .bool true]), ⟨rfl, by rw [setF_at, if_pos rfl]; rfl⟩, fun p _ ho => ?_⟩
    exact (h0 _ _ _ _ _ _ _ _ (fun p hp => touchR_ok r (.list 4 (L.map pairAV)) q.old hT.po hT.no q.R hR1 hT.sr q.W hW1 g.1 hn g.2 p hp) p (ho r (by simp))).one h
theorem atR_ok {r : Oid} {s : St} {N : List Oid} {F : Oid → AObj} (h : StoR r s N F) (hs : SOK s) (hR : ∀ q, s.t = some q → q.R.length ≤ 1000000 ∧ q.W.length ≤ 1000000) (n : Str) (hn : n.length ≤ 140737488355000) :
    ∃ F', StoR r (s.read (n, false)) N F' ∧ ∀ p, p.mono = false → Old0 p N → CallOK Tryz.prog 58 [.ptr r 0, .str n] (Oid.under p) ⟨bk (N, F), (getP s.L n).av, sb N F'⟩ :=
  touch_blk h hs hR (n, false) hn _ _ _ fun o1 r1 w1 b1 o2 r2 w2 b2 hT p hp => atR_of r s.L hs.po.len n o1 r1 w1 b1 o2 r2 w2 b2 hT p hp
theorem namesRt_ok {r : Oid} {s : St} {N : List Oid} {F : Oid → AObj} (h : StoR r s N F) (hs : SOK s) (hR : ∀ q, s.t = some q → q.R.length ≤ 1000000 ∧ q.W.length ≤ 1000000) (n : Str) (hn : n.length ≤ 140737488355000) :
    ∃ F', StoR r (s.read (n, true)) N F' ∧ ∀ p, p.mono = false → Old0 p N → CallOK Tryz.prog 59 [.ptr r 0, .str n] (Oid.under p) ⟨bk (N, F), .list 1 ((namesP s.L n).map AV.str), sb N F'⟩ :=
  touch_blk h hs hR (n, true) hn _ _ _ fun o1 r1 w1 b1 o2 r2 w2 b2 hT p hp => namesR_of r s.L hs.po n hn o1 r1 w1 b1 o2 r2 w2 b2 hT p hp
end Go.Proofs.YtaecbmbecofijaaGreatDoor
namespace Go.Proofs.YtaecbmbecofijaaGreatDoor
open Go Go.Ab
theorem putW_len {n : Str} {W : WL} (h : SortG ltB W) : (putW true n W).length ≤ W.length + 1 := by
  unfold putW
  split
  · omega
  · rw [if_pos rfl]
    have := (insG_filter ordB n (some ()) h).length_eq
    rw [this, List.length_append]
    have := List.length_filter_le (fun q => decide (¬ q.1 = n)) W
    simp only [tipG, List.length_singleton]; omega
theorem SOK.put {s : St} (h : SOK s) (n : Str) (b : Bits) (hl : s.L.length < 1000000) (hn : n.length ≤ 1000000) (hb : b.ok) (hb2 : 0 ≤ b.k ∧ 0 ≤ b.m) : SOK (s.put n b) :=
  ⟨putP_sort h.sl n b, ⟨Nat.le_trans (putP_len n b s.L) hl, fun q hq => by
      rcases putP_mem hq with rfl | hq
      · exact hn
      · exact h.po.key q hq, fun q hq => by
      rcases putP_mem hq with rfl | hq
      · exact hb
      · exact h.po.val q hq⟩, fun q hq => by
      rcases putP_mem hq with rfl | hq
      · exact hb2
      · exact h.no q hq, fun q hq => by
    simp only [St.put, Option.map_eq_some_iff] at hq
    obtain ⟨a, h1, rfl⟩ := hq
    have k := h.tr a h1
    exact ⟨k.so, k.sr, putW_sort k.sw, k.po, k.no⟩⟩
theorem putWE_map {esw : List ME} {W : WL} (h : MapG AV.str (fun _ : Unit => .bool true) esw W) (hs : SortG ltB W) (n : Str) (cw : Nat) : MapG AV.str (fun _ : Unit => .bool true) (putWE n esw cw).1 (putW true n W) := by
  unfold putWE putW
  split
  · exact h
  · rw [if_pos rfl]
    exact mapG_set encS h n () cw ((insG_filter ordB n (some ()) hs).trans (.refl _))
theorem putP_ok {st : Oid} {s : St} {N : List Oid} {F : Oid → AObj} (h : StoP st s N F) (hs : SOK s) (n : Str) (b : Bits) :
    ∃ F', StoP st (s.put n b) N F' ∧ ∀ p, p.mono = false → Old0 p N → CallOK Tryz.prog 19 [.ptr st 0, .str n, b.av] (Oid.under p) ⟨bk (N, F), .tuple [], sb N F'⟩ := by
  obtain ⟨L, t0⟩ := s
  obtain ⟨hnd, h⟩ := h
  cases t0 with
  | none =>
    obtain ⟨t, es, clock, rfl, k1, k2, k3⟩ := h
    have hts : ¬ t = st := fun e => by simp [e] at hnd
    refine ⟨setF F t (.map [.ss] false (putE n b es clock) (putC n b es clock)), ⟨hnd, t, _, putC n b es clock, rfl, ?_, ?_, mapP_put k3 hs.sl n b clock⟩, fun p hp ho => ?_⟩
    · rw [setF_at, if_neg fun e => hts e.symm]; exact k1
    · rw [setF_at, if_pos rfl]
    · refine (put_ok st t es clock hts p (ho _ (by simp)) (ho _ (by simp)) n b).toBk ?_ (fun q hq => by rw [List.mem_singleton.1 hq]; simp) fun i hi => ?_
      · rw [bk2, k1, k2]; exact fun q hq => hq
      · show ((Mem.of _).set t (some _)) i = _
        simp only [Mem.set, setF_at]
        split
        · rfl
        · exact of_bk0 hi
  | some q =>
    obtain ⟨t, tr, o, rd, wr, es, eso, esr, esw, clock, co, cr, cw, rfl, k1, k2, k3, k4, k5, k6, m1, m2, m3, m4⟩ := h
    have hT := hs.tr q rfl
    have hnd' : [wr, rd, o, tr, t, st].Nodup := (List.reverse_perm [st, t, tr, o, rd, wr]).nodup_iff.2 hnd
    have hn0 := hnd
    simp only [List.nodup_cons, List.mem_cons, List.not_mem_nil, or_false, not_or] at hn0
    obtain ⟨⟨n1, n2, n3, n4, n5⟩, ⟨n6, n7, n8, n9⟩, ⟨n10, n11, n12⟩, ⟨n13, n14⟩, n15, _⟩ := hn0
    refine ⟨setF (setF F t (.map [.ss] false (putE n b es clock) (putC n b es clock))) wr (.map [.ss] false (putWE n esw cw).1 (putWE n esw cw).2), ⟨hnd, t, tr, o, rd, wr, _, eso, esr, _, putC n b es clock, co, cr, (putWE n esw cw).2, rfl, ?_, ?_, ?_, ?_, ?_, ?_, mapP_put m1 hs.sl n b clock, m2, m3, putWE_map m4 hT.sw n cw⟩, fun p hp ho => ?_⟩
    · rw [setF_at, if_neg n5, setF_at, if_neg n1]; exact k1
    · rw [setF_at, if_neg n9, setF_at, if_pos rfl]
    · rw [setF_at, if_neg n12, setF_at, if_neg fun e => n6 e.symm]; exact k3
    · rw [setF_at, if_neg n14, setF_at, if_neg fun e => n7 e.symm]; exact k4
    · rw [setF_at, if_neg n15, setF_at, if_neg fun e => n8 e.symm]; exact k5
    · rw [setF_at, if_pos rfl]
    · refine (putT_ok st t tr o rd wr hnd' es eso esr esw clock co cr cw n b p hp ho).toBk ?_ (fun q hq => by
        simp only [List.mem_cons, List.not_mem_nil, or_false] at hq
        rcases hq with rfl | rfl <;> simp) fun i hi => ?_
      · rw [bk6, k1, k2, k3, k4, k5, k6]; exact fun q hq => hq
      · show (((Mem.of _).set t (some _)).set wr (some _)) i = _
        simp only [Mem.set, setF_at]
        split
        · rfl
        · split
          · rfl
          · exact of_bk0 hi
theorem putRb_ok {r : Oid} {s : St} {N : List Oid} {F : Oid → AObj} (h : StoR r s N F) (hs : SOK s) (hR : ∀ q, s.t = some q → q.R.length ≤ 1000000 ∧ q.W.length ≤ 1000000) (n : Str) (b : Bits) :
    ∃ F', StoR r (s.put n b) N F' ∧ ∀ p, p.mono = false → Old0 p N → CallOK Tryz.prog 42 [.ptr r 0, .str n, b.av] (Oid.under p) ⟨bk (N, F), .tuple [], sb N F'⟩ := by
  obtain ⟨L, t0⟩ := s
  obtain ⟨rfl, h⟩ := h
  cases t0 with
  | none =>
    obtain ⟨OO, hF⟩ := h
    have hw : putW false n [] = [] := by unfold putW; split <;> rfl
    refine ⟨setF F r (.cells [.list 4 ((putP n b L).map pairAV), OO, .list 3 [], .list 1 [], .bool false]), ⟨rfl, OO, by rw [setF_at, if_pos rfl]; rfl⟩, fun p _ ho => ?_⟩
    have := putR_ok r OO (.list 3 []) L hs.po.len [] (by simp) List.Pairwise.nil false n b p (ho r (by simp))
    rw [hw] at this
    exact CallOK.one this hF
  | some q =>
    have hT := hs.tr q rfl
    obtain ⟨hR1, hW1⟩ := hR q rfl
    refine ⟨setF F r (.cells [.list 4 ((putP n b L).map pairAV), .list 4 (q.old.map pairAV), .list 3 (q.R.map tchAV), .list 1 ((putW true n q.W).map fun w => .str w.1), .bool true]), ⟨rfl, by rw [setF_at, if_pos rfl]; rfl⟩, fun p _ ho => ?_⟩
    exact CallOK.one (putR_ok r _ _ L hs.po.len q.W hW1 hT.sw true n b p (ho r (by simp))) h
end Go.Proofs.YtaecbmbecofijaaGreatDoor
namespace Go.Ab
open Go.Proofs Go.Shelf Go.Sort
/-- A world without objects: what was fixed for good is still there. -/
theorem MemRel.bare {x : Ctx} {g : Gh} {m : Mem} {w W : World} {p : Oid} (h : MemRel x g m w) (hcom : ∀ b o v, g.com b o = some v → W.cell? ⟨b, o, none⟩ = some v)
    (hrow : ∀ b r, g.row b = some r → ∃ c t fz, W.heap[b]? = some (.cells c t fz) ∧ c.size = r) (htyp : ∀ (b : Nat) (c : Array Value) (t : TypeId) (fz : Nat × Nat), w.heap[b]? = some (Obj.cells c t fz) → ∃ c' fz', W.heap[b]? = some (Obj.cells c' t fz')) : MemRel { ng := x.ng, g0 := g, w0 := W, may0 := fun _ => False, p := p, rd := none } g Mem.emp W :=
  ⟨Gh.le_refl g, fun _ _ => rfl, h.glob, fun _ _ _ hv => .inl hv, fun _ _ hi => (by cases hi), fun _ _ _ _ _ hi => (by cases hi), hcom, h.one, hrow, rfl, rfl, ⟨rfl, fun _ => Nat.le_refl _⟩, Nat.le_refl _, fun _ _ _ => rfl, fun t q b hb => let ⟨c, fz, h1⟩ := h.typs t q b hb; htyp b c t fz h1⟩
/-- Nothing old may be written: the world has grown. -/
theorem MemRel.grown {x : Ctx} {g : Gh} {m : Mem} {w : World} (h : MemRel x g m w) (hm : ∀ b, ¬ x.may0 b) (hp : x.p.mono = true) : ∃ q os, w = grow (x.w0.drewN q) os := by
  refine ⟨w.drawn - x.w0.drawn, w.heap.extract x.w0.heap.size w.heap.size, ?_⟩
  have hh : w.heap = x.w0.heap ++ w.heap.extract x.w0.heap.size w.heap.size := by
    apply Array.ext_getElem?
    intro b
    rw [Array.getElem?_append]
    split
    · rename_i hb; exact h.kept b hb (hm b)
    · rename_i hb
      rw [Array.getElem?_extract]
      by_cases hb' : b < w.heap.size
      · rw [if_pos (by omega), show x.w0.heap.size + (b - x.w0.heap.size) = b by omega]
      · rw [if_neg (by omega), Array.getElem?_eq_none (by omega)]
  have hd := h.output.2 hp
  obtain ⟨heap, tape, drawn, os, output⟩ := w
  simp only [grow, World.drewN] at hh hd ⊢
  have h1 := h.os; have h2 := h.tape; have h3 := h.output.1
  simp only at h1 h2 h3
  rw [← hh, ← h1, ← h2, ← h3]
  congr 1
  omega
section
variable {α : Type} [Inhabited α] (enc : α → List Value) (k : Nat)
theorem sw_other {w : World} {b m : Nat} {dk : Array α} {os : Array Obj} {b' : Nat} (hb : b' ≠ b) (hlt : b' < w.heap.size) : (sortWorldK enc k w b 0 m dk os).heap[b']? = w.heap[b']? := by
  unfold sortWorldK putRowK putRow mapBlock
  rw [heap_grow_old _ _ (by simpa [ahead] using hlt)]
  simp [Array.getElem?_modify, Ne.symm hb, ahead]
theorem sw_same {w : World} {b m : Nat} {dk : Array α} {os : Array Obj} {c : Array Value} {t : TypeId} {fz : Nat × Nat} (hb : w.heap[b]? = some (.cells c t fz)) :
    (sortWorldK enc k w b 0 m dk os).heap[b]? = some (.cells (putCells id 0 (flatK enc k dk) c) t fz) := by
  have hlt := (Array.getElem?_eq_some_iff.1 hb).1
  unfold sortWorldK putRowK putRow mapBlock
  rw [heap_grow_old _ _ (by simpa [ahead] using hlt)]
  simp [Array.getElem?_modify, hb, ahead, onCells]
theorem putCells_size (d : Array Value) (c : Array Value) : (putCells id 0 d c).size = c.size := by simp [putCells]
theorem sw_size {w : World} {b m : Nat} {dk : Array α} {os : Array Obj} : w.heap.size ≤ (sortWorldK enc k w b 0 m dk os).heap.size := size_sortWorldK_c enc k w b 0 m dk os
end
theorem sort_ok {P : Program} [Laid P] {ρ : Ren} (L : SlLaysF0.n6 P ρ) {α : Type} [Inhabited α] (k : Nat) (aE : ∀ w, (isAgg (ρ.t 24)).run P w = .ok true w) (zE : ∀ w, (Go.sizeOf (ρ.t 24)).run P w = .ok k w)
    (enc : α → List Value) (av : α → AV) (hk : ∀ x, (enc x).length = k) (h1 : ∀ x, ∀ v ∈ enc x, v.oneCell' = true) (hcl : ∀ x, (av x).cells.length = k) (hagg : ∀ g x, VR g (av x) (.agg (enc x).toArray))
    (henc : ∀ g x j v, j < k → (VR g ((av x).cells.getD j .undef) v ↔ v = (enc x).getD j undef)) (cf : α → α → Int) (hO : SWO (ltOf cf)) (gf : Nat)
    (hg : ∀ x y p, CallOK P gf [av x, av y] (Oid.under p) ⟨[], .int .i64 (cf x y), []⟩) (l : List α) (hl : ¬ l = []) (hsz : l.length < 4611686018427387904) (rid p : Oid) (he : entersB P (ρ.f 6) = true) :
    CallND P (ρ.f 6) [.sl rid k l.length, .fn (.func gf) [] []] (Oid.under p) [(rid, .arr k (l.map av))] (fun v u => v = .tuple [] ∧ ∃ l' : List α, l'.Perm l ∧ l'.Pairwise (fun x y => ltOf cf y x = false) ∧ u = [(rid, some (.arr k (l'.map av)))]) (fun _ _ => False) := by
  refine ⟨he, fun x g args w m hm hn hargs hsp hng => ?_⟩
  have hmi := hn _ List.mem_cons_self
  simp only at hmi
  have a0 := hargs.2 0 (by simp)
  have a1 := hargs.2 1 (by simp)
  simp only [List.getD_cons_zero, List.getD_cons_succ] at a0 a1
  have hne : l.length ≠ 0 := fun e => hl (List.eq_nil_of_length_eq_zero e)
  obtain ⟨b, cap, e0, hloc, hcap, hrow⟩ := a0.sl_inv'.resolve_left fun h => hne h.1
  obtain ⟨fa, fb, e1, s1, s2, _, _⟩ := a1.fn_inv
  have f1 : fa = #[] := Array.eq_empty_of_size_eq_zero (by simpa using s1)
  have f2 : fb = #[] := Array.eq_empty_of_size_eq_zero (by simpa using s2)
  subst f1; subst f2
  have eargs : args = #[.slice (some ⟨b, 0, none⟩) l.toArray.size cap, .func (.func gf) #[] #[]] := by
    apply Array.ext
    · rw [hargs.1]; rfl
    · intro i h2 h3
      have hi : i < 2 := h3
      rcases i with _ | _ | i
      · simpa [Array.getD_eq_getD_getElem?, h2] using e0
      · simpa [Array.getD_eq_getD_getElem?, h2] using e1
      · omega
  obtain ⟨b0, hb0, hcom, hmay, hobj⟩ := hm.objL hmi hloc
  rw [hloc] at hb0; simp only [Option.some.injEq] at hb0; subst hb0
  obtain ⟨c, t, fz, hh, hcs, hfz, hxl, hone, hv⟩ := hobj
  have hlt := (Array.getElem?_eq_some_iff.1 hh).1
  simp only [List.length_map] at hcs hxl hone hv
  have hcell : ∀ i j, i < l.length → j < k → c.getD (i * k + j) undef = (enc (l.getD i default)).getD j undef := fun i j hi hj => by
    have := hv i j hi hj
    rw [getD_map_in av hi] at this
    exact (henc g _ j _ hj).1 this
  have hH : HoldsK enc k w b 0 l.toArray := by
    intro j hj
    rw [size_flatK] at hj
    have hj' : j < l.length * k := by simpa using hj
    have hk0 : 0 < k := Nat.pos_of_ne_zero fun e => by subst e; simp at hj'
    have hi : j / k < l.length := (Nat.div_lt_iff_lt_mul hk0).2 hj'
    have hjc : j < c.size := by omega
    constructor
    · rw [get_flatK _ _ _ _ hj]
      have h3 := hcell (j / k) (j % k) hi (Nat.mod_lt _ hk0)
      have h4 : j / k * k + j % k = j := Nat.div_add_mod' j k
      rw [h4] at h3
      simp only [World.cell?, hh, Nat.zero_add, Option.isSome_none, Bool.false_eq_true, if_false, Array.getElem?_eq_getElem hjc, Option.some.injEq, id_eq]
      rw [Array.getD_eq_getD_getElem?, Array.getElem?_eq_getElem hjc, Option.getD_some] at h3
      rw [h3]
      have h5 : l.toArray[j / k]! = l.getD (j / k) default := by simp [List.getElem?_eq_getElem hi, hi]
      rw [h5]
      have h6 : j % k < (enc (l.getD (j / k) default)).length := by rw [hk]; exact Nat.mod_lt _ hk0
      rw [getElem!_pos (enc (l.getD (j / k) default)) (j % k) h6, List.getD_eq_getElem?_getD, List.getElem?_eq_getElem h6, Option.getD_some]
    · simp only [World.frozen?, hh, Nat.zero_add]
      have := hfz j hjc
      by_cases h : fz.1 ≤ j
      · have : ¬ j < fz.2 := fun h' => this ⟨h, h'⟩
        simp [this]
      · simp [h]
  have hcmp : CmpLays P gf #[] enc k cf b 0 l.toArray.size w := by
    intro mm os dk hs u v
    have hb := hm.bare (W := sortWorldK enc k w b 0 mm dk os) (p := .sub 0 999983 p) (fun b' o v hv => ?_) (fun b' r hr => ?_) (fun b' c9 t9 fz9 h9 => ?_)
    · have hc := (hg u v (.sub 0 999983 p)).calls _ g #[.agg (enc u).toArray, .agg (enc v).toArray] _ _ hb (fun q hq => by cases hq) ⟨rfl, fun j hj => ?_⟩ (fun i hi => ⟨(hsp i (Oid.under_sub hi)).1, hi⟩) (hng.inner rfl hm.le)
      · refine hc.mono fun en w' ⟨g', v', h2, h3, h4, h5, h6⟩ => ⟨by rw [h2, h5.int_inv], ?_⟩
        exact h6.grown (fun _ h => h) (by simp [Oid.mono_sub])
      · rcases j with _ | _ | j
        · exact hagg g u
        · exact hagg g v
        · exact absurd hj (by simp)
    · have hb' : b' ≠ b := fun e => by subst e; rw [hcom o] at hv; cases hv
      have h2 := hm.com b' o v hv
      have h3 : b' < w.heap.size := by
        rcases Nat.lt_or_ge b' w.heap.size with h | h
        · exact h
        · simp [World.cell?, Array.getElem?_eq_none h] at h2
      simp only [World.cell?] at h2 ⊢
      rw [sw_other enc k hb' h3]; exact h2
    · obtain ⟨c', t', fz', h2, h3⟩ := hm.rows b' r hr
      by_cases hb' : b' = b
      · subst hb'; exact ⟨_, _, _, sw_same enc k h2, by rw [putCells_size]; exact h3⟩
      · exact ⟨c', t', fz', by rw [sw_other enc k hb' (Array.getElem?_eq_some_iff.1 h2).1]; exact h2, h3⟩
    · by_cases hb' : b' = b
      · subst hb'; exact ⟨_, _, sw_same enc k h9⟩
      · exact ⟨c9, fz9, by rw [sw_other enc k hb' (Array.getElem?_eq_some_iff.1 h9).1]; exact h9⟩
  have eg : ∀ args w, (callFunc gf args).run P w = .ok (.enter gf args) w := by
    have he := (hg default default p).enters
    unfold entersB at he
    cases hfn : P.funcs[gf]? with
    | none => rw [hfn] at he; cases he
    | some fn =>
      rw [hfn] at he
      simp only [Bool.and_eq_true, bne_iff_ne, ne_eq] at he
      obtain ⟨he1, he2⟩ := he
      have hb : fn.body.isNone = false := by cases hbb : fn.body <;> simp_all
      have hnm : (fn.name == "runtime.NumGoroutine") = false := by simpa using he2
      intro args w
      simp only [callFunc, Sem.run_bind, run_program, hfn, hnm, hb, Bool.false_eq_true, if_false, Result.andThen_ok, Sem.run_pure]
  rw [eargs]
  refine (AnyQ.slices_SortFunc L k aE zE enc hk h1 cf hO gf #[] b 0 cap l.toArray w eg hcmp hH hlt (by simpa using hsz)).mono ?_
  rintro en w' ⟨rfl, d', n, os, hp, hs, rfl⟩
  refine .inl ⟨g, _, .tuple [], [(rid, some (.arr k (d'.toList.map av)))], rfl, ⟨rfl, d'.toList, ?_, ?_, rfl⟩, Gh.le_refl g, fun _ _ => rfl, .tuple _ _ rfl (fun j hj => absurd hj (Nat.not_lt_zero _)), ?_⟩
  · have h2 := hp.2.2
    have h3 := hp.1
    have h5 : d'.size = l.length := by simpa using h3
    have h6 : d'.toList.Perm (List.take d'.size l) := by simpa [← h3] using h2
    rwa [h5, List.take_length] at h6
  · rw [List.pairwise_iff_getElem]
    intro i j hi hj hij
    have hi' : i < d'.size := by simpa using hi
    have hj' : j < d'.size := by simpa using hj
    have := hs i j (Nat.zero_le _) hij (by rw [← hp.1]; exact hj')
    rw [getElem!_pos d' i hi', getElem!_pos d' j hj'] at this
    simpa using this
  · have hds : d'.size = l.length := by simpa using hp.1
    refine hm.turn (o := .arr k (d'.toList.map av)) hmi hloc rfl rfl ⟨rfl, Nat.le_add_right _ _⟩ (sw_size enc k) (fun b' hb' hlt' => sw_other enc k hb' hlt') (fun r hr => ?_) ?_ ?_
    · obtain ⟨c', t', fz', h2, h3⟩ := hm.rows b r hr
      exact ⟨_, _, _, sw_same enc k h2, by rw [putCells_size]; exact h3⟩
    · intro c9 t9 fz9 h9; exact ⟨_, _, sw_same enc k h9⟩
    · have hget : ∀ i j, i < d'.size → j < k → (putCells id 0 (flatK enc k d') c).getD (i * k + j) undef = (enc d'[i]!).getD j undef := fun i j hi hj => by
        have hlt2 : i * k + j < d'.size * k := by
          have := Nat.mul_le_mul_right k (show i + 1 ≤ d'.size from hi); rw [Nat.add_mul, Nat.one_mul] at this; omega
        have hc2 : i * k + j < c.size := by rw [hds] at hlt2; omega
        have e1 : (i * k + j) / k = i := (blk_iff k i _ (by omega)).1 ⟨by omega, by omega⟩
        have e2 : (i * k + j) % k = j := by rw [Nat.mod_eq_sub_div_mul, e1]; omega
        have h6 : j < (enc d'[i]!).length := by rw [hk]; exact hj
        simp only [putCells, Array.getD_eq_getD_getElem?, Array.getElem?_mapIdx, Array.getElem?_eq_getElem hc2, Option.map_some, Option.getD_some, Nat.zero_le, true_and, Nat.zero_add, Nat.sub_zero, size_flatK, hlt2, if_true, id_eq]
        rw [get_flatK _ _ _ _ hlt2, e1, e2, getElem!_pos (enc d'[i]!) j h6, List.getD_eq_getElem?_getD, List.getElem?_eq_getElem h6, Option.getD_some]
      have hav : ∀ i, i < d'.size → (d'.toList.map av).getD i .undef = av d'[i]! := fun i hi => by
        rw [getElem!_pos d' i hi]
        simp [List.getD_eq_getElem?_getD, List.getElem?_map, hi]
      refine ⟨_, t, fz, sw_same enc k hh, ?_, ?_, ?_, ?_, ?_⟩
      · rw [putCells_size, List.length_map, Array.length_toList, hds]; exact hcs
      · rw [putCells_size]; exact hfz
      · intro i hi
        rw [hav i (by simpa using hi)]; exact hcl _
      · intro j hj
        have hj' : j < d'.size * k := by simpa using hj
        have hk0 : 0 < k := Nat.pos_of_ne_zero fun e => by subst e; simp at hj'
        have hi : j / k < d'.size := (Nat.div_lt_iff_lt_mul hk0).2 hj'
        have := hget (j / k) (j % k) hi (Nat.mod_lt _ hk0)
        rw [Nat.div_add_mod'] at this
        rw [this]
        have h6 : j % k < (enc d'[j / k]!).length := by rw [hk]; exact Nat.mod_lt _ hk0
        rw [List.getD_eq_getElem?_getD, List.getElem?_eq_getElem h6, Option.getD_some]
        exact h1 _ _ (List.getElem_mem h6)
      · intro i j hi hj
        have hi' : i < d'.size := by simpa using hi
        rw [hav i hi', hget i j hi' hj]
        exact (henc g _ j _ hj).2 rfl
end Go.Ab
namespace Go.Proofs
open Go.Shelf
def Tryz.sortT_ren : Go.Shelf.Ren := ⟨fun | 6 => 67 | 15 => 112 | 14 => 111 | 28 => 152 | 29 => 153 | 20 => 144 | 21 => 145 | 22 => 146 | 23 => 147 | 24 => 148 | 25 => 149 | 26 => 150 | 27 => 151 | 46 => 171 | 47 => 172 | 48 => 173 | 49 => 174 | 50 => 175 | 57 => 201 | n => n, fun | 22 => 29 | 24 => 107 | 25 => 109 | 3 => 3 | 39 => 153 | 0 => 0 | 53 => 184 | 55 => 186 | 4 => 4 | 46 => 178 | 45 => 177 | 50 => 142 | 5 => 5 | 9 => 9 | 66 => 197 | 70 => 201 | 76 => 222 | 77 => 223 | n => n, fun | n => n⟩
theorem Tryz.sortT : Go.Proofs.SlLaysF0.n6 Tryz.prog Tryz.sortT_ren := {
  mixed := by kernel_rfl
  f6 := ⟨Tryz.f67.name, by decide, Tryz.func67.trans (congrArg some (by kernel_rfl))⟩
  f14 := ⟨Tryz.f111.name, by decide, Tryz.func111.trans (congrArg some (by kernel_rfl))⟩
  f15 := Tryz.func112.trans (congrArg some (by kernel_rfl))
  f20 := ⟨Tryz.f144.name, by decide, Tryz.func144.trans (congrArg some (by kernel_rfl))⟩
  f21 := ⟨Tryz.f145.name, by decide, Tryz.func145.trans (congrArg some (by kernel_rfl))⟩
  f22 := ⟨Tryz.f146.name, by decide, Tryz.func146.trans (congrArg some (by kernel_rfl))⟩
  f23 := ⟨Tryz.f147.name, by decide, Tryz.func147.trans (congrArg some (by kernel_rfl))⟩
  f24 := ⟨Tryz.f148.name, by decide, Tryz.func148.trans (congrArg some (by kernel_rfl))⟩
  f25 := ⟨Tryz.f149.name, by decide, Tryz.func149.trans (congrArg some (by kernel_rfl))⟩
  f26 := ⟨Tryz.f150.name, by decide, Tryz.func150.trans (congrArg some (by kernel_rfl))⟩
  f27 := ⟨Tryz.f151.name, by decide, Tryz.func151.trans (congrArg some (by kernel_rfl))⟩
  f28 := Tryz.func152.trans (congrArg some (by kernel_rfl))
  f29 := Tryz.func153.trans (congrArg some (by kernel_rfl))
  f46 := ⟨Tryz.f171.name, by decide, Tryz.func171.trans (congrArg some (by kernel_rfl))⟩
  f47 := Tryz.func172.trans (congrArg some (by kernel_rfl))
  f48 := Tryz.func173.trans (congrArg some (by kernel_rfl))
  f49 := ⟨Tryz.f174.name, by decide, Tryz.func174.trans (congrArg some (by kernel_rfl))⟩
  f50 := ⟨Tryz.f175.name, by decide, Tryz.func175.trans (congrArg some (by kernel_rfl))⟩
  f57 := ⟨Tryz.f201.name, by decide, Tryz.func201.trans (congrArg some (by kernel_rfl))⟩
  t0 := Tryz.underlying0
  a0 := Tryz.isAgg0
  z0 := Tryz.sizeOf0
  v0 := Tryz.zeroValue0
  t3 := Tryz.underlying3
  a3 := Tryz.isAgg3
  z3 := Tryz.sizeOf3
  v3 := Tryz.zeroValue3
  t4 := Tryz.underlying4
  a4 := Tryz.isAgg4
  z4 := Tryz.sizeOf4
  v4 := Tryz.zeroValue4
  t5 := Tryz.underlying5
  a5 := Tryz.isAgg5
  z5 := Tryz.sizeOf5
  v5 := Tryz.zeroValue5
  t9 := Tryz.underlying9
  a9 := Tryz.isAgg9
  z9 := Tryz.sizeOf9
  v9 := Tryz.zeroValue9
  t22 := Tryz.underlying29
  a22 := Tryz.isAgg29
  z22 := Tryz.sizeOf29
  v22 := Tryz.zeroValue29
  t25 := Tryz.underlying109
  a25 := Tryz.isAgg109
  z25 := Tryz.sizeOf109
  v25 := Tryz.zeroValue109
  t39 := Tryz.underlying153
  a39 := Tryz.isAgg153
  z39 := Tryz.sizeOf153
  v39 := Tryz.zeroValue153
  t45 := Tryz.underlying177
  a45 := Tryz.isAgg177
  z45 := Tryz.sizeOf177
  v45 := Tryz.zeroValue177
  t46 := Tryz.underlying178
  a46 := Tryz.isAgg178
  z46 := Tryz.sizeOf178
  v46 := Tryz.zeroValue178
  t50 := Tryz.underlying142
  a50 := Tryz.isAgg142
  z50 := Tryz.sizeOf142
  v50 := Tryz.zeroValue142
  t53 := Tryz.underlying184
  a53 := Tryz.isAgg184
  z53 := Tryz.sizeOf184
  v53 := Tryz.zeroValue184
  t55 := Tryz.underlying186
  a55 := Tryz.isAgg186
  z55 := Tryz.sizeOf186
  v55 := Tryz.zeroValue186
  t66 := Tryz.underlying197
  a66 := Tryz.isAgg197
  z66 := Tryz.sizeOf197
  v66 := Tryz.zeroValue197
  t70 := Tryz.underlying201
  a70 := Tryz.isAgg201
  z70 := Tryz.sizeOf201
  v70 := Tryz.zeroValue201
  t76 := Tryz.underlying222
  a76 := Tryz.isAgg222
  z76 := Tryz.sizeOf222
  v76 := Tryz.zeroValue222
  t77 := Tryz.underlying223
  a77 := Tryz.isAgg223
  z77 := Tryz.sizeOf223
  v77 := Tryz.zeroValue223 }
end Go.Proofs
namespace Go.Proofs.YtaecbmbecofijaaGreatDoor
open Go Go.Ab
open Go.Proofs (ltOf)
set_option maxRecDepth 20000
set_option maxHeartbeats 4000000
def cmpI (a b : Int) : Int := if a < b then -1 else if b < a then 1 else 0
def cmpS (a b : Str) : Int := if ltS a b then -1 else if a = b then 0 else 1
def orI : List Int → Int
  | [] => 0
  | a :: l => if a = 0 then orI l else a
def b2i (b : Bool) : Int := if b then 1 else 0
theorem isNaNI_ok (a : Int) (p : Oid) : CallOK Tryz.prog 155 [.int .i64 a] (Oid.under p) ⟨[], .bool false, []⟩ := by
  refine fnOK (n := 6) (rs := [.tmp 2]) Tryz.func155 rfl rfl (by decide) rfl rfl rfl ?_; rintro x rfl hrd hng
  (repeat (first | (refine K_ifT rfl rfl ?_) | (refine K_ifF rfl rfl ?_) | (refine K_ev nmd [] hng (by kernel_rfl) fun hf C S K hC1 hC hS hK => ?_; simp (disch := first | omega | assumption) only [go_sem, ne_eq, not_true_eq_false, decide_false]; refine hK ?_; clear hK hS hC hC1 K S C hf) | ((first | refine zn ?_ | refine ze ?_ | refine zk ?_); with_reducible (constructor; repeat constructor); try refine zl ?_)))
  exact K_ret (done1 rfl)
theorem isNaNS_ok (a : List UInt8) (p : Oid) : CallOK Tryz.prog 154 [.str a] (Oid.under p) ⟨[], .bool false, []⟩ := by
  refine fnOK (n := 6) (rs := [.tmp 2]) Tryz.func154 rfl rfl (by decide) rfl rfl rfl ?_; rintro x rfl hrd hng
  (repeat (first | (refine K_ifT rfl rfl ?_) | (refine K_ifF rfl rfl ?_) | (refine K_ev nmd [] hng (by kernel_rfl) fun hf C S K hC1 hC hS hK => ?_; simp (disch := first | omega | assumption) only [go_sem, ne_eq, not_true_eq_false, decide_false]; refine hK ?_; clear hK hS hC hC1 K S C hf) | ((first | refine zn ?_ | refine ze ?_ | refine zk ?_); with_reducible (constructor; repeat constructor); try refine zl ?_)))
  exact K_ret (done1 rfl)
theorem compareI_ok (a b : Int) (p : Oid) : CallOK Tryz.prog 115 [.int .i64 a, .int .i64 b] (Oid.under p) ⟨[], .int .i64 (cmpI a b), []⟩ := by
  refine fnOK (n := 20) (rs := [.tmp 4]) Tryz.func115 rfl rfl (by decide) rfl rfl rfl ?_; rintro x rfl hrd hng
  (repeat (first | (refine K_ifT rfl rfl ?_) | (refine K_ifF rfl rfl ?_) | (refine K_ev nmd [] hng (by kernel_rfl) fun hf C S K hC1 hC hS hK => ?_; simp (disch := first | omega | assumption) only [go_sem]; (repeat ((first | refine hC1 _ (isNaNI_ok _ _) (by simp (disch := first | omega | assumption) only [go_sem]) ?_); simp (disch := first | omega | assumption) only [go_sem])); refine hK ?_; clear hK hS hC hC1 K S C hf) | ((first | refine zn ?_ | refine ze ?_ | refine zk ?_); with_reducible (constructor; repeat constructor); try refine zl ?_)))
  refine K_ifd rfl rfl (fun hb => ?_) (fun hb => ?_)
  · (repeat (first | (refine K_ifT rfl rfl ?_) | (refine K_ifF rfl rfl ?_) | (refine K_ev nmd [] hng (by kernel_rfl) fun hf C S K hC1 hC hS hK => ?_; simp (disch := first | omega | assumption) only [go_sem]; refine hK ?_; clear hK hS hC hC1 K S C hf) | ((first | refine zn ?_ | refine ze ?_ | refine zk ?_); with_reducible (constructor; repeat constructor); try refine zl ?_)))
    refine K_ret (done1 (congrArg (AV.int .i64) ?_)); simp only [cmpI, if_pos hb]
  · (repeat (first | (refine K_ifT rfl rfl ?_) | (refine K_ifF rfl rfl ?_) | (refine K_ev nmd [] hng (by kernel_rfl) fun hf C S K hC1 hC hS hK => ?_; simp (disch := first | omega | assumption) only [go_sem]; refine hK ?_; clear hK hS hC hC1 K S C hf) | ((first | refine zn ?_ | refine ze ?_ | refine zk ?_); with_reducible (constructor; repeat constructor); try refine zl ?_)))
    refine K_ifd rfl rfl (fun hb => ?_) (fun hb => ?_)
    · (repeat (first | (refine K_ifT rfl rfl ?_) | (refine K_ifF rfl rfl ?_) | (refine K_ev nmd [] hng (by kernel_rfl) fun hf C S K hC1 hC hS hK => ?_; simp (disch := first | omega | assumption) only [go_sem]; refine hK ?_; clear hK hS hC hC1 K S C hf) | ((first | refine zn ?_ | refine ze ?_ | refine zk ?_); with_reducible (constructor; repeat constructor); try refine zl ?_)))
      refine K_ret (done1 (congrArg (AV.int .i64) ?_)); grind [cmpI]
    · (repeat (first | (refine K_ifT rfl rfl ?_) | (refine K_ifF rfl rfl ?_) | (refine K_ev nmd [] hng (by kernel_rfl) fun hf C S K hC1 hC hS hK => ?_; simp (disch := first | omega | assumption) only [go_sem]; refine hK ?_; clear hK hS hC hC1 K S C hf) | ((first | refine zn ?_ | refine ze ?_ | refine zk ?_); with_reducible (constructor; repeat constructor); try refine zl ?_)))
      refine K_ret (done1 (congrArg (AV.int .i64) ?_)); grind [cmpI]
theorem compareS_ok (a b : Str) (p : Oid) : CallOK Tryz.prog 114 [.str a, .str b] (Oid.under p) ⟨[], .int .i64 (cmpS a b), []⟩ := by
  refine fnOK (n := 20) (rs := [.tmp 4]) Tryz.func114 rfl rfl (by decide) rfl rfl rfl ?_; rintro x rfl hrd hng
  (repeat (first | (refine K_ifT rfl rfl ?_) | (refine K_ifF rfl rfl ?_) | (refine K_ev nmd [] hng (by kernel_rfl) fun hf C S K hC1 hC hS hK => ?_; simp (disch := first | omega | assumption) only [go_sem]; (repeat ((first | refine hC1 _ (isNaNS_ok _ _) (by simp (disch := first | omega | assumption) only [go_sem]) ?_); simp (disch := first | omega | assumption) only [go_sem])); refine hK ?_; clear hK hS hC hC1 K S C hf) | ((first | refine zn ?_ | refine ze ?_ | refine zk ?_); with_reducible (constructor; repeat constructor); try refine zl ?_)))
  refine K_if rfl rfl (fun hb => ?_) (fun hb => ?_)
  · (repeat (first | (refine K_ifT rfl rfl ?_) | (refine K_ifF rfl rfl ?_) | (refine K_ev nmd [] hng (by kernel_rfl) fun hf C S K hC1 hC hS hK => ?_; simp (disch := first | omega | assumption) only [go_sem]; refine hK ?_; clear hK hS hC hC1 K S C hf) | ((first | refine zn ?_ | refine ze ?_ | refine zk ?_); with_reducible (constructor; repeat constructor); try refine zl ?_)))
    refine K_ret (done1 (congrArg (AV.int .i64) ?_)); grind [cmpS]
  · (repeat (first | (refine K_ifT rfl rfl ?_) | (refine K_ifF rfl rfl ?_) | (refine K_ev nmd [] hng (by kernel_rfl) fun hf C S K hC1 hC hS hK => ?_; simp (disch := first | omega | assumption) only [go_sem]; refine hK ?_; clear hK hS hC hC1 K S C hf) | ((first | refine zn ?_ | refine ze ?_ | refine zk ?_); with_reducible (constructor; repeat constructor); try refine zl ?_)))
    refine K_if rfl rfl (fun hb => ?_) (fun hb => ?_)
    · (repeat (first | (refine K_ifT rfl rfl ?_) | (refine K_ifF rfl rfl ?_) | (refine K_ev nmd [] hng (by kernel_rfl) fun hf C S K hC1 hC hS hK => ?_; simp (disch := first | omega | assumption) only [go_sem]; refine hK ?_; clear hK hS hC hC1 K S C hf) | ((first | refine zn ?_ | refine ze ?_ | refine zk ?_); with_reducible (constructor; repeat constructor); try refine zl ?_)))
      refine K_ret (done1 (congrArg (AV.int .i64) ?_)); grind [cmpS]
    · (repeat (first | (refine K_ifT rfl rfl ?_) | (refine K_ifF rfl rfl ?_) | (refine K_ev nmd [] hng (by kernel_rfl) fun hf C S K hC1 hC hS hK => ?_; simp (disch := first | omega | assumption) only [go_sem]; refine hK ?_; clear hK hS hC hC1 K S C hf) | ((first | refine zn ?_ | refine ze ?_ | refine zk ?_); with_reducible (constructor; repeat constructor); try refine zl ?_)))
      refine K_ret (done1 (congrArg (AV.int .i64) ?_)); grind [cmpS]
theorem or_ok (l : List Int) (hl : l.length ≤ 9223372036854775807) (p : Oid) : CallOK Tryz.prog 113 [.list 1 (l.map (AV.int .i64))] (Oid.under p) ⟨[], .int .i64 (orI l), []⟩ := by
  refine fnOK (n := 18) (rs := [.tmp 2]) Tryz.func113 rfl rfl (by decide) rfl rfl rfl ?_; rintro x rfl hrd hng
  (repeat (first | (refine K_ifT rfl rfl ?_) | (refine K_ifF rfl rfl ?_) | (refine K_ev nmd [] hng (by kernel_rfl) fun hf C S K hC1 hC hS hK => ?_; simp (disch := first | omega | assumption) only [go_sem]; refine hK ?_; clear hK hS hC hC1 K S C hf) | ((first | refine zn ?_ | refine ze ?_ | refine zk ?_); with_reducible (constructor; repeat constructor); try refine zl ?_)))
  refine K_loop [3, 6, 7, 8] (fun k s' => ∃ (i : Nat) (c : Nat), k = l.length - i ∧ i ≤ l.length ∧ orI (l.drop i) = orI l ∧ s' = ⟨[(3, .int .i64 0), (6, .list 1 (l.map (AV.int .i64))), (7, .int .i64 l.length), (8, .int .i64 i)], Mem.of [], c, []⟩) _ ⟨0, _, rfl, Nat.zero_le _, rfl, rfl⟩ ?_
  rintro k s' ⟨i, c, rfl, hi, hno, rfl⟩
  (repeat (first | (refine K_ifT rfl rfl ?_) | (refine K_ifF rfl rfl ?_) | (refine K_ev nmd [] hng (by kernel_rfl) fun hf C S K hC1 hC hS hK => ?_; simp (disch := first | omega | assumption) only [go_sem]; refine hK ?_; clear hK hS hC hC1 K S C hf) | ((first | refine zn ?_ | refine ze ?_ | refine zk ?_); with_reducible (constructor; repeat constructor); try refine zl ?_)))
  refine K_ifd rfl rfl (fun hb => ?_) (fun hb => ?_)
  · have hd1 := drop_cons (l := l) (i := i) (by omega)
    rw [hd1, orI] at hno
    clear hd1
    (repeat (first | (refine K_ifT rfl rfl ?_) | (refine K_ifF rfl rfl ?_) | (refine K_ev nmd [] hng (by kernel_rfl) fun hf C S K hC1 hC hS hK => ?_; simp (disch := first | omega | assumption) only [go_sem]; refine hK ?_; clear hK hS hC hC1 K S C hf) | ((first | refine zn ?_ | refine ze ?_ | refine zk ?_); with_reducible (constructor; repeat constructor); try refine zl ?_)))
    refine K_ifd rfl rfl (fun hb => ?_) (fun hb => ?_)
    · (repeat (first | (refine K_ifT rfl rfl ?_) | (refine K_ifF rfl rfl ?_) | (refine K_ev nmd [] hng (by kernel_rfl) fun hf C S K hC1 hC hS hK => ?_; simp (disch := first | omega | assumption) only [go_sem]; refine hK ?_; clear hK hS hC hC1 K S C hf) | ((first | refine zn ?_ | refine ze ?_ | refine zk ?_); with_reducible (constructor; repeat constructor); try refine zl ?_)))
      refine K_ret (done1 (congrArg (AV.int .i64) ?_)); rw [← hno, if_neg hb]
    · (repeat (first | (refine K_ifT rfl rfl ?_) | (refine K_ifF rfl rfl ?_) | (refine K_ev nmd [] hng (by kernel_rfl) fun hf C S K hC1 hC hS hK => ?_; simp (disch := first | omega | assumption) only [go_sem]; refine hK ?_; clear hK hS hC hC1 K S C hf) | ((first | refine zn ?_ | refine ze ?_ | refine zk ?_); with_reducible (constructor; repeat constructor); try refine zl ?_)))
      have hb' : l.getD i default = 0 := Classical.not_not.1 hb
      refine ⟨_, _, ?_, fun _ _ h => h, i + 1, _, rfl, by omega, ?_, rfl⟩
      · omega
      · rw [← hno, if_pos hb']
  · (repeat (first | (refine K_ifT rfl rfl ?_) | (refine K_ifF rfl rfl ?_) | (refine K_ev nmd [] hng (by kernel_rfl) fun hf C S K hC1 hC hS hK => ?_; simp (disch := first | omega | assumption) only [go_sem]; refine hK ?_; clear hK hS hC hC1 K S C hf) | ((first | refine zn ?_ | refine ze ?_ | refine zk ?_); with_reducible (constructor; repeat constructor); try refine zl ?_)))
    refine K_ret (done1 (congrArg (AV.int .i64) ?_))
    rw [← hno, List.drop_eq_nil_of_le (by omega)]; rfl
theorem order1_ok (b : Bool) (p : Oid) : CallOK Tryz.prog 116 [.bool b] (Oid.under p) ⟨[], .int .i64 (b2i b), []⟩ := by
  refine fnOK (n := 4) (rs := [.tmp 2]) Tryz.func116 rfl rfl (by decide) rfl rfl rfl ?_; rintro x rfl hrd hng
  (repeat (first | (refine K_ifT rfl rfl ?_) | (refine K_ifF rfl rfl ?_) | (refine K_ev nmd [] hng (by kernel_rfl) fun hf C S K hC1 hC hS hK => ?_; simp (disch := first | omega | assumption) only [go_sem]; refine hK ?_; clear hK hS hC hC1 K S C hf) | ((first | refine zn ?_ | refine ze ?_ | refine zk ?_); with_reducible (constructor; repeat constructor); try refine zl ?_)))
  refine K_if rfl rfl (fun hb => ?_) (fun hb => ?_)
  · subst hb; (repeat (first | (refine K_ifT rfl rfl ?_) | (refine K_ifF rfl rfl ?_) | (refine K_ev nmd [] hng (by kernel_rfl) fun hf C S K hC1 hC hS hK => ?_; simp (disch := first | omega | assumption) only [go_sem]; refine hK ?_; clear hK hS hC hC1 K S C hf) | ((first | refine zn ?_ | refine ze ?_ | refine zk ?_); with_reducible (constructor; repeat constructor); try refine zl ?_)))
    exact K_ret (done1 rfl)
  · subst hb; (repeat (first | (refine K_ifT rfl rfl ?_) | (refine K_ifF rfl rfl ?_) | (refine K_ev nmd [] hng (by kernel_rfl) fun hf C S K hC1 hC hS hK => ?_; simp (disch := first | omega | assumption) only [go_sem]; refine hK ?_; clear hK hS hC hC1 K S C hf) | ((first | refine zn ?_ | refine ze ?_ | refine zk ?_); with_reducible (constructor; repeat constructor); try refine zl ?_)))
    exact K_ret (done1 rfl)
theorem cmpS_lt (a b : Str) : cmpS a b < 0 ↔ ltS a b = true := by
  simp only [cmpS]; split
  · rename_i h; exact ⟨fun _ => h, fun _ => by decide⟩
  · rename_i h
    refine ⟨fun h2 => ?_, fun h2 => absurd h2 h⟩
    split at h2 <;> simp at h2
theorem cmpS_eq (a b : Str) : cmpS a b = 0 ↔ a = b := by
  simp only [cmpS]; split
  · rename_i h
    refine ⟨fun h => by simp at h, fun e => ?_⟩
    subst e; rw [ltS_irr] at h; cases h
  · split
    · rename_i e; exact ⟨fun _ => e, fun _ => rfl⟩
    · rename_i e; exact ⟨fun h => absurd h (by decide), fun h => absurd h e⟩
abbrev Tch := (Str × Bool) × Str
instance : Inhabited Tch := ⟨(([], false), [])⟩
def rankF (x y : Tch) : Int := orI [cmpS x.1.1 y.1.1, cmpI (b2i x.1.2) (b2i y.1.2)]
theorem rank_lt (x y : Tch) : rankF x y < 0 ↔ ltF x.1 y.1 := by
  simp only [rankF, orI, ltF, ltB, ← cmpS_lt]
  have he := cmpS_eq x.1.1 y.1.1
  by_cases h : cmpS x.1.1 y.1.1 = 0
  · have := he.1 h
    have h0 : cmpS y.1.1 y.1.1 = 0 := (cmpS_eq _ _).2 rfl
    rw [this]
    cases x.1.2 <;> cases y.1.2 <;> simp [cmpI, b2i, h0]
  · have hne : ¬ x.1.1 = y.1.1 := fun e => h (he.2 e)
    simp [h, hne]
theorem rank_ok (x y : Tch) (p : Oid) : CallOK Tryz.prog 68 [tchAV x, tchAV y] (Oid.under p) ⟨[], .int .i64 (rankF x y), []⟩ := by
  have h5 := fun p => or_ok [cmpS x.1.1 y.1.1, cmpI (b2i x.1.2) (b2i y.1.2)] (by simp) p
  simp only [List.map_cons, List.map_nil] at h5
  simp only [tchAV, rankF]
  refine fnOK (n := 19) (rs := [.tmp 4]) Tryz.func68 rfl rfl (by decide) rfl rfl rfl ?_; rintro x rfl hrd hng
  (try ((first | refine zn ?_ | refine ze ?_ | refine zk ?_); with_reducible (constructor; repeat constructor)); try refine zl ?_)
  refine K_ev nmd [] hng (by kernel_rfl) fun hf C S K hC1 hC hS hK => ?_; simp (disch := first | omega | assumption) only [go_sem]
  refine hK ?_; clear hK hS hC hC1 K S C hf
  (try ((first | refine zn ?_ | refine ze ?_ | refine zk ?_); with_reducible (constructor; repeat constructor)); try refine zl ?_)
  refine K_evd nmd [] [(4, 6), (4, 9), (7, 9)] mixed hng (by kernel_rfl) [4] fun hf C S K hC hS hK => ?_; simp (disch := first | omega | assumption) only [go_sem]
  (repeat ((first | refine hC _ (compareS_ok _ _ _) (by simp (disch := first | omega | assumption) only [go_sem]) ?_ | refine hC _ (order1_ok _ _) (by simp (disch := first | omega | assumption) only [go_sem]) ?_ | refine hC _ (compareI_ok _ _ _) (by simp (disch := first | omega | assumption) only [go_sem]) ?_ | refine hC _ (h5 _) (by simp (disch := first | omega | assumption) only [go_sem]) ?_); simp (disch := first | omega | assumption) only [go_sem]))
  (first | refine hK (dynN_quiet rfl) ?_ | refine hK (by simp (disch := first | omega | assumption) only [go_sem, List.reverse_cons, List.reverse_nil, ne_eq, not_false_eq_true, implies_true]) ?_); clear hK hS hC K S C hf
  (repeat (first | (refine K_ifT rfl rfl ?_) | (refine K_ifF rfl rfl ?_) | (refine K_ev nmd [] hng (by kernel_rfl) fun hf C S K hC1 hC hS hK => ?_; simp (disch := first | omega | assumption) only [go_sem]; refine hK ?_; clear hK hS hC hC1 K S C hf) | ((first | refine zn ?_ | refine ze ?_ | refine zk ?_); with_reducible (constructor; repeat constructor); try refine zl ?_)))
  exact K_ret (done1 rfl)
theorem rank_swo : Go.Sort.SWO (ltOf rankF) := by
  have key : ∀ x y, ltOf rankF x y = true ↔ ltF x.1 y.1 := fun x y => by rw [ltOf, decide_eq_true_eq, rank_lt]
  have key2 : ∀ x y, ltOf rankF x y = false ↔ ¬ ltF x.1 y.1 := fun x y => by rw [← key, Bool.not_eq_true]
  refine ⟨fun x => (key2 x x).2 (ordF.irr _), fun x y z h1 h2 => (key x z).2 (ordF.tr _ _ _ ((key x y).1 h1) ((key y z).1 h2)), fun x y z h1 h2 => (key2 x z).2 fun h => ?_⟩
  have h1 := (key2 x y).1 h1
  have h2 := (key2 y z).1 h2
  by_cases e : x.1 = y.1
  · rw [e] at h; exact h2 h
  · exact h2 (ordF.tr _ _ _ (ordF.tot _ _ h1 e) h)
/-- What is sorted by rank is the list in order. -/
theorem rank_sorted {l R : List Tch} (hp : l.Perm R) (hR : SortG ltF R) (hs : l.Pairwise fun x y => ltOf rankF y x = false) : l = R := by
  have hnd : (l.map (·.1)).Nodup := ((hp.map (·.1)).nodup_iff).2 (hR.nodup ordF)
  refine sortG_one ordF hp ?_ hR
  rw [List.nodup_iff_pairwise_ne, List.pairwise_map] at hnd
  refine (hs.and hnd).imp ?_
  rintro a b ⟨h1, h2⟩
  have h3 : ¬ ltF b.1 a.1 := fun h => by rw [ltOf, decide_eq_false_iff_not, rank_lt] at h1; exact h1 h
  exact ordF.tot _ _ h3 fun e => h2 e.symm
def encT3 (h : Tch) : List Value := [.string ⟨h.1.1.toArray⟩, .bool h.1.2, .string ⟨h.2.toArray⟩]
theorem encT3_iff (g : Gh) (h : Tch) (j : Nat) (v : Value) (hj : j < 3) : VR g ((tchAV h).cells.getD j .undef) v ↔ v = (encT3 h).getD j undef := by
  rcases j with _ | _ | _ | j
  · exact str_enc
  · exact ⟨fun k => VR.bool_inv k, fun k => by rw [k]; exact .bool _⟩
  · exact str_enc
  · omega
theorem sort_tch (l : List Tch) (hl : ¬ l = []) (hsz : l.length < 4611686018427387904) (id p : Oid) :
    CallND Tryz.prog 67 [.sl id 3 l.length, .fn (.func 68) [] []] (Oid.under p) [(id, .arr 3 (l.map tchAV))] (fun v u => v = .tuple [] ∧ ∃ l' : List Tch, l'.Perm l ∧ l'.Pairwise (fun x y => ltOf rankF y x = false) ∧ u = [(id, some (.arr 3 (l'.map tchAV)))]) (fun _ _ => False) :=
  sort_ok (ρ := Tryz.sortT_ren) Tryz.sortT 3 Tryz.isAgg107 Tryz.sizeOf107 encT3 tchAV (fun _ => rfl) (fun x v hv => by
      simp only [encT3, List.mem_cons, List.not_mem_nil, or_false] at hv
      rcases hv with rfl | rfl | rfl <;> rfl) (fun _ => rfl)
    (fun g x => .agg _ _ rfl fun j hj => by
      have hj' : j < 3 := hj
      have := (encT3_iff g x j _ hj').2 rfl
      simpa [List.getD_eq_getElem?_getD, Array.getD_eq_getD_getElem?, tchAV, AV.cells] using this) encT3_iff rankF rank_swo 68 (fun x y p => rank_ok x y p) l hl hsz id p (by kernel_rfl)
end Go.Proofs.YtaecbmbecofijaaGreatDoor
namespace Go.Proofs.YtaecbmbecofijaaGreatDoor
open Go Go.Ab
set_option maxRecDepth 20000
set_option maxHeartbeats 4000000
theorem keysW_seq (b1 o : Oid) (es : List ME) (clock : Nat) (p : Oid) (hne1 : ¬ o = b1) (hb1 : ¬ Oid.under p b1) (ho : ¬ Oid.under p o) :
    SeqND Tryz.prog 119 [.ptr b1 0] p [(b1, .cells [.map o]), (o, .map [.ss] false es clock)] 1 (fun pre xs => pre.length < es.length ∧ ∃ s : Str, xs = [.str s]) (fun b pre => b = true → ∃ U : List ME, U.Perm es ∧ pre = U.map fun e => [.str (keyS e)]) := by
  intro l J L0 hJ hdis hnp hY
  refine callND_cons (by kernel_rfl) fun hcon => ?_
  refine fnND (n := 14) (rs := []) Tryz.func119 rfl rfl (by decide) rfl rfl rfl ?_; rintro x rfl hrd hng
  have hcL : ∀ q ∈ L0, Mem.of L0 q.1 = some q.2 := fun q hq => by
    have := hcon q (List.mem_append_right _ hq)
    rwa [of_app fun q' hq' => hdis q hq q' hq'] at this
  generalize hQ : DoneN Tryz.prog [] ([(b1, .cells [.map o]), (o, .map [.ss] false es clock)] ++ L0) _ _ = Q
  refine T_wf fun hwf => ?_
  obtain ⟨hw1, hw2⟩ := hwf o [.ss] false es clock (by simp only [fa_cons, fa_nil, Mem.of_cons_at, Mem.of_nil_at, Mem.of_upds, Mem.of_putL, putLs, putL, List.cons_append, List.nil_append, List.append_nil, ↓reduceIte, eq_self, and_true, true_and, and_self, and_false, false_and, reduceCtorEq, Oid.sub.injEq, Nat.reduceEqDiff, hne1, Oid.sub_not_under hb1, Oid.sub_not_under ho, Oid.not_under_sub hb1, Oid.not_under_sub ho])
  have hstr : ∀ e ∈ es, e.key = .str (keyS e) := fun e he => by
    obtain ⟨s, hs⟩ := str_of_fits (hw1 e he).1
    simp only [keyS, hs]
  (try ((first | refine zn ?_ | refine ze ?_ | refine zk ?_); with_reducible (constructor; repeat constructor)); try refine zl ?_)
  refine K_ev nmd [] hng (by kernel_rfl) fun hf C S K hC1 hC hS hK => ?_; simp (disch := first | omega | assumption) only [go_sem, hne1, Oid.sub_not_under hb1, Oid.sub_not_under ho, Oid.not_under_sub hb1, Oid.not_under_sub ho, of_put_at]
  refine hK ?_; clear hK hS hC hC1 K S C hf
  (try ((first | refine zn ?_ | refine ze ?_ | refine zk ?_); with_reducible (constructor; repeat constructor)); try refine zl ?_)
  have hn0 : ∀ q ∈ L0, ¬ q.1 = b1 ∧ ¬ q.1 = o ∧ ¬ q.1 = .sub 0 1 x.p := fun q hq => ⟨hdis q hq _ List.mem_cons_self, hdis q hq _ (List.mem_cons_of_mem _ List.mem_cons_self), fun e => hnp q hq (e ▸ Oid.under_sub (Oid.under_refl _))⟩
  refine K_mem ([(b1, .cells [.map o]), (o, .map [.ss] false es clock), (.sub 0 1 x.p, .iter (some o) clock [] clock)] ++ L0) (app_mem ?_ ?_) ?_
  · simp only [fa_cons, fa_nil, Mem.of_cons_at, Mem.of_nil_at, Mem.of_upds, Mem.of_putL, putLs, putL, List.cons_append, List.nil_append, List.append_nil, ↓reduceIte, eq_self, and_true, true_and, and_self, and_false, false_and, reduceCtorEq, Oid.sub.injEq, Nat.reduceEqDiff, hne1, Oid.sub_not_under hb1, Oid.sub_not_under ho, Oid.not_under_sub hb1, Oid.not_under_sub ho, of_put_at]
  · intro q hq
    obtain ⟨a1, a2, a3⟩ := hn0 q hq
    simp only [fa_cons, fa_nil, Mem.of_cons_at, Mem.of_nil_at, Mem.of_upds, Mem.of_putL, putLs, putL, List.cons_append, List.nil_append, List.append_nil, ↓reduceIte, eq_self, and_true, true_and, and_self, and_false, false_and, reduceCtorEq, Oid.sub.injEq, Nat.reduceEqDiff, of_put_at, a1, a2, a3]
    exact hcL q hq
  refine K_loop [0, 1, 5] (fun q s' => ∃ (c : Nat) (U : List ME) (L : List (Oid × AObj)), s' = ⟨[(0, .fn (.yield l) [] []), (1, .ptr b1 0), (5, .iter (.sub 0 1 x.p))], Mem.of ([(b1, .cells [.map o]), (o, .map [.ss] false es clock), (.sub 0 1 x.p, .iter (some o) clock (U.map ME.born) clock)] ++ L), c, []⟩ ∧ 0 < c ∧ q = es.length - U.length ∧ (U.map ME.born).Nodup ∧ (∀ e ∈ U, e ∈ es) ∧ J true (U.map fun e => [.str (keyS e)]) L ∧
    (∀ q ∈ L, Mem.of L q.1 = some q.2) ∧ ∀ q ∈ L, ((∃ q' ∈ L0, q'.1 = q.1) ∨ Oid.under x.p q.1) ∧ ¬ q.1 = b1 ∧ ¬ q.1 = o ∧ ¬ q.1 = .sub 0 1 x.p ∧ ∀ d j, c ≤ d → ¬ Oid.under (.sub d j x.p) q.1) es.length ⟨_, [], L0, rfl, by omega, rfl, List.nodup_nil, fun i h => (by cases h), hJ, hcL, fun q hq => ⟨.inl ⟨q, hq, rfl⟩, (hn0 q hq).1, (hn0 q hq).2.1, (hn0 q hq).2.2, fun d j _ h => hnp q hq (Oid.under_sub h)⟩⟩ ?_
  rintro q s' ⟨c, U, L, rfl, hc, rfl, hnd, hlt, hj, hcc, hnm⟩
  have hst : U.map ME.born = [] ∨ es = [] ∨ ∃ e ∈ es, e.born < clock := by
    cases U with
    | nil => exact .inl rfl
    | cons e _ => exact .inr (.inr ⟨e, hlt e List.mem_cons_self, (hw1 e (hlt e List.mem_cons_self)).2⟩)
  (try ((first | refine zn ?_ | refine ze ?_ | refine zk ?_); with_reducible (constructor; repeat constructor)); try refine zl ?_)
  refine K_ev nmd [] hng (by kernel_rfl) fun hf C S K hC1 hC hS hK => ?_; simp (disch := first | omega | assumption) only [go_sem]
  refine hS _ _ _ (fun o' hd ho' => nd_next (it := .sub 0 1 x.p) (id := o) (since := clock) (ks := [.ss]) (ag := false) (clock := clock) ho' rfl hst) ?_ ?_ (fun _ _ h => h.elim)
  · simp only [fa_cons, fa_nil, Mem.of_cons_at, Mem.of_nil_at, Mem.of_upds, Mem.of_putL, putLs, putL, List.cons_append, List.nil_append, List.append_nil, ↓reduceIte, eq_self, and_true, true_and, and_self, and_false, false_and, reduceCtorEq, Oid.sub.injEq, Nat.reduceEqDiff, hne1, Oid.sub_not_under hb1, Oid.sub_not_under ho, Oid.not_under_sub hb1, Oid.not_under_sub ho]
  rintro val upd (⟨e, he, hns, rfl, rfl⟩ | ⟨hall, rfl, rfl⟩)
  · have hfi := find_born hw2 he
    have hk := hstr e he
    have hnd' : ((U ++ [e]).map ME.born).Nodup := by
      rw [List.map_append]
      exact List.nodup_append.2 ⟨hnd, by simp, fun a ha b hb' e' => by simp at hb'; subst hb'; subst e'; exact hns ha⟩
    have hlt' : ∀ j ∈ U ++ [e], j ∈ es := fun j hj => by
      rcases List.mem_append.1 hj with hj | hj
      · exact hlt j hj
      · simp at hj; subst hj; exact he
    have hle := sub_len hw2 hlt' hnd'
    generalize hks : keyS e = s at *
    simp (disch := first | omega | assumption) only [go_sem, hne1, Oid.sub_not_under hb1, Oid.sub_not_under ho, Oid.not_under_sub hb1, Oid.not_under_sub ho, of_put_at, hk]
    refine hK ?_; clear hK hS hC hC1 K S C hf
    (repeat (first | (refine K_ifT rfl rfl ?_) | (refine K_ifF rfl rfl ?_) | (refine K_ev nmd [] hng (by kernel_rfl) fun hf C S K hC1 hC hS hK => ?_; simp (disch := first | omega | assumption) only [go_sem]; refine hK ?_; clear hK hS hC hC1 K S C hf) | ((first | refine zv ?_ | refine zw ?_ | refine zu ?_); with_reducible (constructor; repeat constructor); try refine zl ?_)))
    refine K_block ?_
    (repeat (first | (refine K_ifT rfl rfl ?_) | (refine K_ifF rfl rfl ?_) | (refine K_ev nmd [] hng (by kernel_rfl) fun hf C S K hC1 hC hS hK => ?_; simp (disch := first | omega | assumption) only [go_sem]; refine hK ?_; clear hK hS hC hC1 K S C hf) | ((first | refine zv ?_ | refine zw ?_ | refine zu ?_); with_reducible (constructor; repeat constructor); try refine zl ?_)))
    refine K_ev nmd [] hng (by kernel_rfl) fun hf C S K hC1 hC hS hK => ?_; simp (disch := first | omega | assumption) only [go_sem, hne1, Oid.sub_not_under hb1, Oid.sub_not_under ho, Oid.not_under_sub hb1, Oid.not_under_sub ho, of_put_at, hfi, hk, List.getLast?_concat]
    refine hK ?_; clear hK hS hC hC1 K S C hf
    (repeat (first | (refine K_ifT rfl rfl ?_) | (refine K_ifF rfl rfl ?_) | (refine K_ev nmd [] hng (by kernel_rfl) fun hf C S K hC1 hC hS hK => ?_; simp (disch := first | omega | assumption) only [go_sem]; refine hK ?_; clear hK hS hC hC1 K S C hf) | ((first | refine zv ?_ | refine zw ?_ | refine zu ?_); with_reducible (constructor; repeat constructor); try refine zl ?_)))
    have hnL : ∀ q ∈ L, ∀ q' ∈ ([(b1, .cells [.map o]), (o, .map [.ss] false es clock), (.sub 0 1 x.p, .iter (some o) clock (U.map ME.born ++ [e.born]) clock)] : List (Oid × AObj)), ¬ q.1 = q'.1 := fun q hq => by
      obtain ⟨_, a1, a2, a3, a4⟩ := hnm q hq
      simp only [fa_cons, fa_nil, Mem.of_cons_at, Mem.of_nil_at, Mem.of_upds, Mem.of_putL, putLs, putL, List.cons_append, List.nil_append, List.append_nil, ↓reduceIte, eq_self, and_true, true_and, and_self, and_false, false_and, reduceCtorEq, Oid.sub.injEq, Nat.reduceEqDiff, a1, a2, a3, not_false_eq_true]
    have hBm : ∀ q ∈ ([(b1, .cells [.map o]), (o, .map [.ss] false es clock), (.sub 0 1 x.p, .iter (some o) clock (U.map ME.born ++ [e.born]) clock)] : List (Oid × AObj)), Mem.of ([(b1, .cells [.map o]), (o, .map [.ss] false es clock), (.sub 0 1 x.p, .iter (some o) clock (U.map ME.born ++ [e.born]) clock)] ++ L) q.1 = some q.2 := by
      simp only [fa_cons, fa_nil, Mem.of_cons_at, Mem.of_nil_at, Mem.of_upds, Mem.of_putL, putLs, putL, List.cons_append, List.nil_append, List.append_nil, ↓reduceIte, eq_self, and_true, true_and, and_self, and_false, false_and, reduceCtorEq, Oid.sub.injEq, Nat.reduceEqDiff, hne1, Oid.sub_not_under hb1, Oid.sub_not_under ho, Oid.not_under_sub hb1, Oid.not_under_sub ho]
    have hall := cons_app hBm hnL hcc
    have hmm : (U ++ [e]).map ME.born = U.map ME.born ++ [e.born] := by simp
    have hlen2 : (U ++ [e]).length = U.length + 1 := by simp
    refine K_ev nmd [] hng (by kernel_rfl) fun hf C S K hC1 hC hS hK => ?_; simp (disch := first | omega | assumption) only [go_sem, hne1, Oid.sub_not_under hb1, Oid.sub_not_under ho, Oid.not_under_sub hb1, Oid.not_under_sub ho, of_put_at]
    refine hS _ _ _ (fun o' hd ho' => eff_yield ho' rfl (hY _ [.str s] L (.sub (c + 1 + 1) 2 x.p) hj rfl ⟨by rw [List.length_map]; rw [hlen2] at hle; omega, s, rfl⟩)) (fun q hq => hall q (List.mem_append_right _ hq)) ?_ (fun _ _ h => h.elim)
    rintro val upd ⟨b, L', rfl, hj', hU⟩
    have hym := yield_mem hU (fun q hq => hall q (List.mem_append_right _ hq)) hBm ?_
    rotate_left
    · intro q hq
      refine ⟨fun q' hq' => hnL q' hq' q hq, fun hu => ?_⟩
      simp only [List.mem_cons, List.not_mem_nil, or_false] at hq
      rcases hq with rfl | rfl | rfl
      · exact hb1 (Oid.under_sub hu)
      · exact ho (Oid.under_sub hu)
      · have := (Oid.apart hu (Oid.under_refl _)).1; omega
    have hcl : ∀ q ∈ L', Mem.of L' q.1 = some q.2 := fun q hq => by
      obtain ⟨o', ho'⟩ := Mem.of_some hq
      obtain ⟨q', h1, h2, h3⟩ := Mem.of_mem ho'
      have h4 := hym q (List.mem_append_right _ hq)
      have h5 := hym q' (List.mem_append_right _ h1)
      rw [h2, h4, h3] at h5
      rw [ho']; exact h5.symm
    simp (disch := first | omega | assumption) only [go_sem]
    refine hK ?_; clear hK hS hC hC1 K S C hf
    (repeat (first | (refine K_ifT rfl rfl ?_) | (refine K_ifF rfl rfl ?_) | (refine K_ev nmd [] hng (by kernel_rfl) fun hf C S K hC1 hC hS hK => ?_; simp (disch := first | omega | assumption) only [go_sem]; refine hK ?_; clear hK hS hC hC1 K S C hf) | ((first | refine zv ?_ | refine zw ?_ | refine zu ?_); with_reducible (constructor; repeat constructor); try refine zl ?_)))
    refine K_mem ([(b1, .cells [.map o]), (o, .map [.ss] false es clock), (.sub 0 1 x.p, .iter (some o) clock (U.map ME.born ++ [e.born]) clock)] ++ L') (by rw [← Mem.of_upds]; exact hym) ?_
    have hnm' : ∀ q ∈ L', ((∃ q' ∈ L0, q'.1 = q.1) ∨ Oid.under x.p q.1) ∧ ¬ q.1 = b1 ∧ ¬ q.1 = o ∧ ¬ q.1 = .sub 0 1 x.p ∧ ∀ d j, c + 1 + 1 + 1 ≤ d → ¬ Oid.under (.sub d j x.p) q.1 := fun q hq => by
      rcases hU.nam q hq with ⟨q', h1, h2⟩ | h1
      · obtain ⟨a0, a1, a2, a3, a4⟩ := hnm q' h1
        rw [h2] at a0 a1 a2 a3 a4
        exact ⟨a0, a1, a2, a3, fun d j hd => a4 d j (by omega)⟩
      · have hu := Oid.under_sub h1
        refine ⟨.inr hu, fun e => hb1 (e ▸ hu), fun e => ho (e ▸ hu), fun e => ?_, fun d j hd h2 => ?_⟩
        · rw [e] at h1; have := (Oid.apart h1 (Oid.under_refl _)).1; omega
        · have := (Oid.apart h1 h2).1; omega
    have hmap : ((U ++ [e]).map fun e => [AV.str (keyS e)]) = (U.map fun e => [AV.str (keyS e)]) ++ [[.str s]] := by simp [hks]
    have hnL' : ∀ q ∈ L', ∀ q' ∈ ([(b1, .cells [.map o]), (o, .map [.ss] false es clock), (.sub 0 1 x.p, .iter (some o) clock (U.map ME.born ++ [e.born]) clock)] : List (Oid × AObj)), ¬ q.1 = q'.1 := fun q hq => by
      obtain ⟨_, a1, a2, a3, a4⟩ := hnm' q hq
      simp only [fa_cons, fa_nil, Mem.of_cons_at, Mem.of_nil_at, Mem.of_upds, Mem.of_putL, putLs, putL, List.cons_append, List.nil_append, List.append_nil, ↓reduceIte, eq_self, and_true, true_and, and_self, and_false, false_and, reduceCtorEq, Oid.sub.injEq, Nat.reduceEqDiff, a1, a2, a3, not_false_eq_true]
    have hall' := cons_app (L := L') (B := [(b1, .cells [.map o]), (o, .map [.ss] false es clock), (.sub 0 1 x.p, .iter (some o) clock (U.map ME.born ++ [e.born]) clock)]) (fun q hq => by
      have := hym q (List.mem_append_left _ hq)
      revert q
      simp only [fa_cons, fa_nil, Mem.of_cons_at, Mem.of_nil_at, Mem.of_upds, Mem.of_putL, putLs, putL, List.cons_append, List.nil_append, List.append_nil, ↓reduceIte, eq_self, and_true, true_and, and_self, and_false, false_and, reduceCtorEq, Oid.sub.injEq, Nat.reduceEqDiff, hne1, Oid.sub_not_under hb1, Oid.sub_not_under ho, Oid.not_under_sub hb1, Oid.not_under_sub ho, implies_true]) hnL' hcl
    cases b with
    | true =>
      (repeat (first | (refine K_ifT rfl rfl ?_) | (refine K_ifF rfl rfl ?_) | (refine K_ev nmd [] hng (by kernel_rfl) fun hf C S K hC1 hC hS hK => ?_; simp (disch := first | omega | assumption) only [go_sem]; refine hK ?_; clear hK hS hC hC1 K S C hf) | ((first | refine zn ?_ | refine ze ?_ | refine zk ?_); with_reducible (constructor; repeat constructor); try refine zl ?_)))
      rw [← hmap] at hj'
      refine ⟨_, Mem.of ([(b1, .cells [.map o]), (o, .map [.ss] false es clock), (.sub 0 1 x.p, .iter (some o) clock (U.map ME.born ++ [e.born]) clock)] ++ L'), ?_, mem_sub hall', c + 1 + 1 + 1, U ++ [e], L', by rw [hmm]; rfl, by omega, rfl, hnd', hlt', hj', hcl, hnm'⟩
      rw [hlen2] at hle ⊢; omega
    | false =>
      refine K_ifT rfl rfl (K_ret ?_)
      subst hQ
      have hsw := swap_of (L := [(b1, .cells [.map o]), (o, .map [.ss] false es clock)] ++ L0) (L' := [(b1, .cells [.map o]), (o, .map [.ss] false es clock)] ++ L') (m := Mem.of ([(b1, .cells [.map o]), (o, .map [.ss] false es clock), (.sub 0 1 x.p, .iter (some o) clock (U.map ME.born ++ [e.born]) clock)] ++ L')) (sp := Oid.under x.p) (fun q hq => hall' q (by
          rcases List.mem_append.1 hq with hq | hq
          · exact List.mem_append_left _ (by simp only [List.mem_cons, List.not_mem_nil, or_false] at hq ⊢; rcases hq with h | h <;> simp [h])
          · exact List.mem_append_right _ hq)) (fun q hq => by
          rcases List.mem_append.1 hq with hq | hq
          · exact .inl ⟨q, List.mem_append_left _ hq, rfl⟩
          · rcases (hnm' q hq).1 with ⟨q', h1, h2⟩ | h
            · exact .inl ⟨q', List.mem_append_right _ h1, h2⟩
            · exact .inr h)
      exact done_ret _ _ rfl ⟨false, _, L', fun h => (by cases h), hj', hsw.1⟩ hsw.2
  · simp (disch := first | omega | assumption) only [go_sem]
    refine hK ?_; clear hK hS hC hC1 K S C hf
    (try ((first | refine zn ?_ | refine ze ?_ | refine zk ?_); with_reducible (constructor; repeat constructor)); try refine zl ?_)
    subst hQ
    have hfull := seen_perm hw2 hlt hnd fun e he => hall e he (hw1 e he).2
    have hnL : ∀ q ∈ L, ∀ q' ∈ ([(b1, .cells [.map o]), (o, .map [.ss] false es clock), (.sub 0 1 x.p, .iter (some o) clock (U.map ME.born) clock)] : List (Oid × AObj)), ¬ q.1 = q'.1 := fun q hq => by
      obtain ⟨_, a1, a2, a3, a4⟩ := hnm q hq
      simp only [fa_cons, fa_nil, Mem.of_cons_at, Mem.of_nil_at, Mem.of_upds, Mem.of_putL, putLs, putL, List.cons_append, List.nil_append, List.append_nil, ↓reduceIte, eq_self, and_true, true_and, and_self, and_false, false_and, reduceCtorEq, Oid.sub.injEq, Nat.reduceEqDiff, a1, a2, a3, not_false_eq_true]
    have hall' := cons_app (L := L) (B := [(b1, .cells [.map o]), (o, .map [.ss] false es clock), (.sub 0 1 x.p, .iter (some o) clock (U.map ME.born) clock)]) (by
      simp only [fa_cons, fa_nil, Mem.of_cons_at, Mem.of_nil_at, Mem.of_upds, Mem.of_putL, putLs, putL, List.cons_append, List.nil_append, List.append_nil, ↓reduceIte, eq_self, and_true, true_and, and_self, and_false, false_and, reduceCtorEq, Oid.sub.injEq, Nat.reduceEqDiff, hne1, Oid.sub_not_under hb1, Oid.sub_not_under ho, Oid.not_under_sub hb1, Oid.not_under_sub ho]) hnL hcc
    have hsw := swap_of (L := [(b1, .cells [.map o]), (o, .map [.ss] false es clock)] ++ L0) (L' := [(b1, .cells [.map o]), (o, .map [.ss] false es clock)] ++ L) (m := Mem.of ([(b1, .cells [.map o]), (o, .map [.ss] false es clock), (.sub 0 1 x.p, .iter (some o) clock (U.map ME.born) clock)] ++ L)) (sp := Oid.under x.p) (fun q hq => hall' q (by
          rcases List.mem_append.1 hq with hq | hq
          · exact List.mem_append_left _ (by simp only [List.mem_cons, List.not_mem_nil, or_false] at hq ⊢; rcases hq with h | h <;> simp [h])
          · exact List.mem_append_right _ hq)) (fun q hq => by
          rcases List.mem_append.1 hq with hq | hq
          · exact .inl ⟨q, List.mem_append_left _ hq, rfl⟩
          · rcases (hnm q hq).1 with ⟨q', h1, h2⟩ | h
            · exact .inl ⟨q', List.mem_append_right _ h1, h2⟩
            · exact .inr h)
    refine K_ifF rfl rfl ?_
    (try ((first | refine zn ?_ | refine ze ?_ | refine zk ?_); with_reducible (constructor; repeat constructor)); try refine zl ?_)
    refine K_nil ?_
    exact done_normal _ _ rfl ⟨true, _, L, fun _ => ⟨U, hfull, rfl⟩, hj, hsw.1⟩ hsw.2
theorem keysW_ok (o : Oid) (p : Oid) (ho : ¬ Oid.under p o) : CallOK Tryz.prog 70 [.map o] (Oid.under p) ⟨[], .fn (.func 119) [] [.ptr (.sub 0 0 p) 0], [(.sub 0 0 p, some (.cells [.map o]))]⟩ := by
  refine fnOK (n := 4) (rs := [.tmp 2]) Tryz.func70 rfl rfl (by decide) rfl rfl rfl ?_; rintro x rfl hrd hng
  (repeat (first | (refine K_ifT rfl rfl ?_) | (refine K_ifF rfl rfl ?_) | (refine K_ev nmd [] hng (by kernel_rfl) fun hf C S K hC1 hC hS hK => ?_; simp (disch := first | omega | assumption) only [go_sem]; refine hK ?_; clear hK hS hC hC1 K S C hf) | ((first | refine zn ?_ | refine ze ?_ | refine zk ?_); with_reducible (constructor; repeat constructor); try refine zl ?_)))
  refine K_ret (done_ret _ _ rfl ⟨rfl, rfl⟩ ?_)
  intro i o' h
  rw [Mem.of_upds] at h
  exact h
end Go.Proofs.YtaecbmbecofijaaGreatDoor
namespace Go.Proofs
open Go.Shelf
def Tryz.lays125_ren : Go.Shelf.Ren := ⟨fun | 125 => 112 | 128 => 152 | 129 => 153 | n => n, fun | 46 => 153 | 3 => 3 | 51 => 184 | 53 => 186 | 4 => 4 | 5 => 5 | 9 => 9 | n => n, fun | n => n⟩
theorem Tryz.lays125 : Go.Proofs.Lays.n125 Tryz.prog Tryz.lays125_ren := {
  mixed := by kernel_rfl
  f125 := Tryz.func112.trans (congrArg some (by kernel_rfl))
  f128 := Tryz.func152.trans (congrArg some (by kernel_rfl))
  f129 := Tryz.func153.trans (congrArg some (by kernel_rfl))
  t3 := Tryz.underlying3
  a3 := Tryz.isAgg3
  z3 := Tryz.sizeOf3
  v3 := Tryz.zeroValue3
  t4 := Tryz.underlying4
  a4 := Tryz.isAgg4
  z4 := Tryz.sizeOf4
  v4 := Tryz.zeroValue4
  t5 := Tryz.underlying5
  a5 := Tryz.isAgg5
  z5 := Tryz.sizeOf5
  v5 := Tryz.zeroValue5
  t9 := Tryz.underlying9
  a9 := Tryz.isAgg9
  z9 := Tryz.sizeOf9
  v9 := Tryz.zeroValue9
  t46 := Tryz.underlying153
  a46 := Tryz.isAgg153
  z46 := Tryz.sizeOf153
  v46 := Tryz.zeroValue153
  t51 := Tryz.underlying184
  a51 := Tryz.isAgg184
  z51 := Tryz.sizeOf184
  v51 := Tryz.zeroValue184
  t53 := Tryz.underlying186
  a53 := Tryz.isAgg186
  z53 := Tryz.sizeOf186
  v53 := Tryz.zeroValue186 }
theorem Tryz.bits_Len (x : Int) (w : World) (h0 : 0 ≤ x) (h1 : x ≤ 18446744073709551615) :
    Calls Tryz.prog 112 #[.int .u64 x] w fun e w' => e = .returned (.int .i64 (Lib.bitLen x.toNat)) ∧ w' = w := Any.bits_Len Tryz.lays125 x w h0 h1
end Go.Proofs
namespace Go.Proofs.YtaecbmbecofijaaGreatDoor
open Go Go.Ab
set_option maxRecDepth 20000
set_option maxHeartbeats 4000000
theorem bitsLen0_ok (sp : Oid → Prop) : CallOK Tryz.prog 112 [.int .u64 0] sp ⟨[], .int .i64 0, []⟩ :=
  callOK_same (by kernel_rfl) fun g args w ha _ => by
    obtain ⟨v, rfl, hv⟩ := ha.one
    obtain rfl := hv.int_inv
    refine (Tryz.bits_Len 0 w (by decide) (by decide)).mono ?_
    rintro e w' ⟨rfl, rfl⟩
    exact ⟨_, rfl, .int _ _, rfl⟩
theorem insertion0_ok (id : Oid) (f : AV) (p : Oid) : CallOK Tryz.prog 144 [.sl id 3 0, .int .i64 0, .int .i64 0, f] (Oid.under p) ⟨[], .tuple [], []⟩ := by
  refine fnOK (n := 53) (rs := []) Tryz.func144 rfl rfl (by decide) rfl rfl rfl ?_; rintro x rfl hrd hng
  (repeat (first | (refine K_ifT rfl rfl ?_) | (refine K_ifF rfl rfl ?_) | (refine K_ev nmd [] hng (by kernel_rfl) fun hf C S K hC1 hC hS hK => ?_; simp (disch := first | omega | assumption) only [go_sem]; refine hK ?_; clear hK hS hC hC1 K S C hf) | ((first | refine zn ?_ | refine ze ?_ | refine zk ?_); with_reducible (constructor; repeat constructor); try refine zl ?_)))
  refine K_loop [2, 8] (fun k s' => ∃ c : Nat, k = 0 ∧ s' = ⟨[(2, .int .i64 0), (8, .int .i64 1)], Mem.of [], c, []⟩) _ ⟨_, rfl, rfl⟩ ?_
  rintro k s' ⟨c, rfl, rfl⟩
  (repeat (first | (refine K_ifT rfl rfl ?_) | (refine K_ifF rfl rfl ?_) | (refine K_ev nmd [] hng (by kernel_rfl) fun hf C S K hC1 hC hS hK => ?_; simp (disch := first | omega | assumption) only [go_sem]; refine hK ?_; clear hK hS hC hC1 K S C hf) | ((first | refine zn ?_ | refine ze ?_ | refine zk ?_); with_reducible (constructor; repeat constructor); try refine zl ?_)))
  exact K_nil (done_updN rfl (fun _ h => by cases h) (fun _ h => by cases h))
theorem pdq0_ok (id : Oid) (f : AV) (p : Oid) : CallOK Tryz.prog 111 [.sl id 3 0, .int .i64 0, .int .i64 0, .int .i64 0, f] (Oid.under p) ⟨[], .tuple [], []⟩ := by
  refine fnOK (n := 148) (rs := []) Tryz.func111 rfl rfl (by decide) rfl rfl rfl ?_; rintro x rfl hrd hng
  (repeat (first | (refine K_ifT rfl rfl ?_) | (refine K_ifF rfl rfl ?_) | (refine K_ev nmd [] hng (by kernel_rfl) fun hf C S K hC1 hC hS hK => ?_; simp (disch := first | omega | assumption) only [go_sem]; refine hK ?_; clear hK hS hC hC1 K S C hf) | ((first | refine zn ?_ | refine ze ?_ | refine zk ?_); with_reducible (constructor; repeat constructor); try refine zl ?_)))
  refine K_loop [0, 1, 2, 3, 4, 10, 11] (fun k s' => ∃ c : Nat, k = 0 ∧ s' = ⟨[(0, .sl id 3 0), (1, .int .i64 0), (2, .int .i64 0), (3, .int .i64 0), (4, f), (10, .bool true), (11, .bool true)], Mem.of [], c, []⟩) _ ⟨_, rfl, rfl⟩ ?_
  rintro k s' ⟨c, rfl, rfl⟩
  (repeat (first | (refine K_ifT rfl rfl ?_) | (refine K_ifF rfl rfl ?_) | (refine K_ev nmd [] hng (by kernel_rfl) fun hf C S K hC1 hC hS hK => ?_; simp (disch := first | omega | assumption) only [go_sem]; (repeat ((first | refine hC1 _ (insertion0_ok id f _) (by simp (disch := first | omega | assumption) only [go_sem]) ?_); simp (disch := first | omega | assumption) only [go_sem])); refine hK ?_; clear hK hS hC hC1 K S C hf) | ((first | refine zn ?_ | refine ze ?_ | refine zk ?_); with_reducible (constructor; repeat constructor); try refine zl ?_)))
  exact K_ret (done_plain rfl)
theorem sort0_ok (id : Oid) (f : AV) (p : Oid) : CallOK Tryz.prog 67 [.sl id 3 0, f] (Oid.under p) ⟨[], .tuple [], []⟩ := by
  refine fnOK (n := 14) (rs := []) Tryz.func67 rfl rfl (by decide) rfl rfl rfl ?_; rintro x rfl hrd hng
  (repeat (first | (refine K_ifT rfl rfl ?_) | (refine K_ifF rfl rfl ?_) | (refine K_ev nmd [] hng (by kernel_rfl) fun hf C S K hC1 hC hS hK => ?_; simp (disch := first | omega | assumption) only [go_sem]; (repeat ((first | refine hC1 _ (bitsLen0_ok _) (by simp (disch := first | omega | assumption) only [go_sem]) ?_ | refine hC1 _ (pdq0_ok id f _) (by simp (disch := first | omega | assumption) only [go_sem]) ?_); simp (disch := first | omega | assumption) only [go_sem])); refine hK ?_; clear hK hS hC hC1 K S C hf) | ((first | refine zn ?_ | refine ze ?_ | refine zk ?_); with_reducible (constructor; repeat constructor); try refine zl ?_)))
  exact K_nil (done_updN rfl (fun _ h => by cases h) (fun _ h => by cases h))
end Go.Proofs.YtaecbmbecofijaaGreatDoor
namespace Go.Proofs.YtaecbmbecofijaaGreatDoor
open Go Go.Ab
set_option maxRecDepth 20000
set_option maxHeartbeats 40000000
def decT3 (e : ME) : Tch := match e.key, e.val with
  | .agg [.str a, .bool b], .str v => ((a, b), v)
  | _, _ => (([], false), [])
theorem decT3_map (T : List ((Str × Bool) × Str × Nat)) : (T.map (entG keyF AV.str)).map decT3 = T.map prj := by
  rw [List.map_map]; rfl
theorem keysW_eq {es : List ME} {W : WL} (h : MapG AV.str (fun _ : Unit => .bool true) es W) (hs : SortG ltB W) : sortS (es.map keyS) = W.map (·.1) := by
  refine sortS_eq ?_ (List.pairwise_map.2 (hs.imp fun {a b} h => List.le_of_lt (ltS_lt h)))
  obtain ⟨E, rfl, h2, _⟩ := h
  have h3 : (E.map (entG AV.str (fun _ : Unit => AV.bool true))).map keyS = (E.map prj).map (·.1) := by
    rw [List.map_map, List.map_map]; rfl
  rw [h3]
  exact h2.map _
section
variable (st t tr o rd wr : Oid) (hn : [wr, rd, o, tr, t, st].Nodup) (es eso esr esw : List ME) (clock co cr cw : Nat)
include hn
theorem endT_ok (L : PL) (R : RL) (W : WL) (hm3 : MapG keyF AV.str esr R) (hR : SortG ltF R) (hRl : R.length ≤ 1000000) (hm4 : MapG AV.str (fun _ : Unit => .bool true) esw W) (hW : SortG ltB W) (hWl : W.length ≤ 1000000) (hm1 : MapP es L) (ho1 : POk L) (hno : PNat L) (p : Oid) (hp : p.mono = false) (hu : ∀ i ∈ [st, t, tr, o, rd, wr], ¬ Oid.under p i) :
    CallOK Tryz.prog 26 [.ptr st 0] (Oid.under p) ⟨[(st, .cells [.map t, .ptr tr 0]), (t, .map [.ss] false es clock), (tr, .cells [.map o, .map rd, .map wr]), (o, .map [.ss] false eso co), (rd, .map [.ss, .sb] true esr cr), (wr, .map [.ss] false esw cw)], .tuple [.list 3 (R.map tchAV), .list 3 (W.map fun w => tchAV ((w.1, false), valT (getP L w.1)))], [(st, some (.cells [.map t, .nilPtr]))]⟩ := by
  simp only [List.nodup_cons, List.mem_cons, List.not_mem_nil, or_false, not_or, not_false_eq_true, List.nodup_nil, and_true] at hn; simp only [List.mem_cons, List.not_mem_nil, or_false, forall_eq_or_imp, forall_eq] at hu; have hd := hn; obtain ⟨u1, u2, u3, u4, u5, u6⟩ := hu
  refine fnOK (n := 69) (rs := [.tmp 2, .tmp 3]) Tryz.func26 rfl rfl (by decide) rfl rfl rfl ?_; rintro x rfl hrd hng
  refine T_wf fun hwf => ?_
  obtain ⟨hw1, hw2⟩ := hwf rd [.ss, .sb] true esr cr (by simp only [fa_cons, fa_nil, Mem.of_cons_at, Mem.of_nil_at, Mem.of_upds, Mem.of_putL, putLs, putL, List.cons_append, List.nil_append, List.append_nil, ↓reduceIte, eq_self, and_true, true_and, and_self, and_false, false_and, reduceCtorEq, Oid.sub.injEq, Nat.reduceEqDiff, hd, Oid.not_under_sub u1, Oid.sub_not_under u1, Oid.not_under_sub u2, Oid.sub_not_under u2, Oid.not_under_sub u3, Oid.sub_not_under u3, Oid.not_under_sub u4, Oid.sub_not_under u4, Oid.not_under_sub u5, Oid.sub_not_under u5, Oid.not_under_sub u6, Oid.sub_not_under u6])
  (repeat (first | (refine K_ifT rfl rfl ?_) | (refine K_ifF rfl rfl ?_) | (refine K_ev nmd [] hng (by kernel_rfl) fun hf C S K hC1 hC hS hK => ?_; simp (disch := first | omega | assumption) only [go_sem, hd, Oid.not_under_sub u1, Oid.sub_not_under u1, Oid.not_under_sub u2, Oid.sub_not_under u2, Oid.not_under_sub u3, Oid.sub_not_under u3, Oid.not_under_sub u4, Oid.sub_not_under u4, Oid.not_under_sub u5, Oid.sub_not_under u5, Oid.not_under_sub u6, Oid.sub_not_under u6]; refine hK ?_; clear hK hS hC hC1 K S C hf) | ((first | refine zn ?_ | refine ze ?_ | refine zk ?_); with_reducible (constructor; repeat constructor); try refine zl ?_)))
  obtain ⟨E, hE0, hE, hEn⟩ := hm3
  have hmE : ∀ q ∈ E, entG keyF AV.str q ∈ esr := fun q hq => by rw [hE0]; exact List.mem_map_of_mem hq
  have hEl : E.length = R.length := by rw [← hE.length_eq, List.length_map]
  refine K_void 2 3 rfl ?_
  simp (disch := first | omega | assumption) only [go_sem, hd, Oid.not_under_sub u1, Oid.sub_not_under u1, Oid.not_under_sub u2, Oid.sub_not_under u2, Oid.not_under_sub u3, Oid.sub_not_under u3, Oid.not_under_sub u4, Oid.sub_not_under u4, Oid.not_under_sub u5, Oid.sub_not_under u5, Oid.not_under_sub u6, Oid.sub_not_under u6]
  refine K_loop [0, 2, 3, 20] (fun k s' => ∃ (c d j : Nat) (T : List ((Str × Bool) × Str × Nat)), s' = ⟨[(0, .ptr st 0), (2, .sl (.sub d j x.p) 3 T.length), (3, .nilSl), (20, .iter (.sub 2 7 x.p))], Mem.of [(st, .cells [.map t, .ptr tr 0]), (t, .map [.ss] false es clock), (tr, .cells [.map o, .map rd, .map wr]), (o, .map [.ss] false eso co), (rd, .map [.ss, .sb] true esr cr), (wr, .map [.ss] false esw cw), (.sub 2 7 x.p, .iter (some rd) cr ((T.map (entG keyF AV.str)).map ME.born) cr), (.sub d j x.p, .arr 3 ((T.map prj).map tchAV))], c, []⟩ ∧ k = E.length - T.length ∧ 2 < d ∧ d < c ∧ ((T.map (entG keyF AV.str)).map ME.born).Nodup ∧ (∀ e ∈ T, e ∈ E)) _ ⟨4, 3, 0, [], rfl, rfl, by omega, by omega, by simp, fun e h => by cases h⟩ ?_
  rintro k s' ⟨c, d, j, T, rfl, rfl, hd2, hdc, hnd, hlt⟩
  have hst : (T.map (entG keyF AV.str)).map ME.born = [] ∨ esr = [] ∨ ∃ e ∈ esr, e.born < cr := by
    cases T with
    | nil => exact .inl rfl
    | cons e _ => exact .inr (.inr ⟨entG keyF AV.str e, hmE e (hlt e List.mem_cons_self), (hw1 _ (hmE e (hlt e List.mem_cons_self))).2⟩)
  have hd7 : ¬ d = 2 := by omega
  (try ((first | refine zn ?_ | refine ze ?_ | refine zk ?_); with_reducible (constructor; repeat constructor)); try refine zl ?_)
  refine K_ev nmd [] hng (by kernel_rfl) fun hf C S K hC1 hC hS hK => ?_; simp (disch := first | omega | assumption) only [go_sem]
  refine hS _ _ _ (fun o' hd' ho' => nd_next (it := .sub 2 7 x.p) (id := rd) (since := cr) (ks := [.ss, .sb]) (ag := true) (clock := cr) ho' rfl hst) ?_ ?_ (fun _ _ h => h.elim)
  · simp only [fa_cons, fa_nil, Mem.of_cons_at, Mem.of_nil_at, Mem.of_upds, Mem.of_putL, putLs, putL, List.cons_append, List.nil_append, List.append_nil, ↓reduceIte, eq_self, and_true, true_and, and_self, and_false, false_and, reduceCtorEq, Oid.sub.injEq, Nat.reduceEqDiff, hd, Oid.not_under_sub u1, Oid.sub_not_under u1, Oid.not_under_sub u2, Oid.sub_not_under u2, Oid.not_under_sub u3, Oid.sub_not_under u3, Oid.not_under_sub u4, Oid.sub_not_under u4, Oid.not_under_sub u5, Oid.sub_not_under u5, Oid.not_under_sub u6, Oid.sub_not_under u6]
  rintro val upd (⟨e, he, hns, rfl, rfl⟩ | ⟨hall, rfl, rfl⟩)
  · have hfi := find_born hw2 he
    rw [hE0] at he
    obtain ⟨q, hq, rfl⟩ := List.mem_map.1 he
    obtain ⟨⟨qn, qf⟩, qv, qb⟩ := q
    simp only [entG, keyF] at hfi hns ⊢
    simp (disch := first | omega | assumption) only [go_sem, hd, Oid.not_under_sub u1, Oid.sub_not_under u1, Oid.not_under_sub u2, Oid.sub_not_under u2, Oid.not_under_sub u3, Oid.sub_not_under u3, Oid.not_under_sub u4, Oid.sub_not_under u4, Oid.not_under_sub u5, Oid.sub_not_under u5, Oid.not_under_sub u6, Oid.sub_not_under u6, of_put_at]
    refine hK ?_; clear hK hS hC hC1 K S C hf
    (repeat (first | (refine K_ifT rfl rfl ?_) | (refine K_ifF rfl rfl ?_) | (refine K_ev nmd [] hng (by kernel_rfl) fun hf C S K hC1 hC hS hK => ?_; simp (disch := first | omega | assumption) only [go_sem]; refine hK ?_; clear hK hS hC hC1 K S C hf) | ((first | refine zv ?_ | refine zw ?_ | refine zu ?_); with_reducible (constructor; repeat constructor); try refine zl ?_)))
    refine K_block ?_
    (repeat (first | (refine K_ifT rfl rfl ?_) | (refine K_ifF rfl rfl ?_) | (refine K_ev nmd [] hng (by kernel_rfl) fun hf C S K hC1 hC hS hK => ?_; simp (disch := first | omega | assumption) only [go_sem]; refine hK ?_; clear hK hS hC hC1 K S C hf) | ((first | refine zv ?_ | refine zw ?_ | refine zu ?_); with_reducible (constructor; repeat constructor); try refine zl ?_)))
    refine K_ev nmd [] hng (by kernel_rfl) fun hf C S K hC1 hC hS hK => ?_; simp (disch := first | omega | assumption) only [go_sem, hd, Oid.not_under_sub u1, Oid.sub_not_under u1, Oid.not_under_sub u2, Oid.sub_not_under u2, Oid.not_under_sub u3, Oid.sub_not_under u3, Oid.not_under_sub u4, Oid.sub_not_under u4, Oid.not_under_sub u5, Oid.sub_not_under u5, Oid.not_under_sub u6, Oid.sub_not_under u6, of_put_at, hfi, List.getLast?_concat]
    refine hK ?_; clear hK hS hC hC1 K S C hf
    have hlen : (((T.map prj).map tchAV).length) = T.length := by simp
    have hnd' : (((T ++ [((qn, qf), qv, qb)]).map (entG keyF AV.str)).map ME.born).Nodup := by
      rw [List.map_append, List.map_append]
      exact List.nodup_append.2 ⟨hnd, by simp, fun a ha b hb' e' => by simp [entG] at hb'; subst hb'; subst e'; exact hns ha⟩
    have hlt' : ∀ e ∈ T ++ [((qn, qf), qv, qb)], e ∈ E := fun e he => by
      rcases List.mem_append.1 he with he | he
      · exact hlt e he
      · rw [List.mem_singleton.1 he]; exact hq
    have hle : (T ++ [((qn, qf), qv, qb)]).length ≤ E.length := by
      have h1 := sub_len (U := (T ++ [((qn, qf), qv, qb)]).map (entG keyF AV.str)) hw2 (fun e he => by
        obtain ⟨q', h1, rfl⟩ := List.mem_map.1 he
        exact hmE q' (hlt' q' h1)) hnd'
      rw [hE0, List.length_map, List.length_map] at h1
      exact h1
    rw [List.length_append, List.length_singleton] at hle
    (repeat (first | (refine K_ifT rfl rfl ?_) | (refine K_ifF rfl rfl ?_) | (refine K_ev nmd [] hng (by kernel_rfl) fun hf C S K hC1 hC hS hK => ?_; simp (disch := first | omega | assumption) only [go_sem, hd, Oid.not_under_sub u1, Oid.sub_not_under u1, Oid.not_under_sub u2, Oid.sub_not_under u2, Oid.not_under_sub u3, Oid.sub_not_under u3, Oid.not_under_sub u4, Oid.sub_not_under u4, Oid.not_under_sub u5, Oid.sub_not_under u5, Oid.not_under_sub u6, Oid.sub_not_under u6, of_put_at, AV.cells, hd7]; refine hK ?_; clear hK hS hC hC1 K S C hf) | ((first | refine zn ?_ | refine ze ?_ | refine zk ?_); with_reducible (constructor; repeat constructor); try refine zl ?_)))
    obtain ⟨T2, hT2⟩ : ∃ T2, T2 = T ++ [((qn, qf), qv, qb)] := ⟨_, rfl⟩
    rw [← hT2] at hnd' hlt'
    have h1 : (T2.map (entG keyF AV.str)).map ME.born = (T.map (entG keyF AV.str)).map ME.born ++ [qb] := by rw [hT2]; simp [entG]
    have h2 : (T2.map prj).map tchAV = (T.map prj).map tchAV ++ [.agg [.str qn, .bool qf, .str qv]] := by rw [hT2]; simp [prj, tchAV]
    have h3 : T2.length = T.length + 1 := by rw [hT2]; simp
    refine ⟨_, Mem.of [(st, .cells [.map t, .ptr tr 0]), (t, .map [.ss] false es clock), (tr, .cells [.map o, .map rd, .map wr]), (o, .map [.ss] false eso co), (rd, .map [.ss, .sb] true esr cr), (wr, .map [.ss] false esw cw), (.sub 2 7 x.p, .iter (some rd) cr ((T2.map (entG keyF AV.str)).map ME.born) cr), (.sub (c + 1 + 1) 8 x.p, .arr 3 ((T2.map prj).map tchAV))], ?_, mem_sub ?_, c + 1 + 1 + 1, c + 1 + 1, 8, T2, ?_, rfl, by omega, by omega, hnd', hlt'⟩
    · omega
    · rw [h1, h2]
      simp only [fa_cons, fa_nil, Mem.of_cons_at, Mem.of_nil_at, Mem.of_upds, Mem.of_putL, putLs, putL, List.cons_append, List.nil_append, List.append_nil, ↓reduceIte, eq_self, and_true, true_and, and_self, and_false, false_and, reduceCtorEq, Oid.sub.injEq, Nat.reduceEqDiff, hd, Oid.not_under_sub u1, Oid.sub_not_under u1, Oid.not_under_sub u2, Oid.sub_not_under u2, Oid.not_under_sub u3, Oid.sub_not_under u3, Oid.not_under_sub u4, Oid.sub_not_under u4, Oid.not_under_sub u5, Oid.sub_not_under u5, Oid.not_under_sub u6, Oid.sub_not_under u6]
    · rw [h3]; rfl
  · have hfull := seen_perm hw2 (S := T.map (entG keyF AV.str)) (fun e he => by
      obtain ⟨q', h1, rfl⟩ := List.mem_map.1 he
      exact hmE q' (hlt q' h1)) hnd fun e he => hall e he (hw1 e he).2
    have hTp : (T.map prj).Perm R := by
      have h1 := hfull.map decT3
      rw [decT3_map, hE0, decT3_map] at h1
      exact h1.trans hE
    have hlm : T.length = (T.map prj).length := by simp
    simp (disch := first | omega | assumption) only [go_sem, hd, Oid.not_under_sub u1, Oid.sub_not_under u1, Oid.not_under_sub u2, Oid.sub_not_under u2, Oid.not_under_sub u3, Oid.sub_not_under u3, Oid.not_under_sub u4, Oid.sub_not_under u4, Oid.not_under_sub u5, Oid.sub_not_under u5, Oid.not_under_sub u6, Oid.sub_not_under u6, of_put_at]
    refine hK ?_; clear hK hS hC hC1 K S C hf
    (repeat (first | (refine K_ifT rfl rfl ?_) | (refine K_ifF rfl rfl ?_) | (refine K_ev nmd [] hng (by kernel_rfl) fun hf C S K hC1 hC hS hK => ?_; simp (disch := first | omega | assumption) only [go_sem]; refine hK ?_; clear hK hS hC hC1 K S C hf) | ((first | refine zn ?_ | refine ze ?_ | refine zk ?_); with_reducible (constructor; repeat constructor); try refine zl ?_)))
    refine K_mem [(st, .cells [.map t, .ptr tr 0]), (t, .map [.ss] false es clock), (tr, .cells [.map o, .map rd, .map wr]), (o, .map [.ss] false eso co), (rd, .map [.ss, .sb] true esr cr), (wr, .map [.ss] false esw cw), (.sub d j x.p, .arr 3 ((T.map prj).map tchAV))] (by simp only [fa_cons, fa_nil, Mem.of_cons_at, Mem.of_nil_at, Mem.of_upds, Mem.of_putL, putLs, putL, List.cons_append, List.nil_append, List.append_nil, ↓reduceIte, eq_self, and_true, true_and, and_self, and_false, false_and, reduceCtorEq, Oid.sub.injEq, Nat.reduceEqDiff, hd, Oid.not_under_sub u1, Oid.sub_not_under u1, Oid.not_under_sub u2, Oid.sub_not_under u2, Oid.not_under_sub u3, Oid.sub_not_under u3, Oid.not_under_sub u4, Oid.sub_not_under u4, Oid.not_under_sub u5, Oid.sub_not_under u5, Oid.not_under_sub u6, Oid.sub_not_under u6, hd7]) ?_
    rw [hlm]
    generalize T.map prj = l at hTp
    refine K_cut [0, 2, 3] (fun s' => ∃ c2 : Nat, s' = ⟨[(0, .ptr st 0), (2, .sl (.sub d j x.p) 3 R.length), (3, .nilSl)], Mem.of [(st, .cells [.map t, .ptr tr 0]), (t, .map [.ss] false es clock), (tr, .cells [.map o, .map rd, .map wr]), (o, .map [.ss] false eso co), (rd, .map [.ss, .sb] true esr cr), (wr, .map [.ss] false esw cw), (.sub d j x.p, .arr 3 (R.map tchAV))], c2, []⟩ ∧ d < c2) ?_ ?_
    · by_cases hl0 : l = []
      · subst hl0
        obtain rfl : R = [] := List.nil_perm.1 hTp
        refine K_ev nmd [] hng (by kernel_rfl) fun hf C S K hC1 hC hS hK => ?_; simp (disch := first | omega | assumption) only [go_sem, List.length_nil, List.map_nil]
        refine hC1 _ (sort0_ok (.sub d j x.p) _ _) (by simp (disch := first | omega | assumption) only [go_sem]) ?_
        simp (disch := first | omega | assumption) only [go_sem, hd, Oid.not_under_sub u1, Oid.sub_not_under u1, Oid.not_under_sub u2, Oid.sub_not_under u2, Oid.not_under_sub u3, Oid.sub_not_under u3, Oid.not_under_sub u4, Oid.sub_not_under u4, Oid.not_under_sub u5, Oid.sub_not_under u5, Oid.not_under_sub u6, Oid.sub_not_under u6, of_put_at]
        refine hK ?_; clear hK hS hC hC1 K S C hf
        exact K_cutN ⟨_, rfl, by omega⟩
      · refine K_ev nmd [] hng (by kernel_rfl) fun hf C S K hC1 hC hS hK => ?_; simp (disch := first | omega | assumption) only [go_sem]
        refine hC _ _ _ (sort_tch l hl0 (by have := hTp.length_eq; omega) (.sub d j x.p) _) ?_ ?_ (fun _ _ h => h.elim)
        · simp only [fa_cons, fa_nil, Mem.of_cons_at, Mem.of_nil_at, Mem.of_upds, Mem.of_putL, putLs, putL, List.cons_append, List.nil_append, List.append_nil, ↓reduceIte, eq_self, and_true, true_and, and_self, and_false, false_and, reduceCtorEq, Oid.sub.injEq, Nat.reduceEqDiff, hd, Oid.not_under_sub u1, Oid.sub_not_under u1, Oid.not_under_sub u2, Oid.sub_not_under u2, Oid.not_under_sub u3, Oid.sub_not_under u3, Oid.not_under_sub u4, Oid.sub_not_under u4, Oid.not_under_sub u5, Oid.sub_not_under u5, Oid.not_under_sub u6, Oid.sub_not_under u6]
        rintro val upd ⟨rfl, l', hp', hs', rfl⟩
        obtain rfl : l' = R := rank_sorted (hp'.trans hTp) hR hs'
        rw [hTp.length_eq]
        simp (disch := first | omega | assumption) only [go_sem, hd, Oid.not_under_sub u1, Oid.sub_not_under u1, Oid.not_under_sub u2, Oid.sub_not_under u2, Oid.not_under_sub u3, Oid.sub_not_under u3, Oid.not_under_sub u4, Oid.sub_not_under u4, Oid.not_under_sub u5, Oid.sub_not_under u5, Oid.not_under_sub u6, Oid.sub_not_under u6, of_put_at]
        refine hK ?_; clear hK hS hC hC1 K S C hf
        exact K_cutN ⟨_, rfl, by omega⟩
    rintro s' ⟨c2, rfl, hdc2⟩
    refine K_freeze (.sub d j x.p) 3 (R.map tchAV) (by simp (disch := first | omega | assumption) only [go_sem, hd, Oid.not_under_sub u1, Oid.sub_not_under u1, Oid.not_under_sub u2, Oid.sub_not_under u2, Oid.not_under_sub u3, Oid.sub_not_under u3, Oid.not_under_sub u4, Oid.sub_not_under u4, Oid.not_under_sub u5, Oid.sub_not_under u5, Oid.not_under_sub u6, Oid.sub_not_under u6]) ?_
    refine K_void 3 3 (by simp (disch := first | omega | assumption) only [go_sem]) ?_
    simp (disch := first | omega | assumption) only [go_sem, hd, Oid.not_under_sub u1, Oid.sub_not_under u1, Oid.not_under_sub u2, Oid.sub_not_under u2, Oid.not_under_sub u3, Oid.sub_not_under u3, Oid.not_under_sub u4, Oid.sub_not_under u4, Oid.not_under_sub u5, Oid.sub_not_under u5, Oid.not_under_sub u6, Oid.sub_not_under u6, List.length_map]
    have u6' : ∀ c i, ¬ Oid.under (.sub c i x.p) wr := fun c i h => u6 (Oid.under_sub h)
    have u2' : ∀ c i, ¬ Oid.under (.sub c i x.p) t := fun c i h => u2 (Oid.under_sub h)
    have v1 : ¬ Oid.under (.sub (c2 + 1) 7 x.p) st := fun h => u1 (Oid.under_sub h)
    have v2 : ¬ Oid.under (.sub (c2 + 1) 7 x.p) t := fun h => u2 (Oid.under_sub h)
    have v3 : ¬ Oid.under (.sub (c2 + 1) 7 x.p) tr := fun h => u3 (Oid.under_sub h)
    have v4 : ¬ Oid.under (.sub (c2 + 1) 7 x.p) o := fun h => u4 (Oid.under_sub h)
    have v5 : ¬ Oid.under (.sub (c2 + 1) 7 x.p) rd := fun h => u5 (Oid.under_sub h)
    have v6 : ¬ Oid.under (.sub (c2 + 1) 7 x.p) wr := fun h => u6 (Oid.under_sub h)
    have hcc1 : (Oid.sub 0 0 (.sub (c2 + 1) 7 x.p) = .sub c2 0 x.p) = False := eq_false fun h => by
      have := congrArg Oid.depth h; simp only [Oid.depth] at this; omega
    have hu12 : Oid.under (.sub (c2 + 1) 7 x.p) (.sub 0 0 (.sub (c2 + 1) 7 x.p)) := Oid.under_sub (Oid.under_refl _)
    have hapt : ∀ p', Oid.under (.sub (c2 + 1) 8 x.p) p' → ¬ Oid.under p' (.sub 0 0 (.sub (c2 + 1) 7 x.p)) := fun p' h h2 => by
      have := (Oid.apart (Oid.under_trans h h2) hu12).2
      omega
    have hwl : esw.length = W.length := by obtain ⟨E2, rfl, hE2, _⟩ := hm4; rw [List.length_map, ← hE2.length_eq, List.length_map]
    have hks := keysW_eq hm4 hW
    (try ((first | refine zn ?_ | refine ze ?_ | refine zk ?_); with_reducible (constructor; repeat constructor)); try refine zl ?_)
    refine K_ev nmd [] hng (by kernel_rfl) fun hf C S K hC1 hC hS hK => ?_; simp (disch := first | omega | assumption) only [go_sem, hd, Oid.not_under_sub u1, Oid.sub_not_under u1, Oid.not_under_sub u2, Oid.sub_not_under u2, Oid.not_under_sub u3, Oid.sub_not_under u3, Oid.not_under_sub u4, Oid.sub_not_under u4, Oid.not_under_sub u5, Oid.sub_not_under u5, Oid.not_under_sub u6, Oid.sub_not_under u6]
    refine hC1 _ (keysW_ok wr _ (u6' _ _)) (by simp (disch := first | omega | assumption) only [go_sem]) ?_
    simp (disch := first | omega | assumption) only [go_sem, hd, Oid.not_under_sub u1, Oid.sub_not_under u1, Oid.not_under_sub u2, Oid.sub_not_under u2, Oid.not_under_sub u3, Oid.sub_not_under u3, Oid.not_under_sub u4, Oid.sub_not_under u4, Oid.not_under_sub u5, Oid.sub_not_under u5, Oid.not_under_sub u6, Oid.sub_not_under u6, Oid.not_under_sub v1, Oid.sub_not_under v1, Oid.not_under_sub v2, Oid.sub_not_under v2, Oid.not_under_sub v3, Oid.sub_not_under v3, Oid.not_under_sub v4, Oid.sub_not_under v4, Oid.not_under_sub v5, Oid.sub_not_under v5, Oid.not_under_sub v6, Oid.sub_not_under v6, Oid.sub.injEq, hcc1]
    refine hC1 _ (sorted_ok 119 [.ptr (.sub 0 0 (.sub (c2 + 1) 7 x.p)) 0] [(.sub 0 0 (.sub (c2 + 1) 7 x.p), .cells [.map wr]), (wr, .map [.ss] false esw cw)] esw.length (esw.map keyS) _ (by omega) (by simp) _ ?_ ?_
      (fun p' hp => keysW_seq (.sub 0 0 (.sub (c2 + 1) 7 x.p)) wr esw cw p' ?_ ?_ ?_) ?_) ?_ ?_
    · intro q hq
      simp only [List.mem_cons, List.not_mem_nil, or_false] at hq
      rcases hq with rfl | rfl
      · exact hapt _ (Oid.under_refl _)
      · exact u6' _ _
    · intro q hq
      simp only [List.mem_cons, List.not_mem_nil, or_false] at hq
      rcases hq with rfl | rfl <;> (intro sz xs e; cases e)
    · exact fun e => u6 (e ▸ Oid.under_sub hu12)
    · exact hapt _ hp
    · exact fun h => u6 (Oid.under_sub (Oid.under_trans hp h))
    · intro l hl
      obtain ⟨U, h1, h2⟩ := hl rfl
      have h3 : l = U.map keyS := str_inj (by rw [h2, List.map_map]; rfl)
      rw [h3]
      exact h1.map _
    · simp only [fa_cons, fa_nil, Mem.of_cons_at, Mem.of_nil_at, Mem.of_upds, Mem.of_putL, putLs, putL, List.cons_append, List.nil_append, List.append_nil, ↓reduceIte, eq_self, and_true, true_and, and_self, and_false, false_and, reduceCtorEq, Oid.sub.injEq, Nat.reduceEqDiff, hd, Oid.not_under_sub u1, Oid.sub_not_under u1, Oid.not_under_sub u2, Oid.sub_not_under u2, Oid.not_under_sub u3, Oid.sub_not_under u3, Oid.not_under_sub u4, Oid.sub_not_under u4, Oid.not_under_sub u5, Oid.sub_not_under u5, Oid.not_under_sub u6, Oid.sub_not_under u6, Oid.not_under_sub v1, Oid.sub_not_under v1, Oid.not_under_sub v2, Oid.sub_not_under v2, Oid.not_under_sub v3, Oid.sub_not_under v3, Oid.not_under_sub v4, Oid.sub_not_under v4, Oid.not_under_sub v5, Oid.sub_not_under v5, Oid.not_under_sub v6, Oid.sub_not_under v6, Oid.sub.injEq, hcc1]
    rw [hks, show (W.map (·.1)).map AV.str = W.map fun w => AV.str w.1 by rw [List.map_map]; rfl]
    simp (disch := first | omega | assumption) only [go_sem, hd, Oid.not_under_sub u1, Oid.sub_not_under u1, Oid.not_under_sub u2, Oid.sub_not_under u2, Oid.not_under_sub u3, Oid.sub_not_under u3, Oid.not_under_sub u4, Oid.sub_not_under u4, Oid.not_under_sub u5, Oid.sub_not_under u5, Oid.not_under_sub u6, Oid.sub_not_under u6, List.length_map]
    refine hK ?_; clear hK hS hC hC1 K S C hf
    (try ((first | refine zn ?_ | refine ze ?_ | refine zk ?_); with_reducible (constructor; repeat constructor)); try refine zl ?_)
    refine K_mem [(st, .cells [.map t, .ptr tr 0]), (t, .map [.ss] false es clock), (tr, .cells [.map o, .map rd, .map wr]), (o, .map [.ss] false eso co), (rd, .map [.ss, .sb] true esr cr), (wr, .map [.ss] false esw cw), (.sub c2 0 x.p, .arr 3 [])] (by simp only [fa_cons, fa_nil, Mem.of_cons_at, Mem.of_nil_at, Mem.of_upds, Mem.of_putL, putLs, putL, List.cons_append, List.nil_append, List.append_nil, ↓reduceIte, eq_self, and_true, true_and, and_self, and_false, false_and, reduceCtorEq, Oid.sub.injEq, Nat.reduceEqDiff, hd, Oid.not_under_sub u1, Oid.sub_not_under u1, Oid.not_under_sub u2, Oid.sub_not_under u2, Oid.not_under_sub u3, Oid.sub_not_under u3, Oid.not_under_sub u4, Oid.sub_not_under u4, Oid.not_under_sub u5, Oid.sub_not_under u5, Oid.not_under_sub u6, Oid.sub_not_under u6, Oid.not_under_sub v1, Oid.sub_not_under v1, Oid.not_under_sub v2, Oid.sub_not_under v2, Oid.not_under_sub v3, Oid.sub_not_under v3, Oid.not_under_sub v4, Oid.sub_not_under v4, Oid.not_under_sub v5, Oid.sub_not_under v5, Oid.not_under_sub v6, Oid.sub_not_under v6, Oid.sub.injEq, hcc1]) ?_
    obtain ⟨g, hg⟩ : ∃ g : Str × Unit → AV, g = fun w => tchAV ((w.1, false), valT (getP L w.1)) := ⟨_, rfl⟩
    rw [← hg]
    refine K_loop [0, 2, 3, 45, 46, 47] (fun k s' => ∃ (i d j c : Nat), s' = ⟨[(0, .ptr st 0), (2, .list 3 (R.map tchAV)), (3, .sl (.sub d j x.p) 3 i), (45, .list 1 (W.map fun w => .str w.1)), (46, .int .i64 (W.length : Nat)), (47, .int .i64 i)], Mem.of [(st, .cells [.map t, .ptr tr 0]), (t, .map [.ss] false es clock), (tr, .cells [.map o, .map rd, .map wr]), (o, .map [.ss] false eso co), (rd, .map [.ss, .sb] true esr cr), (wr, .map [.ss] false esw cw), (.sub d j x.p, .arr 3 ((W.take i).map g))], c, []⟩ ∧ k = W.length - i ∧ i ≤ W.length ∧ d < c) _ ⟨0, c2, 0, c2 + 1 + 1, rfl, rfl, by omega, by omega⟩ ?_
    rintro k s' ⟨i, d', j', c', rfl, rfl, hi, hdc'⟩
    (repeat (first | (refine K_ifT rfl rfl ?_) | (refine K_ifF rfl rfl ?_) | (refine K_ev nmd [] hng (by kernel_rfl) fun hf C S K hC1 hC hS hK => ?_; simp (disch := first | omega | assumption) only [go_sem]; refine hK ?_; clear hK hS hC hC1 K S C hf) | ((first | refine zn ?_ | refine ze ?_ | refine zk ?_); with_reducible (constructor; repeat constructor); try refine zl ?_)))
    refine K_ifd rfl rfl (fun hb => ?_) (fun hb => ?_)
    · have hl : i < W.length := by omega
      have hts := take_map_snoc g hl
      have hti : ((W.take i).map g).length = i := by rw [List.length_map, List.length_take]; omega
      generalize hq : W.getD i default = q at hts
      obtain ⟨qn, qu⟩ := q
      have hat := fun p h => at_ok t t es clock p h h qn ((lookG qn L).getD Bits.no) (mapP_val hm1 qn)
      have hgp : (if qn = [] then (⟨2, 7, []⟩ : Bits) else (lookG qn L).getD Bits.no) = getP L qn := rfl
      rw [hgp] at hat
      have hval := fun p hp => value_ok (getP L qn) (getP_ok ho1 qn) p hp
      have hgq : g (qn, qu) = .agg [.str qn, .bool false, .str (valT (getP L qn))] := by rw [hg]; rfl
      rw [hgq] at hts
      generalize getP L qn = B at hat hval hts
      simp only [Bits.av] at hat hval
      (try ((first | refine zn ?_ | refine ze ?_ | refine zk ?_); with_reducible (constructor; repeat constructor)); try refine zl ?_)
      refine K_ev nmd [] hng (by kernel_rfl) fun hf C S K hC1 hC hS hK => ?_; simp (disch := first | omega | assumption) only [go_sem, hd, Oid.not_under_sub u1, Oid.sub_not_under u1, Oid.not_under_sub u2, Oid.sub_not_under u2, Oid.not_under_sub u3, Oid.sub_not_under u3, Oid.not_under_sub u4, Oid.sub_not_under u4, Oid.not_under_sub u5, Oid.sub_not_under u5, Oid.not_under_sub u6, Oid.sub_not_under u6, hq, AV.cells]
      refine hK ?_; clear hK hS hC hC1 K S C hf
      (try ((first | refine zn ?_ | refine ze ?_ | refine zk ?_); with_reducible (constructor; repeat constructor)); try refine zl ?_)
      refine K_ev nmd [] hng (by kernel_rfl) fun hf C S K hC1 hC hS hK => ?_; simp (disch := first | omega | assumption) only [go_sem, hd, Oid.not_under_sub u1, Oid.sub_not_under u1, Oid.not_under_sub u2, Oid.sub_not_under u2, Oid.not_under_sub u3, Oid.sub_not_under u3, Oid.not_under_sub u4, Oid.sub_not_under u4, Oid.not_under_sub u5, Oid.sub_not_under u5, Oid.not_under_sub u6, Oid.sub_not_under u6, AV.cells]
      refine hC1 _ (hat _ (u2' _ _)) (by simp (disch := first | omega | assumption) only [go_sem, hd, Oid.not_under_sub u1, Oid.sub_not_under u1, Oid.not_under_sub u2, Oid.sub_not_under u2, Oid.not_under_sub u3, Oid.sub_not_under u3, Oid.not_under_sub u4, Oid.sub_not_under u4, Oid.not_under_sub u5, Oid.sub_not_under u5, Oid.not_under_sub u6, Oid.sub_not_under u6]) ?_
      simp (disch := first | omega | assumption) only [go_sem, hd, Oid.not_under_sub u1, Oid.sub_not_under u1, Oid.not_under_sub u2, Oid.sub_not_under u2, Oid.not_under_sub u3, Oid.sub_not_under u3, Oid.not_under_sub u4, Oid.sub_not_under u4, Oid.not_under_sub u5, Oid.sub_not_under u5, Oid.not_under_sub u6, Oid.sub_not_under u6, AV.cells]
      refine hC1 _ (hval _ (mono_sub' rfl hp)) (by simp (disch := first | omega | assumption) only [go_sem, hd, Oid.not_under_sub u1, Oid.sub_not_under u1, Oid.not_under_sub u2, Oid.sub_not_under u2, Oid.not_under_sub u3, Oid.sub_not_under u3, Oid.not_under_sub u4, Oid.sub_not_under u4, Oid.not_under_sub u5, Oid.sub_not_under u5, Oid.not_under_sub u6, Oid.sub_not_under u6]) ?_
      simp (disch := first | omega | assumption) only [go_sem, hd, Oid.not_under_sub u1, Oid.sub_not_under u1, Oid.not_under_sub u2, Oid.sub_not_under u2, Oid.not_under_sub u3, Oid.sub_not_under u3, Oid.not_under_sub u4, Oid.sub_not_under u4, Oid.not_under_sub u5, Oid.sub_not_under u5, Oid.not_under_sub u6, Oid.sub_not_under u6, AV.cells]
      refine hK ?_; clear hK hS hC hC1 K S C hf
      (repeat (first | (refine K_ifT rfl rfl ?_) | (refine K_ifF rfl rfl ?_) | (refine K_ev nmd [] hng (by kernel_rfl) fun hf C S K hC1 hC hS hK => ?_; simp (disch := first | omega | assumption) only [go_sem]; refine hK ?_; clear hK hS hC hC1 K S C hf) | ((first | refine zn ?_ | refine ze ?_ | refine zk ?_); with_reducible (constructor; repeat constructor); try refine zl ?_)))
      refine ⟨_, Mem.of [(st, .cells [.map t, .ptr tr 0]), (t, .map [.ss] false es clock), (tr, .cells [.map o, .map rd, .map wr]), (o, .map [.ss] false eso co), (rd, .map [.ss, .sb] true esr cr), (wr, .map [.ss] false esw cw), (.sub (c' + 1 + 1) 11 x.p, .arr 3 ((W.take (i + 1)).map g))], ?_, mem_sub ?_, i + 1, c' + 1 + 1, 11, c' + 1 + 1 + 1 + 1, ?_, rfl, by omega, by omega⟩
      · omega
      · rw [hts]
        simp only [fa_cons, fa_nil, Mem.of_cons_at, Mem.of_nil_at, Mem.of_upds, Mem.of_putL, putLs, putL, List.cons_append, List.nil_append, List.append_nil, ↓reduceIte, eq_self, and_true, true_and, and_self, and_false, false_and, reduceCtorEq, Oid.sub.injEq, Nat.reduceEqDiff, hd, Oid.not_under_sub u1, Oid.sub_not_under u1, Oid.not_under_sub u2, Oid.sub_not_under u2, Oid.not_under_sub u3, Oid.sub_not_under u3, Oid.not_under_sub u4, Oid.sub_not_under u4, Oid.not_under_sub u5, Oid.sub_not_under u5, Oid.not_under_sub u6, Oid.sub_not_under u6]
      · rfl
    · obtain rfl : i = W.length := by omega
      rw [List.take_length]
      (repeat (first | (refine K_ifT rfl rfl ?_) | (refine K_ifF rfl rfl ?_) | (refine K_ev nmd [] hng (by kernel_rfl) fun hf C S K hC1 hC hS hK => ?_; simp (disch := first | omega | assumption) only [go_sem, hd, Oid.not_under_sub u1, Oid.sub_not_under u1, Oid.not_under_sub u2, Oid.sub_not_under u2, Oid.not_under_sub u3, Oid.sub_not_under u3, Oid.not_under_sub u4, Oid.sub_not_under u4, Oid.not_under_sub u5, Oid.sub_not_under u5, Oid.not_under_sub u6, Oid.sub_not_under u6]; refine hK ?_; clear hK hS hC hC1 K S C hf) | ((first | refine zn ?_ | refine ze ?_ | refine zk ?_); with_reducible (constructor; repeat constructor); try refine zl ?_)))
      refine K_freeze (.sub d' j' x.p) 3 (W.map g) (by simp (disch := first | omega | assumption) only [go_sem, hd, Oid.not_under_sub u1, Oid.sub_not_under u1, Oid.not_under_sub u2, Oid.sub_not_under u2, Oid.not_under_sub u3, Oid.sub_not_under u3, Oid.not_under_sub u4, Oid.sub_not_under u4, Oid.not_under_sub u5, Oid.sub_not_under u5, Oid.not_under_sub u6, Oid.sub_not_under u6]) ?_
      simp (disch := first | omega | assumption) only [go_sem, hd, Oid.not_under_sub u1, Oid.sub_not_under u1, Oid.not_under_sub u2, Oid.sub_not_under u2, Oid.not_under_sub u3, Oid.sub_not_under u3, Oid.not_under_sub u4, Oid.sub_not_under u4, Oid.not_under_sub u5, Oid.sub_not_under u5, Oid.not_under_sub u6, Oid.sub_not_under u6, List.length_map]
      refine K_ret (done_upd (by simp (disch := first | omega | assumption) only [go_sem, List.length_map]) ?_ ?_)
      all_goals simp only [List.mem_cons, List.not_mem_nil, or_false, forall_eq_or_imp, forall_eq, Option.some.injEq, forall_eq', Mem.of_cons_at, eq_self, if_true, ↓reduceIte, reduceCtorEq, implies_true, not_true_eq_false, false_imp_iff, true_and, and_true, false_and, and_false, imp_self, hd, Oid.not_under_sub u1, Oid.sub_not_under u1, Oid.not_under_sub u2, Oid.sub_not_under u2, Oid.not_under_sub u3, Oid.sub_not_under u3, Oid.not_under_sub u4, Oid.sub_not_under u4, Oid.not_under_sub u5, Oid.sub_not_under u5, Oid.not_under_sub u6, Oid.sub_not_under u6]
end
end Go.Proofs.YtaecbmbecofijaaGreatDoor
namespace Go.Proofs.YtaecbmbecofijaaGreatDoor
open Go Go.Ab
set_option maxRecDepth 20000
set_option maxHeartbeats 4000000
def St.halt (s : St) : St := ⟨s.L, none⟩
/-- What End tells. -/
def St.reads (s : St) : List Tch := match s.t with | none => [] | some q => q.R
def St.writes (s : St) : List Tch := match s.t with | none => [] | some q => q.W.map fun w => ((w.1, false), valT (getP s.L w.1))
theorem SOK.begin {s : St} (h : SOK s) : SOK s.begin := ⟨h.sl, h.po, h.no, fun q hq => by
  simp only [St.begin, Option.some.injEq] at hq
  subst hq
  exact ⟨h.sl, List.Pairwise.nil, List.Pairwise.nil, h.po, h.no⟩⟩
theorem SOK.halt {s : St} (h : SOK s) : SOK s.halt := ⟨h.sl, h.po, h.no, fun q hq => by cases hq⟩
/-- What the store's own two objects are, noting or not. -/
theorem stoP_core {st : Oid} {s : St} {N : List Oid} {F : Oid → AObj} (h : StoP st s N F) : ∃ (t : Oid) (tv : AV) (es : List ME) (clock : Nat), st ∈ N ∧ t ∈ N ∧ ¬ t = st ∧ F st = .cells [.map t, tv] ∧ F t = .map [.ss] false es clock ∧ MapP es s.L := by
  obtain ⟨L, t0⟩ := s
  obtain ⟨hnd, h⟩ := h
  cases t0 with
  | none =>
    obtain ⟨t, es, clock, rfl, k1, k2, k3⟩ := h
    exact ⟨t, _, es, clock, by simp, by simp, fun e => by simp [e] at hnd, k1, k2, k3⟩
  | some q =>
    obtain ⟨t, tr, o, rd, wr, es, eso, esr, esw, clock, co, cr, cw, rfl, k1, k2, k3, k4, k5, k6, m1, m2, m3, m4⟩ := h
    exact ⟨t, _, es, clock, by simp, by simp, fun e => by simp [e] at hnd, k1, k2, m1⟩
def lookF : List (Oid × AObj) → Oid → AObj
  | [], _ => .dfr
  | q :: l, i => if i = q.1 then q.2 else lookF l i
theorem beginP_ok {st : Oid} {s : St} {N : List Oid} {F : Oid → AObj} (h : StoP st s N F) (p : Oid) (ho : Old0 p N) :
    ∃ N' F', StoP st s.begin N' F' ∧ (∀ i ∈ N', i ∈ N ∨ Oid.under p i) ∧ CallOK Tryz.prog 23 [.ptr st 0] (Oid.under p) ⟨bk (N, F), .tuple [], sbx N' F'⟩ := by
  obtain ⟨t, tv, es, clock, h1, h2, hts, k1, k2, k3⟩ := stoP_core h
  have hs := ho st h1
  have ht := ho t h2
  have hc := begin_ok st t tv es clock hts p hs ht
  have e1 : ∀ c i, ¬ st = .sub c i p := fun c i e => hs (e ▸ Oid.under_sub (Oid.under_refl _))
  have e2 : ∀ c i, ¬ t = .sub c i p := fun c i e => ht (e ▸ Oid.under_sub (Oid.under_refl _))
  have e3 : ¬ st = .sub 0 0 (.sub 0 5 p) := fun e => hs (e ▸ Oid.under_sub (Oid.under_sub (Oid.under_refl _)))
  have e4 : ¬ t = .sub 0 0 (.sub 0 5 p) := fun e => ht (e ▸ Oid.under_sub (Oid.under_sub (Oid.under_refl _)))
  have e5 : ∀ c i, ¬ Oid.sub 0 0 (.sub 0 5 p) = .sub c i p := fun c i e => by have := congrArg Oid.depth e; simp only [Oid.depth] at this; omega
  have e1' : ∀ c i, ¬ Oid.sub c i p = st := fun c i e => e1 c i e.symm
  have e2' : ∀ c i, ¬ Oid.sub c i p = t := fun c i e => e2 c i e.symm
  have e3' : ¬ Oid.sub 0 0 (.sub 0 5 p) = st := fun e => e3 e.symm
  have e4' : ¬ Oid.sub 0 0 (.sub 0 5 p) = t := fun e => e4 e.symm
  have est : ¬ st = t := fun e => hts e.symm
  have e6 : ∀ c i, ¬ .sub c i p = Oid.sub 0 0 (.sub 0 5 p) := fun c i e => e5 c i e.symm
  refine ⟨[st, t, .sub 0 9 p, .sub 0 0 (.sub 0 5 p), .sub 0 6 p, .sub 0 7 p], lookF [(st, .cells [.map t, .ptr (.sub 0 9 p) 0]), (t, .map [.ss] false es clock), (.sub 0 9 p, .cells [.map (.sub 0 0 (.sub 0 5 p)), .map (.sub 0 6 p), .map (.sub 0 7 p)]), (.sub 0 0 (.sub 0 5 p), .map [.ss] false es clock), (.sub 0 6 p, .map [.ss, .sb] true [] 0), (.sub 0 7 p, .map [.ss] false [] 0)], ⟨?_, t, .sub 0 9 p, .sub 0 0 (.sub 0 5 p), .sub 0 6 p, .sub 0 7 p, es, es, [], [], clock, clock, 0, 0, rfl, ?_, ?_, ?_, ?_, ?_, ?_, k3, k3, mapG_new, mapG_new⟩, ?_, ?_⟩
  · simp [e1, e2, e3, e4, e5, e6, est]
  · simp [lookF]
  · simp [lookF, hts]
  · simp [lookF, e1', e2']
  · simp [lookF, e3', e4', e5]
  · simp [lookF, e1', e2', e6]
  · simp [lookF, e1', e2', e6]
  · intro i hi
    simp only [List.mem_cons, List.not_mem_nil, or_false] at hi
    rcases hi with rfl | rfl | rfl | rfl | rfl | rfl
    · exact .inl h1
    · exact .inl h2
    · exact .inr (Oid.under_sub (Oid.under_refl _))
    · exact .inr (Oid.under_sub (Oid.under_sub (Oid.under_refl _)))
    · exact .inr (Oid.under_sub (Oid.under_refl _))
    · exact .inr (Oid.under_sub (Oid.under_refl _))
  · refine hc.toBx ?_ ?_ ?_ ?_
    · intro q hq
      simp only [List.mem_cons, List.not_mem_nil, or_false] at hq
      rcases hq with rfl | rfl
      · exact mem_bk.2 ⟨h1, k1.symm⟩
      · exact mem_bk.2 ⟨h2, k2.symm⟩
    · intro q hq
      simp only [List.mem_cons, List.not_mem_nil, or_false] at hq
      rcases hq with rfl | rfl | rfl | rfl | rfl <;> simp
    · intro i hi
      simp only [List.mem_cons, List.not_mem_nil, or_false] at hi
      rcases hi with rfl | rfl | rfl | rfl | rfl | rfl
      · exact .inl h1
      · exact .inl h2
      · exact .inr ⟨_, List.mem_cons_of_mem _ List.mem_cons_self, rfl⟩
      · exact .inr ⟨_, List.mem_cons_of_mem _ (List.mem_cons_of_mem _ List.mem_cons_self), rfl⟩
      · exact .inr ⟨_, List.mem_cons_of_mem _ (List.mem_cons_of_mem _ (List.mem_cons_of_mem _ List.mem_cons_self)), rfl⟩
      · exact .inr ⟨_, List.mem_cons_of_mem _ (List.mem_cons_of_mem _ (List.mem_cons_of_mem _ (List.mem_cons_of_mem _ List.mem_cons_self))), rfl⟩
    · intro i hi
      have hbt := of_bk0 (F := F) h2
      simp only [List.mem_cons, List.not_mem_nil, or_false] at hi
      rcases hi with rfl | rfl | rfl | rfl | rfl | rfl
      · simp [Mem.upds, Mem.set, lookF, e1, e3]
      · simp [Mem.upds, Mem.set, lookF, e2, e4, hts, hbt, k2]
      · simp [Mem.upds, Mem.set, lookF, e6, e1', e2']
      · simp [Mem.upds, Mem.set, lookF, e5, e3', e4']
      · simp [Mem.upds, Mem.set, lookF, e6, e1', e2']
      · simp [Mem.upds, Mem.set, lookF, e6, e1', e2']
end Go.Proofs.YtaecbmbecofijaaGreatDoor
namespace Go.Ab
theorem eff_makeSlice {P : Program} [Laid P] {o : Oper} {ρ : Operand → AV} {sp : Oid → Prop} {t el : TypeId} {y z : Operand} {nid : Oid} {sz n bytes : Nat} {agg : Bool} {k1 k2 : IntKind} {v0 : AV} (ho : o.op = .makeSlice t y z) (hy : ρ y = .int k1 n) (hz : ρ z = .int k2 n)
    (htk : tyk P t = some (.slice el agg sz bytes)) (hzer : zer P el = some v0.cells) (hone : v0.cells.all AV.one = true) (hsz : v0.cells.length = sz) (h0 : 0 < sz) (hb : bytes * n ≤ 281474976710656) (h63 : n ≤ 9223372036854775807) (hs : sp nid) (hnt : nid.tyd = none) :
    EffOK P o ρ sp ⟨[], .sl nid sz n, [(nid, some (.arr sz (List.replicate n v0)))]⟩ := by
  intro x g a w m hm _ hop hsp hng next Q K
  have vy := hop y (by simp [Op.operands, ho])
  have vz := hop z (by simp [Op.operands, ho])
  rw [hy] at vy; rw [hz] at vz
  have hyv := vy.int_inv
  have hzv := vz.int_inv
  -- the type's row
  have htk' : P.underlying t = some (.slice el) ∧ ∃ i, P.info? el = some i ∧ i.bytes = bytes ∧ i.size = sz := by
    unfold tyk at htk
    split at htk <;> try (cases htk; done)
    · rename_i e hu
      split at htk
      · rename_i q i hq hi
        simp only [Option.some.injEq, TyK.slice.injEq] at htk
        obtain ⟨rfl, -, h3, h4⟩ := htk
        refine ⟨hu, i, hi, h4, ?_⟩
        obtain ⟨d, i', _, hi', _, hn'⟩ := shp_spec (b := q.1) (n := q.2) hq
        rw [hi] at hi'; simp only [Option.some.injEq] at hi'; subst hi'
        rw [hn', h3]
      · cases htk
    · rename_i n' e' hu
      cases hs' : shp P e' <;> simp [hs'] at htk
    · rename_i fs hu
      cases hmm : (fs.toList.mapM fun f => (shp P f.type).map fun q => (f.offset, q.1, q.2)) <;> simp [hmm] at htk
  obtain ⟨hu, i, hi, hbi, hsi⟩ := htk'
  obtain ⟨zv, hzv0, hzc⟩ : ∃ zv, i.zero = some zv ∧ (constA zv).cells = v0.cells := by
    simp only [zer, hi, Option.bind_some] at hzer
    cases hzz : i.zero with
    | none => rw [hzz] at hzer; cases hzer
    | some zv => rw [hzz] at hzer; exact ⟨zv, rfl, by simpa using hzer⟩
  have hzs : zv.cells.size = sz := by rw [← constA_cells, hzc, hsz]
  have hcell : ∀ (g : Gh) j, j < sz → VR g (v0.cells.getD j .undef) (zv.cells.getD j undef) := fun g j hj => by
    rw [← hzc]; exact constA_cell g zv j (by rw [hzc, hsz]; exact hj)
  have hbb : (i.bytes : Int) * (n : Int) ≤ 281474976710656 := by
    rw [hbi, ← Int.natCast_mul]
    omega
  have hrun := run_make (P := P) w t el i zv hu hi hzv0 k1 k2 (n : Int) (n : Int) (by omega) (Int.le_refl _) hbb (by omega)
  simp only [Int.toNat_natCast, hsi] at hrun
  have hex : (execOp a.eval o).run P w = .ok (.value (.slice (some ⟨w.heap.size, 0, none⟩) n n)) (w.alloc (.cells (madeCells zv.cells (n * sz)) el)) := by
    simp only [execOp, ho, hyv, hzv, Sem.run_bind, hrun, Result.andThen_ok, Sem.run_pure]
  refine ⟨fun _ _ => trivial, ?_⟩
  rw [Oper.semAt_eq _ _ _ (fun c hc => by rw [ho] at hc; cases hc), hex, Oper.uponIn_value]
  obtain ⟨hl, hun⟩ := hsp nid hs
  have hrn : g.row w.heap.size = none := hm.row_new (Nat.le_refl _)
  have hcs : ∀ i j, i < n → j < sz → (madeCells zv.cells (n * sz)).getD (i * sz + j) undef = zv.cells.getD j undef := fun i j hi hj => by
    have hlt : i * sz + j < n * sz := by
      have : (i + 1) * sz ≤ n * sz := Nat.mul_le_mul_right _ hi
      rw [Nat.add_mul, Nat.one_mul] at this; omega
    have hmod : (i * sz + j) % sz = j := by rw [Nat.mul_comm, Nat.mul_add_mod, Nat.mod_eq_of_lt hj]
    simp only [madeCells, Array.getD_eq_getD_getElem?, Array.getElem?_map, Array.getElem?_range, hlt, if_true, Option.map_some, Option.getD_some, hzs, hmod]
    rw [getElem!_def, Array.getElem?_eq_getElem (show j < zv.cells.size by rw [hzs]; exact hj)]
    rfl
  have hone' : ∀ j, j < sz → (zv.cells.getD j undef).oneCell' = true := fun j hj => by
    have h1 := hcell g j hj
    have h2 : (v0.cells.getD j .undef).one = true := by
      rw [List.all_eq_true] at hone
      rw [List.getD_eq_getElem?_getD, List.getElem?_eq_getElem (by rw [hsz]; exact hj), Option.getD_some]
      exact hone _ (List.getElem_mem _)
    generalize v0.cells.getD j .undef = q at h1 h2
    generalize zv.cells.getD j undef = r at h1 ⊢
    cases q <;> first | (simp [AV.one] at h2; done) | (cases h1 <;> rfl)
  have hgetr : ∀ i, i < n → (List.replicate n v0).getD i .undef = v0 := fun i hi => by
    rw [List.getD_eq_getElem?_getD, List.getElem?_replicate, if_pos hi]; rfl
  have hnew := hm.new hl hun (o := .arr sz (List.replicate n v0)) (ob := .cells (madeCells zv.cells (n * sz)) el) ⟨madeCells zv.cells (n * sz), el, (0, 0), heap_new w _, by rw [List.length_replicate, size_madeCells]; exact Nat.le_refl _, fun j _ hj => by omega, fun i hi => by
    rw [List.length_replicate] at hi
    rw [hgetr i hi]; exact hsz, fun j hj => by
    rw [List.length_replicate] at hj
    have hd : j / sz < n := Nat.div_lt_of_lt_mul (by rw [Nat.mul_comm]; exact hj)
    have := hcs (j / sz) (j % sz) hd (Nat.mod_lt _ h0)
    rw [Nat.mul_comm (j / sz) sz, Nat.div_add_mod] at this
    rw [this]; exact hone' _ (Nat.mod_lt _ h0), fun i j hi hj => by
    rw [List.length_replicate] at hi
    rw [hgetr i hi, hcs i j hi hj]; exact hcell _ j hj⟩ (fun t ht => by rw [hnt] at ht; cases ht)
  refine K ((g.bind nid w.heap.size).measure w.heap.size (n * sz)) _ _ (Gh.le_trans (Gh.le_bind hl) (Gh.le_measure (.inl hrn))) (fun j hj => ?_) ?_ (hnew.measure ⟨madeCells zv.cells (n * sz), el, (0, 0), heap_new w _, size_madeCells _ _⟩ (.inl hrn))
  · have hne : ¬ j = nid := fun e => by subst e; exact hj hs
    simp only [Gh.bind, Gh.measure]; rw [if_neg hne]
  · exact .sl _ _ _ _ _ (by simp [Gh.bind, Gh.measure]) (Nat.le_refl _) (by simp [Gh.measure])
/-- An effect that is always the same, where more than one is asked for. -/
theorem EffOK.nd {P : Program} [Laid P] {o : Oper} {ρ : Operand → AV} {sp : Oid → Prop} {e : Eff} (h : EffOK P o ρ sp e) : EffND P o ρ sp e.need (fun v u => v = e.val ∧ u = e.upd) (fun _ _ => False) :=
  fun x g a w m hm hn hop hs hng next Q K _ => h x g a w m hm hn hop hs hng next Q fun g' v w' h1 h2 h3 h4 => K _ _ ⟨rfl, rfl⟩ g' v w' h1 h2 h3 h4
end Go.Ab
