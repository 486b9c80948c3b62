/- From an argument that is read whole to an abstract value; from a contract to what a row asks. -/
import Derived.Test.YtpdmiojenhodlaaFw28
import Derived.ProofKit
import Derived.SizedLaws
import Derived.ReadAgain
set_option linter.unusedVariables false
set_option linter.unusedSimpArgs false
namespace Go.Ab
open Go.ChangeShapes Go.WideShapes

/-- What an abstract value says of a value, another one says too. -/
def AVle (a b : AV) : Prop := ∀ g v, VR g a v → VR g b v
theorem AVle.refl (a : AV) : AVle a a := fun _ _ h => h
theorem AVle.nil (sz : Nat) : AVle .nilSl (.list sz []) := fun _ _ h => by rw [h.nilSl_inv]; exact .listNil sz
inductive AVles : List AV → List AV → Prop
  | nil : AVles [] []
  | cons {a b : AV} {l m : List AV} (h : AVle a b) (t : AVles l m) : AVles (a :: l) (b :: m)
theorem AVles.length {l m : List AV} (h : AVles l m) : l.length = m.length := by
  induction h with
  | nil => rfl
  | cons _ _ ih => simp [ih]
theorem AVles.at {l m : List AV} (h : AVles l m) : ∀ j, AVle (l.getD j .undef) (m.getD j .undef) := by
  induction h with
  | nil => exact fun j => .refl _
  | cons h _ ih =>
    intro j
    cases j with
    | zero => exact h
    | succ j => simpa using ih j
theorem AVle.agg {l m : List AV} (h : AVles l m) : AVle (.agg l) (.agg m) := fun g v hv => by
  obtain ⟨a, rfl, h1, h2⟩ := hv.agg_inv
  exact .agg _ _ (h1.trans h.length) fun j hj => h.at j _ _ (h2 j (by rw [h.length]; exact hj))
/-- Cell by cell. -/
def ACle (a b : AV) : Prop := AVles a.cells b.cells
theorem ACle.agg {l m : List AV} (h : AVles l m) : ACle (.agg l) (.agg m) := h
inductive ACles : List AV → List AV → Prop
  | nil : ACles [] []
  | cons {a b : AV} {l m : List AV} (h : ACle a b) (t : ACles l m) : ACles (a :: l) (b :: m)
theorem ACles.length {l m : List AV} (h : ACles l m) : l.length = m.length := by
  induction h with
  | nil => rfl
  | cons _ _ ih => simp [ih]
theorem ACles.at {l m : List AV} (h : ACles l m) : ∀ j, ACle (l.getD j .undef) (m.getD j .undef) := by
  induction h with
  | nil => exact fun j => .cons (.refl _) .nil
  | cons h _ ih =>
    intro j
    cases j with
    | zero => exact h
    | succ j => simpa using ih j
theorem AVle.list {sz : Nat} {l m : List AV} (h : ACles l m) : AVle (.list sz l) (.list sz m) := fun g v hv => by
  rcases hv.list_inv with ⟨rfl, hu | ⟨a, cap, hu⟩⟩ | ⟨b, o, cap, cs, hu, h1, h2, h3, h4⟩
  · cases h; rw [hu]; exact .listNil _
  · cases h; rw [hu]; exact .listAny _ _ _
  · rw [hu, h.length]
    have hl := h.length
    exact .list sz m b o cap cs (by omega) (fun i hi => by have := (h.at i).length; have := h2 i (by omega); omega) (fun i j hi hj => h3 i j (by omega) hj) fun i j hi hj => (h.at i).at j _ _ (h4 i j (by omega) hj)
theorem VRs.weak {g : Gh} {xs ys : List AV} {a : Array Value} (h : VRs g xs a) (k : AVles xs ys) : VRs g ys a := ⟨h.1.trans k.length, fun j hj => k.at j _ _ (h.2 j (by rw [k.length]; exact hj))⟩
theorem CallOK.weak {P : Program} {f : FuncId} {xs ys : List AV} {sp : Oid → Prop} {e : Eff} (h : CallOK P f ys sp e) (k : AVles xs ys) : CallOK P f xs sp e :=
  ⟨h.enters, fun x g args w m h1 h2 h3 => h.calls x g args w m h1 h2 (h3.weak k)⟩
theorem CallND.weak {P : Program} {f : FuncId} {xs ys : List AV} {sp : Oid → Prop} {need : List (Oid × AObj)} {R Rp : AV → List (Oid × Option AObj) → Prop} (h : CallND P f ys sp need R Rp) (k : AVles xs ys) : CallND P f xs sp need R Rp :=
  ⟨h.enters, fun x g args w m h1 h2 h3 => h.calls x g args w m h1 h2 (h3.weak k)⟩

/-! ### the reading of arguments -/
/-- The ghost of a world in which everything is for good. -/
def ghAll (ng : Nat) (w : World) : Gh :=
  ⟨fun i => match i with | .root k => if k < ng then some (some k) else none | .sub .. => none,
    fun b o => match w.cell? ⟨b, o, none⟩ with | some v => if v.oneCell' = true then some v else none | none => none, fun _ => none⟩
theorem ghAll_com {ng : Nat} {w : World} {b o : Nat} {v : Value} (h : w.cell? ⟨b, o, none⟩ = some v) (hv : v.oneCell' = true) : (ghAll ng w).com b o = some v := by
  simp only [ghAll, h, hv, if_true]
theorem ghAll_com' {ng : Nat} {w : World} {b o : Nat} {v : Value} (h : (ghAll ng w).com b o = some v) : w.cell? ⟨b, o, none⟩ = some v ∧ v.oneCell' = true := by
  simp only [ghAll] at h
  split at h
  · rename_i u hu
    split at h
    · rename_i h1; cases h; exact ⟨hu, h1⟩
    · cases h
  · cases h
theorem memRel_all (ng : Nat) (w : World) : MemRel ⟨ng, ghAll ng w, w, fun _ => False, .root ng, none⟩ (ghAll ng w) Mem.emp w where
  le := Gh.le_refl _
  locs _ _ := rfl
  glob k hk := by simp [ghAll, hk]
  coms _ _ _ h := .inl h
  obj0 _ _ h := by cases h
  inj _ _ _ _ _ h := by cases h
  com _ _ _ h := (ghAll_com' h).1
  one _ _ _ h := (ghAll_com' h).2
  rows _ _ h := by cases h
  os := rfl
  tape := rfl
  output := ⟨rfl, Nat.le_refl _⟩
  size := Nat.le_refl _
  kept _ _ _ := rfl

/-- What a value of type t reads as. -/
structure Rd (P : Program) (t : TypeId) {α : Type} (A : α → AV) (V : α → Prop) : Prop where
  len : ∀ a, (A a).cells.length = P.cellsOf t
  rd : ∀ {H : Type} {enc : TypeId × Value → H} {w : World} {ng base fuel : Nat} {spare : Nat → Bool} {held : Bool} {cs : List Value} {x : DataW H × List MemPlace}, DataW.trod enc P w base spare held fuel t cs = some x →
    (∀ n ∈ x.1.weights P t, n ≤ reachBytes) → ∃ a : α, V a ∧ cs.length = P.cellsOf t ∧ ∀ j, j < cs.length → (cs.getD j undef).oneCell' = true ∧ VR (ghAll ng w) ((A a).cells.getD j .undef) (cs.getD j undef)
section
variable {P : Program} {t : TypeId} {α β : Type} {A : α → AV} {V : α → Prop}
theorem Rd.map {B : β → AV} {W : β → Prop} (h : Rd P t A V) (f : α → β) (hA : ∀ a, V a → A a = B (f a)) (hl : ∀ b, (B b).cells.length = P.cellsOf t) (hV : ∀ a, V a → W (f a)) : Rd P t B W :=
  ⟨hl, fun {H enc w ng base fuel spare held cs x} h1 h2 => by
    obtain ⟨a, k1, k2, k3⟩ := h.rd (ng := ng) h1 h2
    exact ⟨f a, hV a k1, k2, by rw [← hA a k1]; exact k3⟩⟩
theorem rd_one {a : AV} {v : Value} {g : Gh} (hc : a.cells = [a]) (hv : VR g a v) (h1 : v.oneCell' = true) : ∀ j, j < [v].length → (([v] : List Value).getD j undef).oneCell' = true ∧ VR g (a.cells.getD j .undef) (([v] : List Value).getD j undef) := by
  intro j hj
  obtain rfl : j = 0 := by simp at hj; exact hj
  rw [hc]; exact ⟨h1, hv⟩
theorem rd_bool (ht : P.underlying t = some .bool) (hc : P.cellsOf t = 1) : Rd P t AV.bool (fun _ => True) :=
  ⟨fun _ => hc.symm, fun h _ => by
    obtain ⟨b, rfl, rfl⟩ := DataW.trod_bool ht h
    exact ⟨b, trivial, hc.symm, rd_one rfl (.bool b) rfl⟩⟩
theorem rd_int {k : IntKind} (ht : P.underlying t = some (.int k)) (hc : P.cellsOf t = 1) : Rd P t (AV.int k) (fun n => (Lit.int k n).wf = true) :=
  ⟨fun _ => hc.symm, fun h _ => by
    obtain ⟨n, rfl, rfl, hw⟩ := DataW.trod_int ht h
    exact ⟨n, hw, hc.symm, rd_one rfl (.int k n) rfl⟩⟩
theorem rd_u8 (ht : P.underlying t = some (.int .u8)) (hc : P.cellsOf t = 1) : Rd P t (fun b : UInt8 => AV.int .u8 b.toNat) (fun _ => True) :=
  (rd_int ht hc).map (fun n => UInt8.ofNat n.toNat) (fun n hn => by
    have h1 : 0 ≤ n ∧ n ≤ 255 := by simpa [Lit.wf, IntKind.min, IntKind.max, IntKind.signed, IntKind.bits] using hn
    show AV.int .u8 n = AV.int .u8 _
    congr 1
    rw [UInt8.toNat_ofNat', Nat.mod_eq_of_lt (by omega)]; omega) (fun _ => hc.symm) (fun _ _ => trivial)
theorem rd_str (ht : P.underlying t = some .string) (hc : P.cellsOf t = 1) : Rd P t AV.str (fun s => s.length ≤ reachBytes) :=
  ⟨fun _ => hc.symm, fun h hw => by
    obtain ⟨s, rfl, rfl, _⟩ := DataW.trod_string ht h
    exact ⟨s.data.toList, hw _ (by simp [DataW.weights]), hc.symm, rd_one rfl (.str _ _ rfl) rfl⟩⟩
theorem mem_weightsAll {H : Type} {e : TypeId} {n : Nat} : ∀ {l : List (DataW H)} {d : DataW H}, d ∈ l → n ∈ d.weights P e → n ∈ DataW.weightsAll P e l
  | [], _, h, _ => by cases h
  | x :: l, d, h, hn => by
    rw [DataW.weightsAll]
    rcases List.mem_cons.1 h with rfl | h
    · exact List.mem_append_left _ hn
    · exact List.mem_append_right _ (mem_weightsAll h hn)
theorem choose_list {p : Nat → α → Prop} : ∀ (n : Nat), (∀ i, i < n → ∃ a, p i a) → ∃ l : List α, l.length = n ∧ ∀ i, i < n → ∃ a, l[i]? = some a ∧ p i a
  | 0, _ => ⟨[], rfl, fun i hi => absurd hi (Nat.not_lt_zero _)⟩
  | n + 1, h => by
    obtain ⟨l, h1, h2⟩ := choose_list n fun i hi => h i (Nat.lt_succ_of_lt hi)
    obtain ⟨a, ha⟩ := h n (Nat.lt_succ_self _)
    refine ⟨l ++ [a], by simp [h1], fun i hi => ?_⟩
    by_cases e : i < n
    · obtain ⟨b, hb, hp⟩ := h2 i e
      exact ⟨b, by rw [List.getElem?_append_left (by omega)]; exact hb, hp⟩
    · obtain rfl : i = n := by omega
      exact ⟨a, by rw [List.getElem?_append_right (by omega), h1, Nat.sub_self]; rfl, ha⟩
theorem mapM_at {β : Type} {f : Nat → Option β} : ∀ {l : List Nat} {r : List β}, l.mapM f = some r → r.length = l.length ∧ ∀ i, i < l.length → f (l.getD i 0) = r[i]?
  | [], r, h => by simp at h; subst h; exact ⟨rfl, fun i hi => absurd hi (Nat.not_lt_zero _)⟩
  | x :: l, r, h => by
    simp only [List.mapM_cons, Option.bind_eq_bind, Option.bind_eq_some_iff] at h
    obtain ⟨y, hy, ys, hys, e⟩ := h
    cases e
    obtain ⟨h1, h2⟩ := mapM_at hys
    refine ⟨by simp [h1], fun i hi => ?_⟩
    cases i with
    | zero => simpa using hy
    | succ i => simpa using h2 i (by simpa using hi)
theorem cells?_at {w : World} {base n : Nat} {a : Addr} {cs : List Value} (h : w.cells? base a n = some cs) : cs.length = n ∧ ∀ j, j < n → w.cell? (a.add j) = cs[j]? := by
  unfold World.cells? at h
  split at h
  · obtain ⟨h1, h2⟩ := mapM_at h
    rw [List.length_range] at h1
    refine ⟨h1, fun j hj => ?_⟩
    have := h2 j (by simpa using hj)
    rwa [List.getD_eq_getElem?_getD, List.getElem?_range hj] at this
  · cases h
theorem spot_none {w : World} {a : Addr} {v : Value} (h : w.cell? a = some v) : a.spot = none := by
  unfold World.cell? at h
  split at h
  · split at h
    · cases h
    · rename_i e; simpa using e
  · cases h
theorem addr_spot {a : Addr} (h : a.spot = none) (n : Nat) : a.add n = ⟨a.block, a.off + n, none⟩ := by
  unfold Addr.add
  split
  · rename_i e; subst e; cases a; simp_all
  · rfl
theorem rd_slice {e : TypeId} (ht : P.underlying t = some (.slice e)) (hc : P.cellsOf t = 1) (hp : 0 < P.cellsOf e) (hE : Rd P e A V) : Rd P t (fun l : List α => .list (P.cellsOf e) (l.map A)) (fun l => l.length * P.bytesOf e ≤ reachBytes ∧ ∀ a ∈ l, V a) :=
  ⟨fun _ => hc.symm, fun {H enc w ng base fuel spare held cs x} h hw => by
    rcases DataW.trod_slice ht h with ⟨rfl, rfl⟩ | ⟨a, len, cap, elems, rest, n, _, rfl, rfl, hb, hl, hm, hlen, hel, _, _⟩
    · exact ⟨[], ⟨by simp, fun _ h => by cases h⟩, hc.symm, rd_one rfl (.listNil _) rfl⟩
    simp only [DataW.weights, ht, List.mem_cons, List.mem_append] at hw
    have hwt := hw _ (.inl rfl)
    simp only [List.length_map] at hwt
    have key : ∀ i, i < len → ∃ (y : α × (Nat → Value)), V y.1 ∧ ∀ j, j < P.cellsOf e → w.cell? ((a.add (i * P.cellsOf e)).add j) = some (y.2 j) ∧ (y.2 j).oneCell' = true ∧ VR (ghAll ng w) ((A y.1).cells.getD j .undef) (y.2 j) := by
      intro i hi
      have h1 := hel i hi
      rw [List.getElem?_eq_getElem (by omega)] at h1
      simp only [Option.bind_eq_some_iff] at h1
      obtain ⟨cs', h2, h3⟩ := h1
      obtain ⟨h4, h5⟩ := cells?_at h2
      obtain ⟨y, k1, k2, k3⟩ := hE.rd (ng := ng) h3 fun m hm => hw m (.inr (.inl (mem_weightsAll (List.mem_map.2 ⟨_, List.getElem_mem (by omega : i < elems.length), rfl⟩) hm)))
      refine ⟨(y, fun j => cs'.getD j undef), k1, fun j hj => ⟨?_, k3 j (by omega)⟩⟩
      show _ = some (cs'.getD j undef)
      rw [h5 j hj, List.getD_eq_getElem?_getD, List.getElem?_eq_getElem (by omega)]; rfl
    obtain ⟨l, hl1, hl2⟩ := choose_list len key
    have hsp : 0 < len → a.spot = none := fun h0 => by
      obtain ⟨y, _, _, h2⟩ := hl2 0 h0
      have h3 := spot_none (h2 0 hp).1
      simpa [Addr.add] using h3
    refine ⟨l.map (·.1), ⟨?_, fun b hb => ?_⟩, hc.symm, rd_one rfl ?_ rfl⟩
    · rw [List.length_map, hl1]
      exact Nat.le_trans (Nat.mul_le_mul_right _ (by omega)) hwt
    · obtain ⟨y, hy, rfl⟩ := List.mem_map.1 hb
      obtain ⟨i, hi, e1⟩ := List.getElem_of_mem hy
      obtain ⟨z, hz, h1, _⟩ := hl2 i (by omega)
      rw [List.getElem?_eq_getElem hi, e1] at hz
      cases hz; exact h1
    · by_cases h0 : len = 0
      · subst h0
        obtain rfl := List.eq_nil_of_length_eq_zero hl1
        exact .listAny _ _ _
      have hs := hsp (by omega)
      have e1 : ((l.map (·.1)).map A).length = len := by simp [hl1]
      have hat : ∀ i, i < len → ∃ y : α × (Nat → Value), ((l.map (·.1)).map A).getD i .undef = A y.1 ∧ (l.getD i (y.1, fun _ => undef)).2 = y.2 ∧ (∀ j, j < P.cellsOf e → w.cell? ((a.add (i * P.cellsOf e)).add j) = some (y.2 j) ∧ (y.2 j).oneCell' = true ∧ VR (ghAll ng w) ((A y.1).cells.getD j .undef) (y.2 j)) := by
        intro i hi
        obtain ⟨y, hy, _, h2⟩ := hl2 i hi
        refine ⟨y, ?_, ?_, h2⟩
        · simp [List.getD_eq_getElem?_getD, hy]
        · simp [List.getD_eq_getElem?_getD, hy]
      have := VR.list (g := ghAll ng w) (P.cellsOf e) ((l.map (·.1)).map A) a.block a.off cap (fun i j => (match l[i]? with | some y => y.2 | none => fun _ => undef) j) (by omega)
        (fun i hi => by
          obtain ⟨y, h1, _⟩ := hat i (by omega)
          rw [h1]; exact hE.len _)
        (fun i j hi hj => by
          obtain ⟨y, hy, _, h2⟩ := hl2 i (by omega)
          simp only [hy]
          obtain ⟨h3, h4, _⟩ := h2 j hj
          rw [addr_spot hs, addr_spot rfl] at h3
          exact ghAll_com h3 h4)
        (fun i j hi hj => by
          obtain ⟨y, hy, _, h2⟩ := hl2 i (by omega)
          simp only [hy, List.getD_eq_getElem?_getD, List.getElem?_map, Option.map_some, Option.getD_some]
          have h5 := (h2 j hj).2.2
          rwa [List.getD_eq_getElem?_getD] at h5)
      rw [e1] at this
      have ea : a = ⟨a.block, a.off, none⟩ := by cases a; simp_all
      rw [ea]; exact this⟩
end
/-- A struct's fields, one by one. -/
structure RdF (P : Program) (fs : List Field) (off tot : Nat) {β : Type} (B : β → List AV) (W : β → Prop) : Prop where
  len : ∀ b, (B b).length = tot
  rd : ∀ {H : Type} {enc : TypeId × Value → H} {w : World} {ng base fuel : Nat} {spare : Nat → Bool} {held : Bool} {cs : List Value} {xs : List (DataW H × List MemPlace)}, xs.length = fs.length →
    (∀ (i : Nat) (f : Field), fs[i]? = some f → DataW.trod enc P w base spare held fuel f.type ((cs.drop f.offset).take (P.cellsOf f.type)) = xs[i]?) → (∀ n ∈ DataW.weightsEach P (fs.map (·.type)) (xs.map (·.1)), n ≤ reachBytes) → cs.length = off + tot →
    ∃ b : β, W b ∧ ∀ j, j < tot → (cs.getD (off + j) undef).oneCell' = true ∧ VR (ghAll ng w) ((B b).getD j .undef) (cs.getD (off + j) undef)
section
variable {P : Program} {t : TypeId} {α β : Type} {A : α → AV} {V : α → Prop}
theorem rdF_nil (off : Nat) : RdF P [] off 0 (fun _ : Unit => []) (fun _ => True) := ⟨fun _ => rfl, fun _ _ _ _ => ⟨(), trivial, fun j hj => absurd hj (Nat.not_lt_zero _)⟩⟩
theorem rdF_cons {f : Field} {fs : List Field} {off tot : Nat} {B : β → List AV} {W : β → Prop} (ho : f.offset = off) (hA : Rd P f.type A V) (hB : RdF P fs (off + P.cellsOf f.type) tot B W) :
    RdF P (f :: fs) off (P.cellsOf f.type + tot) (fun p : α × β => (A p.1).cells ++ B p.2) (fun p => V p.1 ∧ W p.2) :=
  ⟨fun p => by rw [List.length_append, hA.len, hB.len], fun {H enc w ng base fuel spare held cs xs} hx hf hw hl => by
    match xs, hx with
    | x :: xs, hx =>
      have h0 := hf 0 f rfl
      simp only [List.getElem?_cons_zero] at h0
      simp only [List.map_cons, DataW.weightsEach, List.mem_append] at hw
      obtain ⟨a, k1, k2, k3⟩ := hA.rd (ng := ng) h0 fun n hn => hw n (.inl hn)
      obtain ⟨b, k4, k5⟩ := hB.rd (ng := ng) (cs := cs) (xs := xs) (by simpa using hx) (fun i f' hi => by simpa using hf (i + 1) f' (by simpa using hi)) (fun n hn => hw n (.inr hn)) (by omega)
      refine ⟨(a, b), ⟨k1, k4⟩, fun j hj => ?_⟩
      have hla := hA.len a
      by_cases e : j < P.cellsOf f.type
      · have := k3 j (by rw [k2]; exact e)
        have e1 : ((cs.drop f.offset).take (P.cellsOf f.type)).getD j undef = cs.getD (off + j) undef := by
          simp [List.getD_eq_getElem?_getD, List.getElem?_take, e, List.getElem?_drop, ho]
        rw [e1] at this
        have e2 : ((A a).cells ++ B b).getD j .undef = (A a).cells.getD j .undef := by
          simp [List.getD_eq_getElem?_getD, List.getElem?_append_left (by omega : j < (A a).cells.length)]
        show _ ∧ VR _ (((A a).cells ++ B b).getD j .undef) _
        rw [e2]; exact this
      · have := k5 (j - P.cellsOf f.type) (by omega)
        rw [show off + P.cellsOf f.type + (j - P.cellsOf f.type) = off + j by omega] at this
        have e2 : ((A a).cells ++ B b).getD j .undef = (B b).getD (j - P.cellsOf f.type) .undef := by
          simp [List.getD_eq_getElem?_getD, List.getElem?_append_right (by omega : (A a).cells.length ≤ j), hla]
        show _ ∧ VR _ (((A a).cells ++ B b).getD j .undef) _
        rw [e2]; exact this⟩
theorem rd_struct {fs : Array Field} {tot : Nat} {B : β → List AV} {W : β → Prop} (ht : P.underlying t = some (.struct fs)) (hc : P.cellsOf t = tot) (hF : RdF P fs.toList 0 tot B W) : Rd P t (fun b => .agg (B b)) W :=
  ⟨fun b => (hF.len b).trans hc.symm, fun {H enc w ng base fuel spare held cs x} h hw => by
    obtain ⟨xs, n, _, rfl, hl, hlen, hf⟩ := DataW.trod_struct ht h
    simp only [DataW.weights, ht] at hw
    obtain ⟨b, k1, k2⟩ := hF.rd (ng := ng) (xs := xs) (by simpa using hlen) (fun i f hi => hf i f (by simpa using hi)) hw (by omega)
    refine ⟨b, k1, hl, fun j hj => ?_⟩
    have := k2 j (by omega)
    rwa [Nat.zero_add] at this⟩

/-- An argument. -/
theorem Rd.arg_one (h : Rd P t A V) (hc : P.cellsOf t = 1) {H : Type} {enc : TypeId × Value → H} {w : World} {ng base : Nat} {spare : Nat → Bool} {held : Bool} {v : Value} {d : DataW H} {ps : List MemPlace} (hone : v.oneCell' = true)
    (hA : ∀ a, V a → (A a).cells = [A a]) (hd : DataW.Trod enc P w base spare held t v d ps) (hw : ∀ n ∈ d.weights P t, n ≤ reachBytes) : ∃ a, V a ∧ VR (ghAll ng w) (A a) v := by
  obtain ⟨fuel, hd⟩ := hd
  obtain ⟨a, k1, k2, k3⟩ := h.rd (ng := ng) hd hw
  refine ⟨a, k1, ?_⟩
  have e : v.cells.toList = [v] := by cases v <;> first | rfl | (simp [Value.oneCell'] at hone)
  rw [e] at k3
  have := (k3 0 (by simp)).2
  rwa [hA a k1] at this
theorem Rd.arg_agg {B : β → List AV} {W : β → Prop} (h : Rd P t (fun b => .agg (B b)) W) {H : Type} {enc : TypeId × Value → H} {w : World} {ng base : Nat} {spare : Nat → Bool} {held : Bool} {cs : Array Value} {d : DataW H} {ps : List MemPlace}
    (hd : DataW.Trod enc P w base spare held t (.agg cs) d ps) (hw : ∀ n ∈ d.weights P t, n ≤ reachBytes) : ∃ b, W b ∧ VR (ghAll ng w) (.agg (B b)) (.agg cs) := by
  obtain ⟨fuel, hd⟩ := hd
  obtain ⟨b, k1, k2, k3⟩ := h.rd (ng := ng) hd hw
  refine ⟨b, k1, .agg _ _ ?_ fun j hj => ?_⟩
  · have := h.len b
    simp only [Value.cells, Array.length_toList] at k2
    simp only [AV.cells] at this
    omega
  · have hl := h.len b
    simp only [AV.cells] at hl
    have := (k3 j (by rw [k2]; omega)).2
    simp only [Value.cells, AV.cells] at this
    simpa [List.getD_eq_getElem?_getD, Array.getD_eq_getD_getElem?] using this

/-! ### what a row asks -/
theorem trodAll_carry {H : Type} {enc : TypeId × Value → H} {w w' : World} {base : Nat} {spare' : Nat → Bool} (hl : laidOutB P = true) (hz : ∀ t e, t < P.types.size → P.underlying t = some (.slice e) → 0 < P.cellsOf e) :
    ∀ {ts : List TypeId} {vs : List Value} {ds : List (DataW H)} {ps : List MemPlace}, (∀ t ∈ ts, P.readableRec t = true ∧ t < P.types.size) → DataW.TrodAll enc P w base (fun _ => true) true ts vs ds ps → (∀ p ∈ ps, w.sameAt w' p) → (∀ p ∈ ps, spare' p.block = true) →
      DataW.TrodAll enc P w' base spare' true ts vs ds ps
  | [], [], [], _, _, h, _, _ => h
  | t :: ts, v :: vs, d :: ds, ps, hr, ⟨p, q, h1, h2, e⟩, hs, hsp => by
    have ht := hr t List.mem_cons_self
    refine ⟨p, q, ?_, trodAll_carry hl hz (fun t ht => hr t (List.mem_cons_of_mem _ ht)) h2 (fun x hx => hs x (by rw [e]; exact List.mem_append_right _ hx)) (fun x hx => hsp x (by rw [e]; exact List.mem_append_right _ hx)), e⟩
    have h3 : DataW.Trod enc P w base spare' true t v d p := h1.respare (kids_book hl ht.1) (fun u e' hu => hz u e' hu.1) ⟨ht.2, book_self t⟩ fun x hx => hsp x (by rw [e]; exact List.mem_append_left _ hx)
    obtain ⟨n, hn⟩ := h3
    exact ⟨n, DataW.trod_carry n _ _ _ hn fun x hx => hs x (by rw [e]; exact List.mem_append_left _ hx)⟩
theorem law_post {H : Type} {enc : TypeId × Value → H} {f : FuncId} {fn : Func} {s : ChangeSpec} {tb : TypeId} (hl : laidOutB P = true) (hz : ∀ t e, t < P.types.size → P.underlying t = some (.slice e) → 0 < P.cellsOf e) (hr : ∀ t ∈ fn.params.toList, P.readableRec t = true ∧ t < P.types.size)
    (hrt : fn.resultTypes = #[tb]) (htb : P.underlying tb = some .bool) (hv : s.vars = []) {W : World} {args : Array Value} {ds gs : List (DataW H)} {before : List MemPlace} (hW : DataW.Whole enc P fn.params.toList s.vars false W args.toList ds gs before)
    (hfn : s.fn H ds = { results := [.lit (.bool true)], args := ds }) {avs : List AV} (ha : VRs (ghAll P.globals.size W) avs args) (hcall : CallOK P f avs (Oid.under (.root P.globals.size)) ⟨[], .bool true, []⟩) :
    Calls P f args W fun e W' => ∃ v, e = .returned v ∧ s.post enc P fn false true false false W args v W' := by
  refine (hcall.calls ⟨P.globals.size, ghAll P.globals.size W, W, fun _ => False, .root P.globals.size, none⟩ _ args W Mem.emp (memRel_all _ _) (fun q hq => by cases hq) ha (fun i hi => ⟨?_, hi⟩) (Nat.le_refl _)).mono ?_
  · cases i with
    | root k =>
      simp only [Oid.under, Oid.root.injEq] at hi
      subst hi
      simp [ghAll]
    | sub => rfl
  rintro en W' ⟨g', v, rfl, hle, hloc, hvr, hm⟩
  obtain rfl := hvr.bool_inv
  refine ⟨_, rfl, ?_⟩
  have hW0 := hW
  obtain ⟨p, q, hA, hV, rfl, hfz, hnd⟩ := hW
  rw [hv] at hV
  obtain ⟨rfl, rfl⟩ := trodVars_none hV
  rw [List.append_nil] at hW0 hfz
  have hsame : ∀ p' ∈ p, W.sameAt W' p' := fun p' hp' => by
    have hlt := hW0.lt p' hp'
    have hh := hm.kept p'.block hlt (fun h => h)
    cases p' with
    | cell b o => simp only [World.sameAt, World.cell?]; simp only [MemPlace.block] at hh; rw [hh]
    | map b => exact hh
  have hargs : ∀ sp : Nat → Bool, (∀ p' ∈ p, sp p'.block = true) → DataW.TrodAll enc P W' 0 sp true fn.params.toList args.toList ds p := fun sp hsp => trodAll_carry hl hz hr hA hsame hsp
  have hres : ∀ (b : Nat) (sp : Nat → Bool) (hd : Bool), DataW.TrodAll enc P W' b sp hd fn.resultTypes.toList ((Value.bool true).resultList fn.resultTypes.size) [.lit (.bool true)] [] := by
    intro b sp hd
    rw [hrt]
    exact ⟨[], [], RowKit.shut_bool htb _, rfl, rfl⟩
  have hold : ∀ p' ∈ p, (fun b => decide (b < W.heap.size)) p'.block = true := fun p' hp' => by simpa using hW0.lt p' hp'
  refine ⟨ds, [], p, [], p, [], hW0, by rw [List.append_nil, hfn]; exact hres _ _ _, by rw [List.append_nil, hfn]; exact hargs _ hold, by rw [hv, List.append_nil, hfn]; exact rfl, ?_, fun h => by cases h⟩
  exact World.keptBut_mono (fun p' hp' => hp'.elim) (may := fun _ => False) ⟨hm.os, hm.output.1, fun i hi => by
    have hk : W'.heap[i]? = W.heap[i]? := hm.kept i hi (fun h => h)
    rw [hk]
    exact (World.keptBut_refl W (fun _ => False)).2.2 i hi⟩

/-- The arguments, one by one. -/
structure RdA (P : Program) (ts : List TypeId) {β : Type} (B : β → List AV) (W : β → Prop) : Prop where
  rd : ∀ {H : Type} {enc : TypeId × Value → H} {w : World} {ng base b0 : Nat} {r : Reach} {vs : List Value} {ds : List (DataW H)} {ps : List MemPlace}, (∀ (j : Nat) t v, ts[j]? = some t → vs[j]? = some v → Value.okWide P w r base t v) →
    DataW.TrodAll enc P w b0 (fun _ => true) true ts vs ds ps → (∀ n ∈ DataW.weightsEach P ts ds, n ≤ reachBytes) → ∃ b, W b ∧ vs.length = (B b).length ∧ ∀ j, j < vs.length → VR (ghAll ng w) ((B b).getD j .undef) (vs.getD j undef)
theorem okWide_slice {w : World} {r : Reach} {base : Nat} {e : TypeId} {v : Value} (ht : P.underlying t = some (.slice e)) (h : Value.okWide P w r base t v) : v.oneCell' = true := by
  simp only [Value.okWide, ht, Cell.okWide, Cell.ok] at h
  cases v <;> first | rfl | exact h.elim
theorem okWide_int {w : World} {r : Reach} {base : Nat} {k : IntKind} {v : Value} (ht : P.underlying t = some (.int k)) (h : Value.okWide P w r base t v) : v.oneCell' = true := by
  simp only [Value.okWide, ht, Cell.okWide, Cell.ok] at h
  cases v <;> first | rfl | exact h.elim
theorem okWide_bool {w : World} {r : Reach} {base : Nat} {v : Value} (ht : P.underlying t = some .bool) (h : Value.okWide P w r base t v) : v.oneCell' = true := by
  simp only [Value.okWide, ht, Cell.okWide, Cell.ok] at h
  cases v <;> first | rfl | exact h.elim
theorem okWide_str {w : World} {r : Reach} {base : Nat} {v : Value} (ht : P.underlying t = some .string) (h : Value.okWide P w r base t v) : v.oneCell' = true := by
  simp only [Value.okWide, ht, Cell.okWide, Cell.ok] at h
  cases v <;> first | rfl | exact h.elim
theorem okWide_struct {w : World} {r : Reach} {base : Nat} {fs : Array Field} {v : Value} (ht : P.underlying t = some (.struct fs)) (h : Value.okWide P w r base t v) : ∃ cs, v = .agg cs := by
  simp only [Value.okWide, ht] at h
  obtain ⟨cs, h, _⟩ := h
  exact ⟨cs, h⟩
theorem rdA_nil : RdA P [] (fun _ : Unit => []) (fun _ => True) := ⟨fun {H enc w ng base b0 r vs ds ps} _ h _ => by
  obtain ⟨rfl, rfl, rfl⟩ := trodAll_nil h
  exact ⟨(), trivial, rfl, fun j hj => absurd hj (Nat.not_lt_zero _)⟩⟩
theorem rdA_cons {ts : List TypeId} {B : β → List AV} {W : β → Prop} (k : ∀ {H : Type} {enc : TypeId × Value → H} {w : World} {ng base b0 : Nat} {r : Reach} {v : Value} {d : DataW H} {ps : List MemPlace}, Value.okWide P w r base t v →
    DataW.Trod enc P w b0 (fun _ => true) true t v d ps → (∀ n ∈ d.weights P t, n ≤ reachBytes) → ∃ a, V a ∧ VR (ghAll ng w) (A a) v) (hB : RdA P ts B W) : RdA P (t :: ts) (fun p : α × β => A p.1 :: B p.2) (fun p => V p.1 ∧ W p.2) :=
  ⟨fun {H enc w ng base b0 r vs ds ps} hok h hw => by
    obtain ⟨v, vs', d, ds', p, q, rfl, rfl, rfl, h1, h2⟩ := trodAll_cons h
    simp only [DataW.weightsEach, List.mem_append] at hw
    obtain ⟨a, k1, k2⟩ := k (ng := ng) (hok 0 t v rfl rfl) h1 fun n hn => hw n (.inl hn)
    obtain ⟨b, k3, k4, k5⟩ := hB.rd (ng := ng) (fun j t v ht hv => hok (j + 1) t v ht hv) h2 fun n hn => hw n (.inr hn)
    refine ⟨(a, b), ⟨k1, k3⟩, by simp [k4], fun j hj => ?_⟩
    cases j with
    | zero => exact k2
    | succ j => simpa using k5 j (by simpa using hj)⟩
theorem rdA_slice {ts : List TypeId} {B : β → List AV} {W : β → Prop} {e : TypeId} (ht : P.underlying t = some (.slice e)) (hc : P.cellsOf t = 1) (hA1 : ∀ a, (A a).cells = [A a]) (hA : Rd P t A V) (hB : RdA P ts B W) : RdA P (t :: ts) (fun p : α × β => A p.1 :: B p.2) (fun p => V p.1 ∧ W p.2) :=
  rdA_cons (fun hok hd hw => hA.arg_one hc (okWide_slice ht hok) (fun a _ => hA1 a) hd hw) hB
theorem rdA_str {ts : List TypeId} {B : β → List AV} {W : β → Prop} (ht : P.underlying t = some .string) (hc : P.cellsOf t = 1) (hA1 : ∀ a, (A a).cells = [A a]) (hA : Rd P t A V) (hB : RdA P ts B W) : RdA P (t :: ts) (fun p : α × β => A p.1 :: B p.2) (fun p => V p.1 ∧ W p.2) :=
  rdA_cons (fun hok hd hw => hA.arg_one hc (okWide_str ht hok) (fun a _ => hA1 a) hd hw) hB
theorem rdA_int {ts : List TypeId} {B : β → List AV} {W : β → Prop} {k : IntKind} (ht : P.underlying t = some (.int k)) (hc : P.cellsOf t = 1) (hA1 : ∀ a, (A a).cells = [A a]) (hA : Rd P t A V) (hB : RdA P ts B W) : RdA P (t :: ts) (fun p : α × β => A p.1 :: B p.2) (fun p => V p.1 ∧ W p.2) :=
  rdA_cons (fun hok hd hw => hA.arg_one hc (okWide_int ht hok) (fun a _ => hA1 a) hd hw) hB
theorem rdA_bool {ts : List TypeId} {B : β → List AV} {W : β → Prop} (ht : P.underlying t = some .bool) (hc : P.cellsOf t = 1) (hA1 : ∀ a, (A a).cells = [A a]) (hA : Rd P t A V) (hB : RdA P ts B W) : RdA P (t :: ts) (fun p : α × β => A p.1 :: B p.2) (fun p => V p.1 ∧ W p.2) :=
  rdA_cons (fun hok hd hw => hA.arg_one hc (okWide_bool ht hok) (fun a _ => hA1 a) hd hw) hB
theorem rdA_struct {ts : List TypeId} {B : β → List AV} {W : β → Prop} {fs : Array Field} {D : α → List AV} (ht : P.underlying t = some (.struct fs)) (hA1 : ∀ a, A a = .agg (D a)) (hA : Rd P t A V) (hB : RdA P ts B W) : RdA P (t :: ts) (fun p : α × β => A p.1 :: B p.2) (fun p => V p.1 ∧ W p.2) :=
  rdA_cons (fun hok hd hw => by
    obtain ⟨cs, rfl⟩ := okWide_struct ht hok
    have e : A = fun a => .agg (D a) := funext hA1
    subst e
    exact Rd.arg_agg hA hd hw) hB
theorem trodAll_length {H : Type} {enc : TypeId × Value → H} {w : World} {base : Nat} {sp : Nat → Bool} {held : Bool} : ∀ {ts : List TypeId} {vs : List Value} {ds : List (DataW H)} {ps : List MemPlace}, DataW.TrodAll enc P w base sp held ts vs ds ps → ds.length = ts.length
  | [], [], [], _, _ => rfl
  | _ :: _, _ :: _, _ :: _, _, ⟨_, _, _, h, _⟩ => by simp [trodAll_length h]
/-- A law's row: its witness, what its arguments read as, its contract. -/
theorem law_lifted {C : Checked} {os : Os} {f : FuncId} {fn : Func} {s : ChangeSpec} {conds : List PathCond} {tb : TypeId} {H : Type} {enc : TypeId × Value → H} {ts : List TypeId} {B : β → List AV} {W : β → Prop}
    (own : ownKnob C.prog.godebug = none) (started : os.Started) (noInit : C.prog.inits.idxOf? f = none) (hfn : C.prog.funcs[f]? = some fn)
    (witness : ∃ (w : World) (tape : Tape) (i : Input), w.os = os ∧ (w.forCall tape i).Shaped C.prog ∧ i.vars = [] ∧ Input.okWide C.prog (w.forCall tape i) .any w.heap.size f i ∧
      s.pre6 enc C.prog fn conds false (w.forCall tape i).memory i.args ∧ ({} : Assume).holds C.prog (lone (Frame.enter C.prog f i.args .normal) [] (w.forCall tape i)))
    (hl : laidOutB C.prog = true) (hz : ∀ t e, t < C.prog.types.size → C.prog.underlying t = some (.slice e) → 0 < C.prog.cellsOf e) (hp : fn.params.toList = ts) (hrB : (ts.all fun t => C.prog.readableRec t && decide (t < C.prog.types.size)) = true)
    (hrt : fn.resultTypes = #[tb]) (htb : C.prog.underlying tb = some .bool) (hv : s.vars = []) (hs : ∀ ds : List (DataW H), ds.length = ts.length → s.fn H ds = { results := [.lit (.bool true)], args := ds })
    (hA : RdA C.prog ts B W) (hc : ∀ b, W b → CallOK C.prog f (B b) (Oid.under (.root C.prog.globals.size)) ⟨[], .bool true, []⟩) :
    ReturnsInHanded {} C os f .any (s.pre6 enc C.prog fn conds false) (s.post enc C.prog fn false true false false) := by
  have hr : ∀ t ∈ ts, C.prog.readableRec t = true ∧ t < C.prog.types.size := fun t ht => by
    have := List.all_eq_true.1 hrB t ht
    simpa using this
  refine returnsInHanded_of_change_sized own started noInit hfn witness ?_
  intro w base args ds gs before hval hW _ hsz _
  have hW' := hW
  obtain ⟨p, q, hT, hV, rfl, hfz, hnd⟩ := hW
  rw [hv] at hV
  obtain ⟨rfl, rfl⟩ := trodVars_none hV
  have hlen := trodAll_length hT
  rw [hp] at hT hlen
  have hvt : s.plain.varTypes C.prog = [] := by
    have : s.plain.vars = [] := hv
    unfold DataSpec.varTypes; rw [this]; rfl
  rw [hvt, List.append_nil, List.append_nil, List.all_eq_true, hp] at hsz
  obtain ⟨b, k1, k2, k3⟩ := hA.rd (ng := C.prog.globals.size) (fun j t v ht hv' => hval j t v (by rw [← Array.getElem?_toList, hp]; exact ht) (by rw [← Array.getElem?_toList]; exact hv')) hT fun n hn => by simpa using hsz n hn
  refine law_post hl hz (by rw [hp]; exact hr) hrt htb hv hW' (hs ds hlen) (avs := B b) ⟨by simpa using k2, fun j hj => ?_⟩ (hc b k1)
  have := k3 j (by rw [k2]; exact hj)
  simpa [List.getD_eq_getElem?_getD, Array.getD_eq_getD_getElem?] using this
end
end Go.Ab
