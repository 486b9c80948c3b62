/- Put and At over the store as a function of the name. -/
import Derived.Test.YtbpembafoloinaaGreatDoorS16
set_option linter.unusedVariables false
set_option linter.unusedSimpArgs false
namespace Go.Proofs.YtbpembafoloinaaGreatDoor
open Go Go.Ab
set_option maxRecDepth 20000
theorem callOK_keep {P : Program} [Laid P] {f : FuncId} {xs : List AV} {sp : Oid → Prop} {need : List (Oid × AObj)} {v : AV} {t : Oid} {o : AObj} (h : CallOK P f xs sp ⟨need, v, []⟩) (ht : (t, o) ∈ need) : CallOK P f xs sp ⟨need, v, [(t, some o)]⟩ :=
  ⟨h.enters, fun x g args w m hm hn ha hs hx => (h.calls x g args w m hm hn ha hs hx).mono fun en w' ⟨g', u, h1, h2, h3, h4, h5⟩ => ⟨g', u, h1, h2, h3, h4, by
    have he : m.upds [(t, some o)] = m := by
      funext i
      simp only [Mem.upds, Mem.set]
      split
      · rename_i e; rw [e]; exact (hn _ ht).symm
      · rfl
    show MemRel x g' (m.upds [(t, some o)]) w'
    rw [he]; exact h5⟩⟩
def putE (n : Str) (b : Bits) (es : List ME) (clock : Nat) : List ME := if n = [] then es else if b.k = 0 then delE (.str n) es else setE (.str n) b.av clock es
def putC (n : Str) (b : Bits) (es : List ME) (clock : Nat) : Nat := if n = [] then clock else if b.k = 0 then clock else if hasE (.str n) es then clock else clock + 1
def putF (f : Str → Bits) (n : Str) (b : Bits) : Str → Bits := if n = [] then f else upF f n (if b.k = 0 then Bits.no else b)
theorem mapF_put {es : List ME} {f : Str → Bits} (h : MapF es f) (n : Str) (b : Bits) (c : Nat) : MapF (putE n b es c) (putF f n b) := by
  unfold putE putF
  split
  · exact h
  · split
    · exact mapF_del h n
    · exact mapF_set h n b c
theorem put_ok (st t : Oid) (es : List ME) (clock : Nat) (hts : ¬ t = st) (p : Oid) (hs : ¬ Oid.under p st) (ht : ¬ Oid.under p t) (n : Str) (b : Bits) :
    CallOK Tryz.prog 9 [.ptr st 0, .str n, b.av] (Oid.under p) ⟨[(st, .cells [.map t, .nilPtr]), (t, .map [.ss] false es clock)], .tuple [], [(t, some (.map [.ss] false (putE n b es clock) (putC n b es clock)))]⟩ := by
  unfold putE putC
  by_cases hn : n = []
  · subst hn
    simp only [if_true]
    exact callOK_keep (put_nil st t es clock hts p hs ht b) (by simp)
  · by_cases hb : b.k = 0
    · simp only [hn, hb, if_true, if_false]
      exact put_del st t es clock hts p hs ht n hn b hb
    · simp only [hn, hb, if_false]
      exact put_set st t es clock hts p hs ht n hn b hb
end Go.Proofs.YtbpembafoloinaaGreatDoor
