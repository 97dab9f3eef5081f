/- Walks of the paper's own reader: bytes read. Conditions: lengths within memory. -/
import Derived.Test.YtlmegcbiijkmaaaRdR
import Derived.Test.YtlmegcbiijkmaaaWire2
import Derived.Test.YtlmegcbiijkmaaaQt
namespace Go.Proofs.Ytlmegcbiijkmaaa
open Go.RowKit Go.Bx
set_option linter.unusedSimpArgs false
set_option linter.unusedVariables false
/-- Bytes read: it, and where the reader stands then. -/
def atB (G : Value × TypeId × List UInt8) (p : Nat) (x : Int) (l : List UInt8) (bad : Bool) : Nat := atP G (atP G p (numL x l) (numB x l bad)) (bytL x l) (bytB x l bad)
theorem R7.setBad {G : Value × TypeId × List UInt8} {g q p : Nat} {l : List UInt8} {bad : Bool} {w : World} (h : R7 G w g q p l bad) (n : Nat) : R7 G ((w.drewN n).setCell ⟨g, 2, none⟩ (.bool true)) g q p [] true ∧ Fr (· = g) w ((w.drewN n).setCell ⟨g, 2, none⟩ (.bool true)) := by
  obtain ⟨sv, t, L, rfl, hg, hs, hne, hp, hb0, hb1, hL⟩ := h.ex
  have hfr : Fr (· = g) (w.drewN n) ((w.drewN n).setCell ⟨g, 2, none⟩ (.bool true)) := Fr.setCell (S := (· = g)) _ (p := ⟨g, 2, none⟩) rfl _
  refine ⟨⟨_, _, L, rfl, heap_setCell_same _ _ _ _ _ _ (show (w.drewN n).heap[g]? = _ from hg), ?_, hne, hp, (by intro h; cases h), fun _ => rfl, hL⟩, (Fr.drewN _ _ _).trans hfr⟩
  exact hs.fr ((Fr.drewN (· = g) w n).trans hfr) (fun hp k _ hk e => by rw [(hne hp).1] at hk; cases hk; exact (hne hp).2 e)
theorem R7.flat {G : Value × TypeId × List UInt8} {g q p : Nat} {l : List UInt8} {bad : Bool} {w : World} (h : R7 G w g q p l bad) : bad = true → l = [] := by
  obtain ⟨sv, t, L, rfl, hg, hs, hne, hp, hb0, hb1, hL⟩ := h.ex
  exact hb1
theorem num_bad {x : Int} {l : List UInt8} {bad : Bool} (hb : bad = true → l = []) (h : numB x l bad = true) : numV x l = 0 ∧ numL x l = [] := by
  cases hd : dec x.toNat l with
  | none => obtain ⟨h1, h2, _⟩ := none_num (most := x) bad hd; exact ⟨h1, h2⟩
  | some r =>
    obtain ⟨v, r⟩ := r
    obtain ⟨_, _, h3⟩ := some_num (most := x) bad hd
    rw [h3] at h
    have := hb h
    subst this
    cases hd
end Go.Proofs.Ytlmegcbiijkmaaa
