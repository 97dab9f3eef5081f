/- Names: of 1 to 40 signs, each from 33 to 126; the program's and the document's own. No condition. -/
import Derived.Test.YtlmegcbiijkmaaaVecD
import Derived.Test.YtlmegcbiijkmaaaVecR
namespace Go.Proofs.Ytlmegcbiijkmaaa
open Go.RowKit Go.Bx

def signB (b : UInt8) : Bool := decide (33 ≤ b.toNat) && decide (b.toNat ≤ 126)
def nameB (l : List UInt8) : Bool := l.all signB && decide (1 ≤ l.length) && decide (l.length ≤ 40)
theorem nameB_bad {l : List UInt8} {i : Nat} {b : UInt8} (h : l[i]? = some b) (hb : signB b = false) : nameB l = false := by
  have : l.all signB = false := by
    rw [Bool.eq_false_iff]; intro hc
    rw [List.all_eq_true] at hc
    rw [hc b (List.mem_of_getElem? h)] at hb; cases hb
  unfold nameB; rw [this]; rfl
theorem nameB_all {l : List UInt8} (h : ∀ j, j < l.length → signB (l.getD j 0) = true) : nameB l = (decide (1 ≤ l.length) && decide (l.length ≤ 40)) := by
  have : l.all signB = true := by
    rw [List.all_eq_true]
    intro x hx
    obtain ⟨i, hi, rfl⟩ := List.mem_iff_getElem.1 hx
    have := h i hi
    rw [List.getD_eq_getElem?_getD, List.getElem?_eq_getElem hi] at this
    exact this
  unfold nameB; rw [this]; rfl
theorem indexStr {l : List UInt8} {k : Nat} {b : UInt8} (hb : l[k]? = some b) (w : World) : (Instr.index 9 (.string ⟨l.toArray⟩) (.int .i64 k)).run Try.prog w = .ok (.int .u8 (b.toNat : Int)) w := by
  obtain ⟨hk, rfl⟩ := List.getElem?_eq_some_iff.1 hb
  have hz : k < (⟨l.toArray⟩ : ByteArray).size := by simpa [ByteArray.size] using hk
  have hg : (⟨l.toArray⟩ : ByteArray)[k]? = some l[k] := by rw [getElem?_pos (⟨l.toArray⟩ : ByteArray) k hz]; rfl
  simp [Instr.index, asIntOf, run_underlying Try.underlying9, hg]
end Go.Proofs.Ytlmegcbiijkmaaa
