/- Walks of vec: what its functions answer. No condition. -/
import Derived.Test.YtbhflfdlkiihgaaQt
import Derived.Test.YtbhflfdlkiihgaaProg
namespace Go.Proofs.Ytbhflfdlkiihgaa
open Go.RowKit Go.Bx

abbrev vv (l : List Int) : Value := .agg (l.map (Value.int .i64)).toArray
def leB (a b : List Int) : Bool := (List.range 8).all fun i => decide (a.getD i 0 ≤ b.getD i 0)
theorem leB_true {a b : List Int} (h : ∀ i, i < 8 → a.getD i 0 ≤ b.getD i 0) : leB a b = true := by
  simp only [leB, List.all_eq_true, List.mem_range, decide_eq_true_eq]; exact h
theorem leB_false {a b : List Int} {i : Nat} (hi : i < 8) (h : b.getD i 0 < a.getD i 0) : leB a b = false := by
  rw [Bool.eq_false_iff]; intro hc
  simp only [leB, List.all_eq_true, List.mem_range, decide_eq_true_eq] at hc
  have := hc i hi
  omega
theorem at_of {l : List Int} {k : Nat} (h : k < l.length) : l[k]? = some (l.getD k 0) := by simp [h]
def mergeL (a b : List Int) : List Int := (List.range 8).map fun i => max (a.getD i 0) (b.getD i 0)
theorem mergeL_length (a b : List Int) : (mergeL a b).length = 8 := by simp [mergeL]
theorem mergeL_getD (a b : List Int) (i : Nat) (h : i < 8) : (mergeL a b).getD i 0 = max (a.getD i 0) (b.getD i 0) := by simp [mergeL, h]
theorem ext8 {a b : List Int} (ha : a.length = 8) (hb : b.length = 8) (h : ∀ i, i < 8 → a.getD i 0 = b.getD i 0) : a = b := by
  refine List.ext_getElem (by omega) fun i h1 h2 => ?_
  have := h i (by omega)
  simpa [h1, h2] using this
structure MerRel (w : World) (a b : List Int) (i : Value) (wr : World) : Prop where
  ex : ∃ (k : Nat) (l : List Int) (z : Array Value), k ≤ 8 ∧ i = .int .i64 k ∧ l.length = 8 ∧ (∀ j, j < k → l.getD j 0 = max (a.getD j 0) (b.getD j 0)) ∧ (∀ j, j < 8 → k ≤ j → l.getD j 0 = a.getD j 0) ∧
    wr.heap[w.heap.size]? = some (.cells (l.map (Value.int .i64)).toArray 26 (0, 0)) ∧ wr.heap[w.heap.size + 1]? = some (.cells (b.map (Value.int .i64)).toArray 26 (0, 0)) ∧
    wr.heap[w.heap.size + 2]? = some (.cells z 26 (0, 0)) ∧ z.size = 8 ∧ Below w.heap.size w wr
end Go.Proofs.Ytbhflfdlkiihgaa
