/- Walks of vec, the third part: Good, Sum. No condition. -/
import Derived.Test.YtbhflfdlkiihgaaVecB
namespace Go.Proofs.Ytbhflfdlkiihgaa
open Go.RowKit Go.Bx

def most : Int := 1099511627776
def goodB (a : List Int) : Bool := a.all fun x => decide (0 ≤ x) && decide (x ≤ most)
theorem goodB_true {a : List Int} (h : ∀ i, i < a.length → 0 ≤ a.getD i 0 ∧ a.getD i 0 ≤ most) : goodB a = true := by
  simp only [goodB, List.all_eq_true, Bool.and_eq_true, decide_eq_true_eq]
  intro x hx
  obtain ⟨i, hi, rfl⟩ := List.mem_iff_getElem.1 hx
  have := h i hi
  simpa [hi] using this
theorem goodB_false {a : List Int} {i : Nat} (hi : i < a.length) (h : a.getD i 0 < 0 ∨ most < a.getD i 0) : goodB a = false := by
  rw [Bool.eq_false_iff]; intro hc
  simp only [goodB, List.all_eq_true, Bool.and_eq_true, decide_eq_true_eq] at hc
  have := hc a[i] (List.getElem_mem hi)
  have e : a.getD i 0 = a[i] := by simp [hi]
  omega
theorem indexV {a : List Int} {k : Nat} {x : Int} (hk : k < 8) (hx : a[k]? = some x) (w : World) : (Instr.index 26 (.agg (a.map (Value.int .i64)).toArray) (.int .i64 k)).run Try.prog w = .ok (.int .i64 x) w := by
  obtain ⟨i0, hi, hz0, hz1, hz2⟩ := info_parts (show (Try.prog.info? 2).map (fun i => (i.zero, i.size, i.bytes)) = some (some (.int .i64 0), 1, 8) by kernel_rfl)
  exact run_indexI Try.underlying26 Try.underlying2 hi hz1 hk hx w
structure Most (x : Int) : Prop where
  le : x ≤ 1099511627776
set_option maxHeartbeats 400000 in
theorem good_any (a : List Int) (ha : a.length = 8) (w : World) :
    Calls Try.prog 31 #[vv a] w fun e w' => e = .returned (.bool (goodB a)) ∧ Below w.heap.size w w' := by
  have HI := Held.mk (show (Try.prog.info? 26).map (·.size) = some (a.map (Value.int .i64)).length by rw [List.length_map, ha]; kernel_rfl)
  have H1 := Held.mk ha
  clear ha
  have key : ∃ W, Held (W = w.alloc (.cells (a.map (Value.int .i64)).toArray 26)) ∧ Held (W.heap[w.heap.size]? = some (.cells (a.map (Value.int .i64)).toArray 26 (0, 0))) ∧ Held (Below w.heap.size w W) :=
    ⟨_, ⟨rfl⟩, ⟨laid0 _ _⟩, ⟨(Below.refl _ _).alloc (Nat.le_refl _) _⟩⟩
  obtain ⟨W, hW, HA, HL⟩ := key
  go_enter Try.func31, Try.ntmps31
  go_wp2_with (first
    | rw [← hW.out]
    | (refine wpList_loadB rfl rfl HA.out rfl Try.underlying26 rfl HI.out ?_))
  go_loop [6] (fun i => ∃ k : Nat, k ≤ 8 ∧ i = .int .i64 k ∧ Held (∀ j, j < k → 0 ≤ a.getD j 0 ∧ a.getD j 0 ≤ most)) (fun i => 8 - (intOf i).toNat)
  case atStart => exact ⟨0, by omega, rfl, ⟨fun j hj => by omega⟩⟩
  case round =>
    obtain ⟨k, hk, rfl, hall⟩ := hrel
    by_cases hlt : k < 8
    · have c1 : a[k]? = some (a.getD k 0) := by simp [H1.out, hlt]
      generalize hx : a.getD k 0 = x at c1
      have hix := indexV hlt c1
      obtain ⟨b1, hb1⟩ : ∃ b, decide (x < 0) = b := ⟨_, rfl⟩
      obtain ⟨b2, hb2⟩ : ∃ b, decide (1099511627776 < x) = b := ⟨_, rfl⟩
      cases b1
      · cases b2
        · have hm : Held (0 ≤ x ∧ x ≤ most) := ⟨by unfold most; simp at hb1 hb2; omega⟩
          go_wp2
          go_round
          case rel =>
            refine ⟨k + 1, by omega, by push_cast; rfl, ⟨fun j hj => ?_⟩⟩
            by_cases hjk : j = k
            · subst hjk; rw [hx]; exact hm.out
            · exact hall.out j (by omega)
          case measure => simp [intOf]; omega
        · have hf : goodB a = false := goodB_false (i := k) (by rw [H1.out]; exact hlt) (by rw [hx]; unfold most; simp at hb2; omega)
          go_wp2
          go_ret
          exact ⟨by first | rfl | (rw [hf]; rfl), HL.out⟩
      · have hf : goodB a = false := goodB_false (i := k) (by rw [H1.out]; exact hlt) (by rw [hx]; simp at hb1; omega)
        go_wp2
        go_ret
        exact ⟨by first | rfl | (rw [hf]; rfl), HL.out⟩
    · obtain rfl : k = 8 := by omega
      have hf : goodB a = true := goodB_true (by rw [H1.out]; exact hall.out)
      go_wp2
      go_ret
      exact ⟨by first | rfl | (rw [hf]; rfl), HL.out⟩
def sumL (a : List Int) : Int := if goodB a then a.sum else -1
theorem getD_le {a : List Int} (h : goodB a = true) (i : Nat) : 0 ≤ a.getD i 0 ∧ a.getD i 0 ≤ most := by
  simp only [goodB, List.all_eq_true, Bool.and_eq_true, decide_eq_true_eq] at h
  by_cases hi : i < a.length
  · have e : a.getD i 0 = a[i] := by simp [hi]
    rw [e]; exact h _ (List.getElem_mem hi)
  · simp [List.getD, List.getElem?_eq_none (Nat.le_of_not_lt hi)]; decide
theorem take_sum : ∀ (a : List Int) (k : Nat), k < a.length → (a.take (k + 1)).sum = (a.take k).sum + a.getD k 0
  | [], _, h => by simp at h
  | x :: a, 0, _ => by simp
  | x :: a, k + 1, h => by
    have := take_sum a k (by simpa using h)
    simp only [List.take_succ_cons, List.sum_cons, List.getD_cons_succ] at *
    omega
end Go.Proofs.Ytbhflfdlkiihgaa
