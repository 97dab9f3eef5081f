/- Walks of the reference's vec: it answers as vec does. No condition. -/
import Derived.Test.YtbhflfdlkiihgaaVecC
import Derived.Test.YtbhflfdlkiihgaaSym
namespace Go.Proofs.Ytbhflfdlkiihgaa
open Go.RowKit Go.Bx

structure RMerRel (w : World) (a b : List Int) (i : Value) (wr : World) : Prop where
  ex : ∃ (k : Nat) (l : List Int) (z : Array Value), k ≤ 8 ∧ i = .int .i64 k ∧ l.length = 8 ∧ (∀ j, j < k → l.getD j 0 = max (a.getD j 0) (b.getD j 0)) ∧ (∀ j, j < 8 → k ≤ j → l.getD j 0 = a.getD j 0) ∧
    wr.heap[w.heap.size]? = some (.cells (l.map (Value.int .i64)).toArray 36 (0, 0)) ∧ wr.heap[w.heap.size + 1]? = some (.cells (b.map (Value.int .i64)).toArray 36 (0, 0)) ∧
    wr.heap[w.heap.size + 2]? = some (.cells z 36 (0, 0)) ∧ z.size = 8 ∧ Below w.heap.size w wr
set_option maxHeartbeats 400000 in
theorem rgood_any (a : List Int) (ha : a.length = 8) (w : World) :
    Calls Try.prog 40 #[vv a] w fun e w' => e = .returned (.bool (goodB a)) ∧ Below w.heap.size w w' := by
  have H1 := Held.mk ha
  clear ha
  obtain ⟨W, hW⟩ : ∃ W, W = w.alloc (.cells (a.map (Value.int .i64)).toArray 36) := ⟨_, rfl⟩
  have hB : Below w.heap.size w W := by rw [hW]; exact (Below.refl _ _).alloc (Nat.le_refl _) _
  go_enter Try.func40, Try.ntmps40
  go_wp2
  go_loopw [3] (fun i wr => ∃ k : Nat, k ≤ 8 ∧ i = .int .i64 k ∧ Held (∀ j, j < k → 0 ≤ a.getD j 0 ∧ a.getD j 0 ≤ most) ∧ wr = W) (fun i _ => 8 - (intOf i).toNat)
  case atStart => exact ⟨0, by omega, rfl, ⟨fun j hj => by omega⟩, hW.symm⟩
  case round =>
    obtain ⟨k, hk, rfl, hall, rfl⟩ := hrel
    subst hW
    by_cases hlt : k < 8
    · have c1 : a[k]? = some (a.getD k 0) := by simp [H1.out, hlt]
      generalize hx : a.getD k 0 = x at c1
      obtain ⟨b1, hb1⟩ : ∃ b, decide (x < 0) = b := ⟨_, rfl⟩
      obtain ⟨b2, hb2⟩ : ∃ b, decide (1099511627776 < x) = b := ⟨_, rfl⟩
      cases b1
      · cases b2
        · have hm : Held (0 ≤ x ∧ x ≤ most) := ⟨by unfold most; simp at hb1 hb2; omega⟩
          go_wp2
          go_roundw
          case rel =>
            refine ⟨k + 1, by omega, by push_cast; rfl, ⟨fun j hj => ?_⟩, trivial⟩
            by_cases hjk : j = k
            · subst hjk; rw [hx]; exact hm.out
            · exact hall.out j (by omega)
          case measure => simp [intOf]; omega
        · have hf : goodB a = false := goodB_false (i := k) (by rw [H1.out]; exact hlt) (by rw [hx]; unfold most; simp at hb2; omega)
          go_wp2
          go_ret
          exact ⟨by first | rfl | (rw [hf]; rfl), hB⟩
      · have hf : goodB a = false := goodB_false (i := k) (by rw [H1.out]; exact hlt) (by rw [hx]; simp at hb1; omega)
        go_wp2
        go_ret
        exact ⟨by first | rfl | (rw [hf]; rfl), hB⟩
    · obtain rfl : k = 8 := by omega
      have hf : goodB a = true := goodB_true (by rw [H1.out]; exact hall.out)
      go_wp2
      go_ret
      exact ⟨by first | rfl | (rw [hf]; rfl), hB⟩
set_option maxHeartbeats 400000 in
theorem rhas_any (a : List Int) (d n : Int) (ha : a.length = 8) (w : World) :
    Calls Try.prog 42 #[vv a, .agg #[.int .i64 d, .int .i64 n]] w fun e w' => e = .returned (.bool (hasB a d n)) ∧ Below w.heap.size w w' := by
  have key : ∃ W, Held (W = (w.alloc (.cells (a.map (Value.int .i64)).toArray 36)).alloc (.cells #[.int .i64 d, .int .i64 n] 24)) ∧ Held (W.heap[w.heap.size]? = some (.cells (a.map (Value.int .i64)).toArray 36 (0, 0))) ∧ Held (W.heap[w.heap.size + 1]? = some (.cells #[.int .i64 d, .int .i64 n] 24 (0, 0))) ∧ Held (Below w.heap.size w W) ∧ w.heap.size + 2 ≤ W.heap.size :=
    ⟨_, ⟨rfl⟩, ⟨laid1 (laid0 _ _) _⟩, ⟨laidN _ (by simp) rfl⟩, ⟨((Below.refl _ _).alloc (Nat.le_refl _) _).alloc (by simp) _⟩, by simp⟩
  obtain ⟨W, hW, HA, HB, HL, hs⟩ := key
  have d0 : ∀ x : ExtW W, x.w.cell? ⟨w.heap.size + 1, 0, none⟩ = some (.int .i64 d) := fun x => x.cell (by rw [cell_of_row _ _ _ _ _ _ HB.out]; rfl)
  have d1 : ∀ x : ExtW W, x.w.cell? ⟨w.heap.size + 1, 1, none⟩ = some (.int .i64 n) := fun x => x.cell (by rw [cell_of_row _ _ _ _ _ _ HB.out]; rfl)
  obtain ⟨b0, hb0⟩ : ∃ b, decide (0 ≤ d) = b := ⟨_, rfl⟩
  obtain ⟨b8, hb8⟩ : ∃ b, decide (d < 8) = b := ⟨_, rfl⟩
  have hdv : devB d = (b0 && b8) := by rw [← hb0, ← hb8]; simp [devB]
  cases b0
  · go_enter Try.func42, Try.ntmps42
    go_wp2_with (rw [← hW.out])
    refine wp_region_q (by kernel_rfl) (by kernel_rfl) ?_
    repeat (first
      | go_big_quiet_skip
      | (go_big_quiet_want; go_big_quiet_op; go_big_quiet_on))
    refine wpQuiet_nil (fun x => ?_)
    go_wp2
    go_ret
    exact ⟨by simp [hasB, hdv], HL.out.trans (x.below.mono HL.out.size)⟩
  · cases b8
    · go_enter Try.func42, Try.ntmps42
      go_wp2_with (rw [← hW.out])
      refine wp_region_q (by kernel_rfl) (by kernel_rfl) ?_
      repeat (first
        | go_big_quiet_skip
        | (go_big_quiet_want; go_big_quiet_op; go_big_quiet_on))
      refine wpQuiet_nil (fun x => ?_)
      go_wp2
      go_ret
      exact ⟨by simp [hasB, hdv], HL.out.trans (x.below.mono HL.out.size)⟩
    · have hd : 0 ≤ d ∧ d < 8 := by simpa using And.intro hb0 hb8
      obtain ⟨k, rfl⟩ : ∃ k : Nat, d = k := ⟨d.toNat, by omega⟩
      obtain ⟨y, hy⟩ : ∃ y, a.getD k 0 = y := ⟨_, rfl⟩
      have hk : k < 8 := by omega
      have d2 : ∀ x : ExtW W, x.w.cell? ⟨w.heap.size, k, none⟩ = some (.int .i64 y) := fun x => x.cell (by rw [cell_of_row _ _ _ _ _ _ HA.out, ← hy]; simp [ha, hk])
      obtain ⟨b2, hn⟩ : ∃ b, decide (1 ≤ n) = b := ⟨_, rfl⟩
      cases b2
      all_goals
        go_enter Try.func42, Try.ntmps42
        go_wp2_with (rw [← hW.out])
        refine wp_region_q (by kernel_rfl) (by kernel_rfl) ?_
        repeat (first
          | go_big_quiet_skip
          | (go_big_quiet_want; go_big_quiet_op; go_big_quiet_on))
        refine wpQuiet_nil (fun x => ?_)
        go_wp2
        go_ret
        exact ⟨by simp [hasB, hdv, hn, ← hy], HL.out.trans (x.below.mono HL.out.size)⟩
end Go.Proofs.Ytbhflfdlkiihgaa
