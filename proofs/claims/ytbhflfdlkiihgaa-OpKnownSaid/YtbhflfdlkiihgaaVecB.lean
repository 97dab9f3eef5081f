/- Walks of vec, the second part: Cmp, Dev, Has, Good, Sum. No condition. -/
import Derived.Test.YtbhflfdlkiihgaaVec
namespace Go.Proofs.Ytbhflfdlkiihgaa
open Go.RowKit Go.Bx

theorem eqV (a b : List Int) (ha : a.length = 8) (hb : b.length = 8) : EqQ Try.prog 26 (vv a) (vv b) (a == b) :=
  EqQ.of Try.eqGuardType26 fun w => by
    obtain ⟨i0, hi, hz0, hz1, hz2⟩ := info_parts (show (Try.prog.info? 2).map (fun i => (i.zero, i.size, i.bytes)) = some (some (.int .i64 0), 1, 8) by kernel_rfl)
    exact run_eqInts w 26 2 8 .i64 Try.underlying26 Try.underlying2 hi hz1 a b ha hb
def cmpL (a b : List Int) : Int := if a = b then 0 else if leB a b then -1 else if leB b a then 1 else 2
def devB (n : Int) : Bool := decide (0 ≤ n ∧ n < 8)
set_option maxHeartbeats 400000 in
theorem dev_any (n : Int) (w : World) : Calls Try.prog 30 #[.int .i64 n] w fun e w' => e = .returned (.bool (devB n)) ∧ Below w.heap.size w w' := by
  by_cases h0 : 0 ≤ n
  · by_cases h8 : n < 8
    all_goals
      go_enter Try.func30, Try.ntmps30
      go_wp2
      go_ret
      exact ⟨by simp [devB]; omega, Below.refl _ _⟩
  · go_enter Try.func30, Try.ntmps30
    go_wp2
    go_ret
    exact ⟨by simp [devB]; omega, Below.refl _ _⟩
theorem devQ (n : Int) (W0 : World) {b : Bool} (h : devB n = b) : CallQ Try.prog 30 [.int .i64 n] W0 (.bool b) :=
  CallQ.mk' Try.func30 (by kernel_rfl) rfl fun x => h ▸ dev_any n x.w
def hasB (a : List Int) (d n : Int) : Bool := devB d && decide (1 ≤ n) && decide (n ≤ a.getD d.toNat 0)
set_option maxHeartbeats 400000 in
theorem has_any (a : List Int) (d n : Int) (ha : a.length = 8) (w : World) :
    Calls Try.prog 21 #[vv a, .agg #[.int .i64 d, .int .i64 n]] w fun e w' => e = .returned (.bool (hasB a d n)) ∧ Below w.heap.size w w' := by
  have key : ∃ W, Held (W = (w.alloc (.cells (a.map (Value.int .i64)).toArray 26)).alloc (.cells #[.int .i64 d, .int .i64 n] 24)) ∧ Held (W.heap[w.heap.size]? = some (.cells (a.map (Value.int .i64)).toArray 26 (0, 0))) ∧ Held (W.heap[w.heap.size + 1]? = some (.cells #[.int .i64 d, .int .i64 n] 24 (0, 0))) ∧ Held (Below w.heap.size w W) ∧ w.heap.size + 2 ≤ W.heap.size :=
    ⟨_, ⟨rfl⟩, ⟨laid1 (laid0 _ _) _⟩, ⟨laidN _ (by simp) rfl⟩, ⟨((Below.refl _ _).alloc (Nat.le_refl _) _).alloc (by simp) _⟩, by simp⟩
  obtain ⟨W, hW, HA, HB, HL, hs⟩ := key
  have d0 : ∀ x : ExtW W, x.w.cell? ⟨w.heap.size + 1, 0, none⟩ = some (.int .i64 d) := fun x => x.cell (by rw [cell_of_row _ _ _ _ _ _ HB.out]; rfl)
  have d1 : ∀ x : ExtW W, x.w.cell? ⟨w.heap.size + 1, 1, none⟩ = some (.int .i64 n) := fun x => x.cell (by rw [cell_of_row _ _ _ _ _ _ HB.out]; rfl)
  obtain ⟨b1, hb1⟩ : ∃ b, devB d = b := ⟨_, rfl⟩
  have c1 := Held.mk (devQ d W hb1)
  cases b1
  · go_enter Try.func21, Try.ntmps21
    go_wp2_with (rw [← hW.out])
    refine wp_region_q (by kernel_rfl) (by kernel_rfl) ?_
    repeat (first
      | go_big_quiet_skip
      | (go_big_quiet_want; first
          | (refine quiet_call c1.out rfl ?_; go_big_quiet_op; go_big_quiet_on)
          | (go_big_quiet_op; go_big_quiet_on)))
    refine wpQuiet_nil (fun x => ?_)
    go_wp2
    go_ret
    exact ⟨by simp [hasB, hb1], HL.out.trans (x.below.mono HL.out.size)⟩
  · have hd : 0 ≤ d ∧ d < 8 := by simpa [devB] using hb1
    obtain ⟨k, rfl⟩ : ∃ k : Nat, d = k := ⟨d.toNat, by omega⟩
    obtain ⟨y, hy⟩ : ∃ y, a.getD k 0 = y := ⟨_, rfl⟩
    have hk : k < 8 := by omega
    have d2 : ∀ x : ExtW W, x.w.cell? ⟨w.heap.size, k, none⟩ = some (.int .i64 y) := fun x => x.cell (by rw [cell_of_row _ _ _ _ _ _ HA.out, ← hy]; simp [ha, hk])
    obtain ⟨b2, hn⟩ : ∃ b, decide (1 ≤ n) = b := ⟨_, rfl⟩
    cases b2
    all_goals
      go_enter Try.func21, Try.ntmps21
      go_wp2_with (rw [← hW.out])
      refine wp_region_q (by kernel_rfl) (by kernel_rfl) ?_
      repeat (first
        | go_big_quiet_skip
        | (go_big_quiet_want; first
            | (refine quiet_call c1.out rfl ?_; go_big_quiet_op; go_big_quiet_on)
            | (go_big_quiet_op; go_big_quiet_on)))
      refine wpQuiet_nil (fun x => ?_)
      go_wp2
      go_ret
      exact ⟨by simp [hasB, hb1, hn, ← hy], HL.out.trans (x.below.mono HL.out.size)⟩
end Go.Proofs.Ytbhflfdlkiihgaa
