/- Walks of vec, the second part: Cmp, Dev, Has, Good, Sum. No condition. -/
import Derived.Test.YtlmegcbiijkmaaaVec
namespace Go.Proofs.Ytlmegcbiijkmaaa
open Go.RowKit Go.Bx

theorem eqV (a b : List Int) (ha : a.length = 8) (hb : b.length = 8) : EqQ Try.prog 39 (vv a) (vv b) (a == b) :=
  EqQ.of Try.eqGuardType39 fun w => by
    obtain ⟨i0, hi, hz0, hz1, hz2⟩ := info_parts (show (Try.prog.info? 2).map (fun i => (i.zero, i.size, i.bytes)) = some (some (.int .i64 0), 1, 8) by kernel_rfl)
    exact run_eqInts w 39 2 8 .i64 Try.underlying39 Try.underlying2 hi hz1 a b ha hb
def cmpL (a b : List Int) : Int := if a = b then 0 else if leB a b then -1 else if leB b a then 1 else 2
set_option maxHeartbeats 400000 in
theorem cmp_core (a b : List Int) (e1 e2 e3 : Bool) (r : Int) (ha : a.length = 8) (hb : b.length = 8) (h1 : (a == b) = e1) (h2 : leB a b = e2) (h3 : leB b a = e3) (hr : Held (r = cmpL a b)) (w : World)
    (hc : (e1 = true ∧ r = 0) ∨ (e1 = false ∧ e2 = true ∧ r = -1) ∨ (e1 = false ∧ e2 = false ∧ e3 = true ∧ r = 1) ∨ (e1 = false ∧ e2 = false ∧ e3 = false ∧ r = 2)) :
    Calls Try.prog 32 #[vv a, vv b] w fun e w' => e = .returned (.int .i64 r) ∧ Below w.heap.size w w' := by
  have E1 := Held.mk (eqV a b ha hb)
  rw [h1] at E1
  have L1 := Held.mk (fun w => le_any a b ha hb w)
  have L2 := Held.mk (fun w => le_any b a hb ha w)
  rw [h2] at L1
  rw [h3] at L2
  have HIa := Held.mk (show (Try.prog.info? 39).map (·.size) = some (a.map (Value.int .i64)).length by rw [List.length_map, ha]; kernel_rfl)
  have HIb := Held.mk (show (Try.prog.info? 39).map (·.size) = some (b.map (Value.int .i64)).length by rw [List.length_map, hb]; kernel_rfl)
  clear ha hb h1 h2 h3
  have key : ∃ W, Held (W = (w.alloc (.cells (a.map (Value.int .i64)).toArray 39)).alloc (.cells (b.map (Value.int .i64)).toArray 39)) ∧ Held (W.heap[w.heap.size]? = some (.cells (a.map (Value.int .i64)).toArray 39 (0, 0))) ∧ Held (W.heap[w.heap.size + 1]? = some (.cells (b.map (Value.int .i64)).toArray 39 (0, 0))) ∧ Held (Below w.heap.size w W) ∧ w.heap.size + 2 ≤ W.heap.size :=
    ⟨_, ⟨rfl⟩, ⟨laid1 (laid0 _ _) _⟩, ⟨laidN _ (by simp) rfl⟩, ⟨((Below.refl _ _).alloc (Nat.le_refl _) _).alloc (by simp) _⟩, by simp⟩
  obtain ⟨W, hW, HA, HB, HL, hs⟩ := key
  go_enter Try.func32, Try.ntmps32
  rcases hc with ⟨rfl, rfl⟩ | ⟨rfl, rfl, rfl⟩ | ⟨rfl, rfl, rfl, rfl⟩ | ⟨rfl, rfl, rfl, rfl⟩
  all_goals
    go_wp2_with (first
      | rw [← hW.out]
      | (refine wpList_loadB rfl rfl HA.out rfl Try.underlying39 rfl HIa.out ?_)
      | (refine wpList_loadB rfl rfl HB.out rfl Try.underlying39 rfl HIb.out ?_)
      | (refine wpList_loadB rfl rfl ((hb1.block _ (by omega)).trans HA.out) rfl Try.underlying39 rfl HIa.out ?_)
      | (refine wpList_loadB rfl rfl ((hb1.block _ (by omega)).trans HB.out) rfl Try.underlying39 rfl HIb.out ?_)
      | (refine wpList_eqB rfl rfl E1.out rfl rfl ?_)
      | (go_at_call 31; have hbb := hb1; clear hbb; refine (L2.out _).mono ?_; rintro e w2 ⟨rfl, hb2⟩)
      | (go_at_call 31; refine (L1.out _).mono ?_; rintro e w1 ⟨rfl, hb1⟩))
    go_ret
    first
      | exact ⟨rfl, HL.out⟩
      | exact ⟨rfl, (HL.out.trans (hb1.mono HL.out.size)).trans (hb2.mono (Nat.le_trans HL.out.size hb1.size))⟩
      | exact ⟨rfl, HL.out.trans (hb1.mono HL.out.size)⟩
theorem cmp_any (a b : List Int) (ha : a.length = 8) (hb : b.length = 8) (w : World) :
    Calls Try.prog 32 #[vv a, vv b] w fun e w' => e = .returned (.int .i64 (cmpL a b)) ∧ Below w.heap.size w w' := by
  refine cmp_core a b _ _ _ _ ha hb rfl rfl rfl ⟨rfl⟩ w ?_
  unfold cmpL
  by_cases h : a = b
  · exact .inl ⟨by simp [h], by simp [h]⟩
  · cases h2 : leB a b
    · cases h3 : leB b a
      · exact .inr (.inr (.inr ⟨by simp [h], rfl, rfl, by simp [h]⟩))
      · exact .inr (.inr (.inl ⟨by simp [h], rfl, rfl, by simp [h]⟩))
    · exact .inr (.inl ⟨by simp [h], rfl, by simp [h]⟩)
def devB (n : Int) : Bool := decide (0 ≤ n ∧ n < 8)
set_option maxHeartbeats 400000 in
theorem dev_any (n : Int) (w : World) : Calls Try.prog 59 #[.int .i64 n] w fun e w' => e = .returned (.bool (devB n)) ∧ Below w.heap.size w w' := by
  by_cases h0 : 0 ≤ n
  · by_cases h8 : n < 8
    all_goals
      go_enter Try.func59, Try.ntmps59
      go_wp2
      go_ret
      exact ⟨by simp [devB]; omega, Below.refl _ _⟩
  · go_enter Try.func59, Try.ntmps59
    go_wp2
    go_ret
    exact ⟨by simp [devB]; omega, Below.refl _ _⟩
theorem devQ (n : Int) (W0 : World) {b : Bool} (h : devB n = b) : CallQ Try.prog 59 [.int .i64 n] W0 (.bool b) :=
  CallQ.mk' Try.func59 (by kernel_rfl) rfl fun x => h ▸ dev_any n x.w
def hasB (a : List Int) (d n : Int) : Bool := devB d && decide (1 ≤ n) && decide (n ≤ a.getD d.toNat 0)
set_option maxHeartbeats 400000 in
theorem has_any (a : List Int) (d n : Int) (ha : a.length = 8) (w : World) :
    Calls Try.prog 33 #[vv a, .agg #[.int .i64 d, .int .i64 n]] w fun e w' => e = .returned (.bool (hasB a d n)) ∧ Below w.heap.size w w' := by
  have key : ∃ W, Held (W = (w.alloc (.cells (a.map (Value.int .i64)).toArray 39)).alloc (.cells #[.int .i64 d, .int .i64 n] 45)) ∧ Held (W.heap[w.heap.size]? = some (.cells (a.map (Value.int .i64)).toArray 39 (0, 0))) ∧ Held (W.heap[w.heap.size + 1]? = some (.cells #[.int .i64 d, .int .i64 n] 45 (0, 0))) ∧ Held (Below w.heap.size w W) ∧ w.heap.size + 2 ≤ W.heap.size :=
    ⟨_, ⟨rfl⟩, ⟨laid1 (laid0 _ _) _⟩, ⟨laidN _ (by simp) rfl⟩, ⟨((Below.refl _ _).alloc (Nat.le_refl _) _).alloc (by simp) _⟩, by simp⟩
  obtain ⟨W, hW, HA, HB, HL, hs⟩ := key
  have d0 : ∀ x : ExtW W, x.w.cell? ⟨w.heap.size + 1, 0, none⟩ = some (.int .i64 d) := fun x => x.cell (by rw [cell_of_row _ _ _ _ _ _ HB.out]; rfl)
  have d1 : ∀ x : ExtW W, x.w.cell? ⟨w.heap.size + 1, 1, none⟩ = some (.int .i64 n) := fun x => x.cell (by rw [cell_of_row _ _ _ _ _ _ HB.out]; rfl)
  obtain ⟨b1, hb1⟩ : ∃ b, devB d = b := ⟨_, rfl⟩
  have c1 := Held.mk (devQ d W hb1)
  cases b1
  · go_enter Try.func33, Try.ntmps33
    go_wp2_with (rw [← hW.out])
    refine wp_region_q (by kernel_rfl) (by kernel_rfl) ?_
    repeat (first
      | go_big_quiet_skip
      | (go_big_quiet_want; first
          | (refine quiet_call c1.out rfl ?_; go_big_quiet_op; go_big_quiet_on)
          | (go_big_quiet_op; go_big_quiet_on)))
    refine wpQuiet_nil (fun x => ?_)
    go_wp2
    go_ret
    exact ⟨by simp [hasB, hb1], HL.out.trans (x.below.mono HL.out.size)⟩
  · have hd : 0 ≤ d ∧ d < 8 := by simpa [devB] using hb1
    obtain ⟨k, rfl⟩ : ∃ k : Nat, d = k := ⟨d.toNat, by omega⟩
    obtain ⟨y, hy⟩ : ∃ y, a.getD k 0 = y := ⟨_, rfl⟩
    have hk : k < 8 := by omega
    have d2 : ∀ x : ExtW W, x.w.cell? ⟨w.heap.size, k, none⟩ = some (.int .i64 y) := fun x => x.cell (by rw [cell_of_row _ _ _ _ _ _ HA.out, ← hy]; simp [ha, hk])
    obtain ⟨b2, hn⟩ : ∃ b, decide (1 ≤ n) = b := ⟨_, rfl⟩
    cases b2
    all_goals
      go_enter Try.func33, Try.ntmps33
      go_wp2_with (rw [← hW.out])
      refine wp_region_q (by kernel_rfl) (by kernel_rfl) ?_
      repeat (first
        | go_big_quiet_skip
        | (go_big_quiet_want; first
            | (refine quiet_call c1.out rfl ?_; go_big_quiet_op; go_big_quiet_on)
            | (go_big_quiet_op; go_big_quiet_on)))
      refine wpQuiet_nil (fun x => ?_)
      go_wp2
      go_ret
      exact ⟨by simp [hasB, hb1, hn, ← hy], HL.out.trans (x.below.mono HL.out.size)⟩
end Go.Proofs.Ytlmegcbiijkmaaa
