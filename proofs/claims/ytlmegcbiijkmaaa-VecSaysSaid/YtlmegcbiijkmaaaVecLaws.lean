/- awake of the laws of vec: true. No condition. -/
import Derived.Test.YtlmegcbiijkmaaaVecC
namespace Go.Proofs.Ytlmegcbiijkmaaa
open Go.RowKit Go.Bx

abbrev v8 (a b : Int) : Value := .agg #[.int .i64 a, .int .i64 b, .int .i64 0, .int .i64 0, .int .i64 0, .int .i64 0, .int .i64 0, .int .i64 0]
set_option maxHeartbeats 400000 in
theorem awake15_any (w : World) : Calls Try.prog 29 #[] w fun e w' => e = .returned (.bool true) ∧ Below w.heap.size w w' := by
  have c1 : ∀ w, Calls Try.prog 32 #[v8 1 0, v8 0 1] w fun e w' => e = .returned (.int .i64 2) ∧ Below w.heap.size w w' := fun w => cmp_any [1, 0, 0, 0, 0, 0, 0, 0] [0, 1, 0, 0, 0, 0, 0, 0] rfl rfl w
  have c2 : ∀ w, Calls Try.prog 31 #[v8 0 0, v8 1 0] w fun e w' => e = .returned (.bool true) ∧ Below w.heap.size w w' := fun w => le_any [0, 0, 0, 0, 0, 0, 0, 0] [1, 0, 0, 0, 0, 0, 0, 0] rfl rfl w
  have c3 : ∀ w, Calls Try.prog 30 #[v8 1 0, v8 0 1] w fun e w' => e = .returned (v8 1 1) ∧ Below w.heap.size w w' := fun w => merge_any [1, 0, 0, 0, 0, 0, 0, 0] [0, 1, 0, 0, 0, 0, 0, 0] rfl rfl w
  have c4 : ∀ w, Calls Try.prog 35 #[v8 1 2] w fun e w' => e = .returned (.int .i64 3) ∧ Below w.heap.size w w' := fun w => sum_any [1, 2, 0, 0, 0, 0, 0, 0] rfl w
  have e1 : EqQ Try.prog 39 (v8 1 1) (v8 1 1) true := eqV [1, 1, 0, 0, 0, 0, 0, 0] [1, 1, 0, 0, 0, 0, 0, 0] rfl rfl
  have C1 := Held.mk c1
  have C2 := Held.mk c2
  have C3 := Held.mk c3
  have C4 := Held.mk c4
  have E1 := Held.mk e1
  clear c1 c2 c3 c4 e1
  go_enter Try.func29, Try.ntmps29
  go_wp2_with (first
    | (refine wpList_eqB rfl rfl E1.out rfl rfl ?_)
    | (go_at_call 32; refine (C1.out _).mono ?_; rintro e w1 ⟨rfl, hb1⟩)
    | (go_at_call 31; refine (C2.out _).mono ?_; rintro e w2 ⟨rfl, hb2⟩)
    | (go_at_call 30; refine (C3.out _).mono ?_; rintro e w3 ⟨rfl, hb3⟩)
    | (go_at_call 35; refine (C4.out _).mono ?_; rintro e w4 ⟨rfl, hb4⟩))
  go_ret
  exact ⟨rfl, ((hb1.trans (hb2.mono hb1.size)).trans (hb3.mono (Nat.le_trans hb1.size hb2.size))).trans (hb4.mono (Nat.le_trans (Nat.le_trans hb1.size hb2.size) hb3.size))⟩
end Go.Proofs.Ytlmegcbiijkmaaa
