/- The statement OpSeen: the law's walk, by the reckoning. No condition. -/
import Derived.Test.YtbhflfdlkiihgaaOk6
namespace Go.Proofs.Ytbhflfdlkiihgaa
open Go.RowKit Go.Bx Go.Sx
set_option linter.unusedSimpArgs false
set_option linter.unusedVariables false
def cOpSeen : Ctr := ⟨7, 41, [ED, ED], [.bool]⟩
set_option maxHeartbeats 1600000 in
theorem okOpSeen : CtrOK Try.prog ofns cOpSeen := by
  refine CtrOK.of okOT6 mixed (lf := 300) (d := 5) rfl fun w vs xs ha hp => ?_
  obtain ⟨v0, v1, x0, x1, rfl, rfl, h0, h1⟩ := open2 ha
  obtain ⟨hl0, rfl, hg0⟩ := h0
  obtain ⟨a0, a1, a2, a3, a4, a5, a6, a7, a8, a9, a10, a11, a12, a13, a14, rfl⟩ := len15 hl0
  obtain ⟨-, -, -, -, -, -, -, -, -, -, -, ⟨z0c, -⟩, ⟨z0f, -⟩, ⟨z0v, -⟩, -, -⟩ := hg0
  have z0c : 0 ≤ a11 := z0c
  have z0f : 0 ≤ a12 := z0f
  have z0v : 0 ≤ a13 := z0v
  obtain ⟨hl1, rfl, hg1⟩ := h1
  obtain ⟨b0, b1, b2, b3, b4, b5, b6, b7, b8, b9, b10, b11, b12, b13, b14, rfl⟩ := len15 hl1
  obtain ⟨-, -, -, -, -, -, -, -, -, -, -, ⟨z1c, -⟩, ⟨z1f, -⟩, ⟨z1v, -⟩, -, -⟩ := hg1
  have z1c : 0 ≤ b11 := z1c
  have z1f : 0 ≤ b12 := z1f
  have z1v : 0 ≤ b13 := z1v
  cases c1 : longE [a0, a1, a2, a3, a4, a5, a6, a7, a8, a9, a10, a11, a12, a13, a14]
  · have n0 := long_not c1
    have m0 : (decZ a11).length ≤ 1000 ∧ (decZ a12).length ≤ 1000 ∧ (decZ a13).length ≤ 1000 := ⟨by omega, by omega, by omega⟩
    cases c3 : longE [b0, b1, b2, b3, b4, b5, b6, b7, b8, b9, b10, b11, b12, b13, b14]
    · have n1 := long_not c3
      have m1 : (decZ b11).length ≤ 1000 ∧ (decZ b12).length ≤ 1000 ∧ (decZ b13).length ≤ 1000 := ⟨by omega, by omega, by omega⟩
      cases c5 : goodE [a0, a1, a2, a3, a4, a5, a6, a7, a8, a9, a10, a11, a12, a13, a14]
      · refine Go.Sx.Way.of (dec := [false, false, false, true]) (fs := [.need 40 [], .call 30 40 [] 1, .not 31 (.v 30), .cond 31 false, .need 13 [[.v 0, .v 1, .v 2, .v 3, .v 4, .v 5, .v 6, .v 7, .v 8, .v 9, .v 10, .v 11, .v 12, .v 13, .v 14]], .call 32 13 [[.v 0, .v 1, .v 2, .v 3, .v 4, .v 5, .v 6, .v 7, .v 8, .v 9, .v 10, .v 11, .v 12, .v 13, .v 14]] 1, .cond 32 false, .need 13 [[.v 15, .v 16, .v 17, .v 18, .v 19, .v 20, .v 21, .v 22, .v 23, .v 24, .v 25, .v 26, .v 27, .v 28, .v 29]], .call 33 13 [[.v 15, .v 16, .v 17, .v 18, .v 19, .v 20, .v 21, .v 22, .v 23, .v 24, .v 25, .v 26, .v 27, .v 28, .v 29]] 1, .cond 33 false, .need 10 [[.v 0, .v 1, .v 2, .v 3, .v 4, .v 5, .v 6, .v 7, .v 8, .v 9, .v 10, .v 11, .v 12, .v 13, .v 14]], .call 34 10 [[.v 0, .v 1, .v 2, .v 3, .v 4, .v 5, .v 6, .v 7, .v 8, .v 9, .v 10, .v 11, .v 12, .v 13, .v 14]] 1, .not 35 (.v 34), .cond 35 true]) (refs := [.l 1]) (by kernel_rfl) fun ρ hρ hd => ?_
        simp only [D_nil, D_add, D_sub, D_mul, D_and, D_or, D_xor, D_shl, D_shr, D_andNot, D_quo, D_rem, D_add_i64, D_sub_i64, D_mul_i64, D_add_u32, D_sub_u32, D_mul_u32, D_add_u8, D_sub_u8, D_mul_u8, D_eql, D_neq, D_lss, D_leq, D_gtr, D_geq, D_not, D_conv, D_eqs, D_call, D_cond, D_need, D_idx, D_sel, D_upd, D_shv, D_beq, D_len, D_byte, D_cut, D_cat, D_must, List.map_cons, List.map_nil, Ref.den] at hd
        obtain ⟨f30, f31, f32, f33, f34, f35, -⟩ := hd
        have q0 : ρ 0 = a0 := hρ 0 (by decide)
        have q1 : ρ 1 = a1 := hρ 1 (by decide)
        have q2 : ρ 2 = a2 := hρ 2 (by decide)
        have q3 : ρ 3 = a3 := hρ 3 (by decide)
        have q4 : ρ 4 = a4 := hρ 4 (by decide)
        have q5 : ρ 5 = a5 := hρ 5 (by decide)
        have q6 : ρ 6 = a6 := hρ 6 (by decide)
        have q7 : ρ 7 = a7 := hρ 7 (by decide)
        have q8 : ρ 8 = a8 := hρ 8 (by decide)
        have q9 : ρ 9 = a9 := hρ 9 (by decide)
        have q10 : ρ 10 = a10 := hρ 10 (by decide)
        have q11 : ρ 11 = a11 := hρ 11 (by decide)
        have q12 : ρ 12 = a12 := hρ 12 (by decide)
        have q13 : ρ 13 = a13 := hρ 13 (by decide)
        have q14 : ρ 14 = a14 := hρ 14 (by decide)
        have q15 : ρ 15 = b0 := hρ 15 (by decide)
        have q16 : ρ 16 = b1 := hρ 16 (by decide)
        have q17 : ρ 17 = b2 := hρ 17 (by decide)
        have q18 : ρ 18 = b3 := hρ 18 (by decide)
        have q19 : ρ 19 = b4 := hρ 19 (by decide)
        have q20 : ρ 20 = b5 := hρ 20 (by decide)
        have q21 : ρ 21 = b6 := hρ 21 (by decide)
        have q22 : ρ 22 = b7 := hρ 22 (by decide)
        have q23 : ρ 23 = b8 := hρ 23 (by decide)
        have q24 : ρ 24 = b9 := hρ 24 (by decide)
        have q25 : ρ 25 = b10 := hρ 25 (by decide)
        have q26 : ρ 26 = b11 := hρ 26 (by decide)
        have q27 : ρ 27 = b12 := hρ 27 (by decide)
        have q28 : ρ 28 = b13 := hρ 28 (by decide)
        have q29 : ρ 29 = b14 := hρ 29 (by decide)
        have q30 : ρ 30 = (b2i (true)) := by
            have t := f30 0 (by decide)
            exact t
        have q31 : ρ 31 = (b2i (!true)) := b2i_not f31 q30
        have q32 : ρ 32 = (b2i (longE [a0, a1, a2, a3, a4, a5, a6, a7, a8, a9, a10, a11, a12, a13, a14])) := by
            have t := f32 0 (by decide)
            simp only [q0, q1, q2, q3, q4, q5, q6, q7, q8, q9, q10, q11, q12, q13, q14] at t
            exact t
        have q33 : ρ 33 = (b2i (longE [b0, b1, b2, b3, b4, b5, b6, b7, b8, b9, b10, b11, b12, b13, b14])) := by
            have t := f33 0 (by decide)
            simp only [q15, q16, q17, q18, q19, q20, q21, q22, q23, q24, q25, q26, q27, q28, q29] at t
            exact t
        have q34 : ρ 34 = (b2i (goodE [a0, a1, a2, a3, a4, a5, a6, a7, a8, a9, a10, a11, a12, a13, a14])) := by
            have t := f34 0 (by decide)
            simp only [q0, q1, q2, q3, q4, q5, q6, q7, q8, q9, q10, q11, q12, q13, q14] at t
            exact t
        have q35 : ρ 35 = (b2i (!(goodE [a0, a1, a2, a3, a4, a5, a6, a7, a8, a9, a10, a11, a12, a13, a14]))) := b2i_not f35 q34
        refine ⟨?_, ?_⟩
        · simp only [G_nil, G_bin, G_cmp, G_not, G_conv, G_eqs, G_call, G_cond, G_need, G_idx, G_sel, G_upd, G_shv, G_beq, G_prim, G_byte, G_cut, G_cat, List.map_cons, List.map_nil, Ref.den]
          refine ⟨?_, ?_, ?_, ?_, ?_, ?_, ?_, ?_, trivial⟩
          · exact trivial
          · exact b2i_cond q31 (by simp only [Bool.not_true, decide_true, decide_false, Bool.and_true, Bool.true_and, Bool.and_false, Bool.false_and, Bool.or_true, Bool.true_or, Bool.or_false, Bool.false_or, Bool.not_true, Bool.not_false, if_true, if_false, Bool.false_eq_true])
          · exact trivial
          · exact b2i_cond q32 (by simp only [c1, decide_true, decide_false, Bool.and_true, Bool.true_and, Bool.and_false, Bool.false_and, Bool.or_true, Bool.true_or, Bool.or_false, Bool.false_or, Bool.not_true, Bool.not_false, if_true, if_false, Bool.false_eq_true])
          · exact trivial
          · exact b2i_cond q33 (by simp only [c3, decide_true, decide_false, Bool.and_true, Bool.true_and, Bool.and_false, Bool.false_and, Bool.or_true, Bool.true_or, Bool.or_false, Bool.false_or, Bool.not_true, Bool.not_false, if_true, if_false, Bool.false_eq_true])
          · exact by show (decZ (ρ 11)).length ≤ 1000 ∧ (decZ (ρ 12)).length ≤ 1000 ∧ (decZ (ρ 13)).length ≤ 1000; rw [q11, q12, q13]; exact m0
          · exact b2i_cond q35 (by simp only [c5, decide_true, decide_false, Bool.and_true, Bool.true_and, Bool.and_false, Bool.false_and, Bool.or_true, Bool.true_or, Bool.or_false, Bool.false_or, Bool.not_true, Bool.not_false, if_true, if_false, Bool.false_eq_true])
        · rfl
      · have kZ : decide ([a0, a1] = [0, 0]) = false := by have e := good_is c5; simp only [decide_eq_false_iff_not, List.cons.injEq, and_true]; omega
        cases c7 : goodE [b0, b1, b2, b3, b4, b5, b6, b7, b8, b9, b10, b11, b12, b13, b14]
        · refine Go.Sx.Way.of (dec := [false, false, false, false, true]) (fs := [.need 40 [], .call 30 40 [] 1, .not 31 (.v 30), .cond 31 false, .need 13 [[.v 0, .v 1, .v 2, .v 3, .v 4, .v 5, .v 6, .v 7, .v 8, .v 9, .v 10, .v 11, .v 12, .v 13, .v 14]], .call 32 13 [[.v 0, .v 1, .v 2, .v 3, .v 4, .v 5, .v 6, .v 7, .v 8, .v 9, .v 10, .v 11, .v 12, .v 13, .v 14]] 1, .cond 32 false, .need 13 [[.v 15, .v 16, .v 17, .v 18, .v 19, .v 20, .v 21, .v 22, .v 23, .v 24, .v 25, .v 26, .v 27, .v 28, .v 29]], .call 33 13 [[.v 15, .v 16, .v 17, .v 18, .v 19, .v 20, .v 21, .v 22, .v 23, .v 24, .v 25, .v 26, .v 27, .v 28, .v 29]] 1, .cond 33 false, .need 10 [[.v 0, .v 1, .v 2, .v 3, .v 4, .v 5, .v 6, .v 7, .v 8, .v 9, .v 10, .v 11, .v 12, .v 13, .v 14]], .call 34 10 [[.v 0, .v 1, .v 2, .v 3, .v 4, .v 5, .v 6, .v 7, .v 8, .v 9, .v 10, .v 11, .v 12, .v 13, .v 14]] 1, .not 35 (.v 34), .cond 35 false, .need 10 [[.v 15, .v 16, .v 17, .v 18, .v 19, .v 20, .v 21, .v 22, .v 23, .v 24, .v 25, .v 26, .v 27, .v 28, .v 29]], .call 36 10 [[.v 15, .v 16, .v 17, .v 18, .v 19, .v 20, .v 21, .v 22, .v 23, .v 24, .v 25, .v 26, .v 27, .v 28, .v 29]] 1, .not 37 (.v 36), .cond 37 true]) (refs := [.l 1]) (by kernel_rfl) fun ρ hρ hd => ?_
          simp only [D_nil, D_add, D_sub, D_mul, D_and, D_or, D_xor, D_shl, D_shr, D_andNot, D_quo, D_rem, D_add_i64, D_sub_i64, D_mul_i64, D_add_u32, D_sub_u32, D_mul_u32, D_add_u8, D_sub_u8, D_mul_u8, D_eql, D_neq, D_lss, D_leq, D_gtr, D_geq, D_not, D_conv, D_eqs, D_call, D_cond, D_need, D_idx, D_sel, D_upd, D_shv, D_beq, D_len, D_byte, D_cut, D_cat, D_must, List.map_cons, List.map_nil, Ref.den] at hd
          obtain ⟨f30, f31, f32, f33, f34, f35, f36, f37, -⟩ := hd
          have q0 : ρ 0 = a0 := hρ 0 (by decide)
          have q1 : ρ 1 = a1 := hρ 1 (by decide)
          have q2 : ρ 2 = a2 := hρ 2 (by decide)
          have q3 : ρ 3 = a3 := hρ 3 (by decide)
          have q4 : ρ 4 = a4 := hρ 4 (by decide)
          have q5 : ρ 5 = a5 := hρ 5 (by decide)
          have q6 : ρ 6 = a6 := hρ 6 (by decide)
          have q7 : ρ 7 = a7 := hρ 7 (by decide)
          have q8 : ρ 8 = a8 := hρ 8 (by decide)
          have q9 : ρ 9 = a9 := hρ 9 (by decide)
          have q10 : ρ 10 = a10 := hρ 10 (by decide)
          have q11 : ρ 11 = a11 := hρ 11 (by decide)
          have q12 : ρ 12 = a12 := hρ 12 (by decide)
          have q13 : ρ 13 = a13 := hρ 13 (by decide)
          have q14 : ρ 14 = a14 := hρ 14 (by decide)
          have q15 : ρ 15 = b0 := hρ 15 (by decide)
          have q16 : ρ 16 = b1 := hρ 16 (by decide)
          have q17 : ρ 17 = b2 := hρ 17 (by decide)
          have q18 : ρ 18 = b3 := hρ 18 (by decide)
          have q19 : ρ 19 = b4 := hρ 19 (by decide)
          have q20 : ρ 20 = b5 := hρ 20 (by decide)
          have q21 : ρ 21 = b6 := hρ 21 (by decide)
          have q22 : ρ 22 = b7 := hρ 22 (by decide)
          have q23 : ρ 23 = b8 := hρ 23 (by decide)
          have q24 : ρ 24 = b9 := hρ 24 (by decide)
          have q25 : ρ 25 = b10 := hρ 25 (by decide)
          have q26 : ρ 26 = b11 := hρ 26 (by decide)
          have q27 : ρ 27 = b12 := hρ 27 (by decide)
          have q28 : ρ 28 = b13 := hρ 28 (by decide)
          have q29 : ρ 29 = b14 := hρ 29 (by decide)
          have q30 : ρ 30 = (b2i (true)) := by
              have t := f30 0 (by decide)
              exact t
          have q31 : ρ 31 = (b2i (!true)) := b2i_not f31 q30
          have q32 : ρ 32 = (b2i (longE [a0, a1, a2, a3, a4, a5, a6, a7, a8, a9, a10, a11, a12, a13, a14])) := by
              have t := f32 0 (by decide)
              simp only [q0, q1, q2, q3, q4, q5, q6, q7, q8, q9, q10, q11, q12, q13, q14] at t
              exact t
          have q33 : ρ 33 = (b2i (longE [b0, b1, b2, b3, b4, b5, b6, b7, b8, b9, b10, b11, b12, b13, b14])) := by
              have t := f33 0 (by decide)
              simp only [q15, q16, q17, q18, q19, q20, q21, q22, q23, q24, q25, q26, q27, q28, q29] at t
              exact t
          have q34 : ρ 34 = (b2i (goodE [a0, a1, a2, a3, a4, a5, a6, a7, a8, a9, a10, a11, a12, a13, a14])) := by
              have t := f34 0 (by decide)
              simp only [q0, q1, q2, q3, q4, q5, q6, q7, q8, q9, q10, q11, q12, q13, q14] at t
              exact t
          have q35 : ρ 35 = (b2i (!(goodE [a0, a1, a2, a3, a4, a5, a6, a7, a8, a9, a10, a11, a12, a13, a14]))) := b2i_not f35 q34
          have q36 : ρ 36 = (b2i (goodE [b0, b1, b2, b3, b4, b5, b6, b7, b8, b9, b10, b11, b12, b13, b14])) := by
              have t := f36 0 (by decide)
              simp only [q15, q16, q17, q18, q19, q20, q21, q22, q23, q24, q25, q26, q27, q28, q29] at t
              exact t
          have q37 : ρ 37 = (b2i (!(goodE [b0, b1, b2, b3, b4, b5, b6, b7, b8, b9, b10, b11, b12, b13, b14]))) := b2i_not f37 q36
          refine ⟨?_, ?_⟩
          · simp only [G_nil, G_bin, G_cmp, G_not, G_conv, G_eqs, G_call, G_cond, G_need, G_idx, G_sel, G_upd, G_shv, G_beq, G_prim, G_byte, G_cut, G_cat, List.map_cons, List.map_nil, Ref.den]
            refine ⟨?_, ?_, ?_, ?_, ?_, ?_, ?_, ?_, ?_, ?_, trivial⟩
            · exact trivial
            · exact b2i_cond q31 (by simp only [Bool.not_true, decide_true, decide_false, Bool.and_true, Bool.true_and, Bool.and_false, Bool.false_and, Bool.or_true, Bool.true_or, Bool.or_false, Bool.false_or, Bool.not_true, Bool.not_false, if_true, if_false, Bool.false_eq_true])
            · exact trivial
            · exact b2i_cond q32 (by simp only [c1, decide_true, decide_false, Bool.and_true, Bool.true_and, Bool.and_false, Bool.false_and, Bool.or_true, Bool.true_or, Bool.or_false, Bool.false_or, Bool.not_true, Bool.not_false, if_true, if_false, Bool.false_eq_true])
            · exact trivial
            · exact b2i_cond q33 (by simp only [c3, decide_true, decide_false, Bool.and_true, Bool.true_and, Bool.and_false, Bool.false_and, Bool.or_true, Bool.true_or, Bool.or_false, Bool.false_or, Bool.not_true, Bool.not_false, if_true, if_false, Bool.false_eq_true])
            · exact by show (decZ (ρ 11)).length ≤ 1000 ∧ (decZ (ρ 12)).length ≤ 1000 ∧ (decZ (ρ 13)).length ≤ 1000; rw [q11, q12, q13]; exact m0
            · exact b2i_cond q35 (by simp only [c5, decide_true, decide_false, Bool.and_true, Bool.true_and, Bool.and_false, Bool.false_and, Bool.or_true, Bool.true_or, Bool.or_false, Bool.false_or, Bool.not_true, Bool.not_false, if_true, if_false, Bool.false_eq_true])
            · exact by show (decZ (ρ 26)).length ≤ 1000 ∧ (decZ (ρ 27)).length ≤ 1000 ∧ (decZ (ρ 28)).length ≤ 1000; rw [q26, q27, q28]; exact m1
            · exact b2i_cond q37 (by simp only [c7, decide_true, decide_false, Bool.and_true, Bool.true_and, Bool.and_false, Bool.false_and, Bool.or_true, Bool.true_or, Bool.or_false, Bool.false_or, Bool.not_true, Bool.not_false, if_true, if_false, Bool.false_eq_true])
          · rfl
        · cases c8 : decide (b10 ≠ 1)
          · cases c9 : hasB [a2, a3, a4, a5, a6, a7, a8, a9] b0 b1
            · have kO : overE [a0, a1, a2, a3, a4, a5, a6, a7, a8, a9, a10, a11, a12, a13, a14] [b0, b1, b2, b3, b4, b5, b6, b7, b8, b9, b10, b11, b12, b13, b14] = false := by
                have u0 := c8
                have u1 := c9
                simp only [decide_eq_true_eq, decide_eq_false_iff_not, ne_eq, Decidable.not_not] at u0 u1
                simp [overE, u0, u1]
              refine Go.Sx.Way.of (dec := [false, false, false, false, false, false, true]) (fs := [.need 40 [], .call 30 40 [] 1, .not 31 (.v 30), .cond 31 false, .need 13 [[.v 0, .v 1, .v 2, .v 3, .v 4, .v 5, .v 6, .v 7, .v 8, .v 9, .v 10, .v 11, .v 12, .v 13, .v 14]], .call 32 13 [[.v 0, .v 1, .v 2, .v 3, .v 4, .v 5, .v 6, .v 7, .v 8, .v 9, .v 10, .v 11, .v 12, .v 13, .v 14]] 1, .cond 32 false, .need 13 [[.v 15, .v 16, .v 17, .v 18, .v 19, .v 20, .v 21, .v 22, .v 23, .v 24, .v 25, .v 26, .v 27, .v 28, .v 29]], .call 33 13 [[.v 15, .v 16, .v 17, .v 18, .v 19, .v 20, .v 21, .v 22, .v 23, .v 24, .v 25, .v 26, .v 27, .v 28, .v 29]] 1, .cond 33 false, .need 10 [[.v 0, .v 1, .v 2, .v 3, .v 4, .v 5, .v 6, .v 7, .v 8, .v 9, .v 10, .v 11, .v 12, .v 13, .v 14]], .call 34 10 [[.v 0, .v 1, .v 2, .v 3, .v 4, .v 5, .v 6, .v 7, .v 8, .v 9, .v 10, .v 11, .v 12, .v 13, .v 14]] 1, .not 35 (.v 34), .cond 35 false, .need 10 [[.v 15, .v 16, .v 17, .v 18, .v 19, .v 20, .v 21, .v 22, .v 23, .v 24, .v 25, .v 26, .v 27, .v 28, .v 29]], .call 36 10 [[.v 15, .v 16, .v 17, .v 18, .v 19, .v 20, .v 21, .v 22, .v 23, .v 24, .v 25, .v 26, .v 27, .v 28, .v 29]] 1, .not 37 (.v 36), .cond 37 false, .cmp 38 .neq (.v 25) (.l 1), .cond 38 false, .need 6 [[.v 2, .v 3, .v 4, .v 5, .v 6, .v 7, .v 8, .v 9], [.v 15, .v 16]], .call 39 6 [[.v 2, .v 3, .v 4, .v 5, .v 6, .v 7, .v 8, .v 9], [.v 15, .v 16]] 1, .not 40 (.v 39), .cond 40 true, .need 11 [[.v 0, .v 1, .v 2, .v 3, .v 4, .v 5, .v 6, .v 7, .v 8, .v 9, .v 10, .v 11, .v 12, .v 13, .v 14], [.v 15, .v 16, .v 17, .v 18, .v 19, .v 20, .v 21, .v 22, .v 23, .v 24, .v 25, .v 26, .v 27, .v 28, .v 29]], .call 41 11 [[.v 0, .v 1, .v 2, .v 3, .v 4, .v 5, .v 6, .v 7, .v 8, .v 9, .v 10, .v 11, .v 12, .v 13, .v 14], [.v 15, .v 16, .v 17, .v 18, .v 19, .v 20, .v 21, .v 22, .v 23, .v 24, .v 25, .v 26, .v 27, .v 28, .v 29]] 1, .not 42 (.v 41)]) (refs := [.v 42]) (by kernel_rfl) fun ρ hρ hd => ?_
              simp only [D_nil, D_add, D_sub, D_mul, D_and, D_or, D_xor, D_shl, D_shr, D_andNot, D_quo, D_rem, D_add_i64, D_sub_i64, D_mul_i64, D_add_u32, D_sub_u32, D_mul_u32, D_add_u8, D_sub_u8, D_mul_u8, D_eql, D_neq, D_lss, D_leq, D_gtr, D_geq, D_not, D_conv, D_eqs, D_call, D_cond, D_need, D_idx, D_sel, D_upd, D_shv, D_beq, D_len, D_byte, D_cut, D_cat, D_must, List.map_cons, List.map_nil, Ref.den] at hd
              obtain ⟨f30, f31, f32, f33, f34, f35, f36, f37, f38, f39, f40, f41, f42, -⟩ := hd
              have q0 : ρ 0 = a0 := hρ 0 (by decide)
              have q1 : ρ 1 = a1 := hρ 1 (by decide)
              have q2 : ρ 2 = a2 := hρ 2 (by decide)
              have q3 : ρ 3 = a3 := hρ 3 (by decide)
              have q4 : ρ 4 = a4 := hρ 4 (by decide)
              have q5 : ρ 5 = a5 := hρ 5 (by decide)
              have q6 : ρ 6 = a6 := hρ 6 (by decide)
              have q7 : ρ 7 = a7 := hρ 7 (by decide)
              have q8 : ρ 8 = a8 := hρ 8 (by decide)
              have q9 : ρ 9 = a9 := hρ 9 (by decide)
              have q10 : ρ 10 = a10 := hρ 10 (by decide)
              have q11 : ρ 11 = a11 := hρ 11 (by decide)
              have q12 : ρ 12 = a12 := hρ 12 (by decide)
              have q13 : ρ 13 = a13 := hρ 13 (by decide)
              have q14 : ρ 14 = a14 := hρ 14 (by decide)
              have q15 : ρ 15 = b0 := hρ 15 (by decide)
              have q16 : ρ 16 = b1 := hρ 16 (by decide)
              have q17 : ρ 17 = b2 := hρ 17 (by decide)
              have q18 : ρ 18 = b3 := hρ 18 (by decide)
              have q19 : ρ 19 = b4 := hρ 19 (by decide)
              have q20 : ρ 20 = b5 := hρ 20 (by decide)
              have q21 : ρ 21 = b6 := hρ 21 (by decide)
              have q22 : ρ 22 = b7 := hρ 22 (by decide)
              have q23 : ρ 23 = b8 := hρ 23 (by decide)
              have q24 : ρ 24 = b9 := hρ 24 (by decide)
              have q25 : ρ 25 = b10 := hρ 25 (by decide)
              have q26 : ρ 26 = b11 := hρ 26 (by decide)
              have q27 : ρ 27 = b12 := hρ 27 (by decide)
              have q28 : ρ 28 = b13 := hρ 28 (by decide)
              have q29 : ρ 29 = b14 := hρ 29 (by decide)
              have q30 : ρ 30 = (b2i (true)) := by
                  have t := f30 0 (by decide)
                  exact t
              have q31 : ρ 31 = (b2i (!true)) := b2i_not f31 q30
              have q32 : ρ 32 = (b2i (longE [a0, a1, a2, a3, a4, a5, a6, a7, a8, a9, a10, a11, a12, a13, a14])) := by
                  have t := f32 0 (by decide)
                  simp only [q0, q1, q2, q3, q4, q5, q6, q7, q8, q9, q10, q11, q12, q13, q14] at t
                  exact t
              have q33 : ρ 33 = (b2i (longE [b0, b1, b2, b3, b4, b5, b6, b7, b8, b9, b10, b11, b12, b13, b14])) := by
                  have t := f33 0 (by decide)
                  simp only [q15, q16, q17, q18, q19, q20, q21, q22, q23, q24, q25, q26, q27, q28, q29] at t
                  exact t
              have q34 : ρ 34 = (b2i (goodE [a0, a1, a2, a3, a4, a5, a6, a7, a8, a9, a10, a11, a12, a13, a14])) := by
                  have t := f34 0 (by decide)
                  simp only [q0, q1, q2, q3, q4, q5, q6, q7, q8, q9, q10, q11, q12, q13, q14] at t
                  exact t
              have q35 : ρ 35 = (b2i (!(goodE [a0, a1, a2, a3, a4, a5, a6, a7, a8, a9, a10, a11, a12, a13, a14]))) := b2i_not f35 q34
              have q36 : ρ 36 = (b2i (goodE [b0, b1, b2, b3, b4, b5, b6, b7, b8, b9, b10, b11, b12, b13, b14])) := by
                  have t := f36 0 (by decide)
                  simp only [q15, q16, q17, q18, q19, q20, q21, q22, q23, q24, q25, q26, q27, q28, q29] at t
                  exact t
              have q37 : ρ 37 = (b2i (!(goodE [b0, b1, b2, b3, b4, b5, b6, b7, b8, b9, b10, b11, b12, b13, b14]))) := b2i_not f37 q36
              have q38 : ρ 38 = (b2i (decide (b10 ≠ 1))) := b2i_dec f38 (by simp only [q25])
              have q39 : ρ 39 = (b2i (hasB [a2, a3, a4, a5, a6, a7, a8, a9] b0 b1)) := by
                  have t := f39 0 (by decide)
                  simp only [q2, q3, q4, q5, q6, q7, q8, q9, q15, q16] at t
                  exact t
              have q40 : ρ 40 = (b2i (!(hasB [a2, a3, a4, a5, a6, a7, a8, a9] b0 b1))) := b2i_not f40 q39
              have q41 : ρ 41 = (b2i (overE [a0, a1, a2, a3, a4, a5, a6, a7, a8, a9, a10, a11, a12, a13, a14] [b0, b1, b2, b3, b4, b5, b6, b7, b8, b9, b10, b11, b12, b13, b14])) := by
                  have t := f41 0 (by decide)
                  simp only [q0, q1, q2, q3, q4, q5, q6, q7, q8, q9, q10, q11, q12, q13, q14, q15, q16, q17, q18, q19, q20, q21, q22, q23, q24, q25, q26, q27, q28, q29] at t
                  exact t
              have q42 : ρ 42 = (b2i (!(overE [a0, a1, a2, a3, a4, a5, a6, a7, a8, a9, a10, a11, a12, a13, a14] [b0, b1, b2, b3, b4, b5, b6, b7, b8, b9, b10, b11, b12, b13, b14]))) := b2i_not f42 q41
              refine ⟨?_, ?_⟩
              · simp only [G_nil, G_bin, G_cmp, G_not, G_conv, G_eqs, G_call, G_cond, G_need, G_idx, G_sel, G_upd, G_shv, G_beq, G_prim, G_byte, G_cut, G_cat, List.map_cons, List.map_nil, Ref.den]
                refine ⟨?_, ?_, ?_, ?_, ?_, ?_, ?_, ?_, ?_, ?_, ?_, ?_, ?_, ?_, trivial⟩
                · exact trivial
                · exact b2i_cond q31 (by simp only [Bool.not_true, decide_true, decide_false, Bool.and_true, Bool.true_and, Bool.and_false, Bool.false_and, Bool.or_true, Bool.true_or, Bool.or_false, Bool.false_or, Bool.not_true, Bool.not_false, if_true, if_false, Bool.false_eq_true])
                · exact trivial
                · exact b2i_cond q32 (by simp only [c1, decide_true, decide_false, Bool.and_true, Bool.true_and, Bool.and_false, Bool.false_and, Bool.or_true, Bool.true_or, Bool.or_false, Bool.false_or, Bool.not_true, Bool.not_false, if_true, if_false, Bool.false_eq_true])
                · exact trivial
                · exact b2i_cond q33 (by simp only [c3, decide_true, decide_false, Bool.and_true, Bool.true_and, Bool.and_false, Bool.false_and, Bool.or_true, Bool.true_or, Bool.or_false, Bool.false_or, Bool.not_true, Bool.not_false, if_true, if_false, Bool.false_eq_true])
                · exact by show (decZ (ρ 11)).length ≤ 1000 ∧ (decZ (ρ 12)).length ≤ 1000 ∧ (decZ (ρ 13)).length ≤ 1000; rw [q11, q12, q13]; exact m0
                · exact b2i_cond q35 (by simp only [c5, decide_true, decide_false, Bool.and_true, Bool.true_and, Bool.and_false, Bool.false_and, Bool.or_true, Bool.true_or, Bool.or_false, Bool.false_or, Bool.not_true, Bool.not_false, if_true, if_false, Bool.false_eq_true])
                · exact by show (decZ (ρ 26)).length ≤ 1000 ∧ (decZ (ρ 27)).length ≤ 1000 ∧ (decZ (ρ 28)).length ≤ 1000; rw [q26, q27, q28]; exact m1
                · exact b2i_cond q37 (by simp only [c7, decide_true, decide_false, Bool.and_true, Bool.true_and, Bool.and_false, Bool.false_and, Bool.or_true, Bool.true_or, Bool.or_false, Bool.false_or, Bool.not_true, Bool.not_false, if_true, if_false, Bool.false_eq_true])
                · exact b2i_cond q38 (by simp only [c8, decide_true, decide_false, Bool.and_true, Bool.true_and, Bool.and_false, Bool.false_and, Bool.or_true, Bool.true_or, Bool.or_false, Bool.false_or, Bool.not_true, Bool.not_false, if_true, if_false, Bool.false_eq_true])
                · exact trivial
                · exact b2i_cond q40 (by simp only [c9, decide_true, decide_false, Bool.and_true, Bool.true_and, Bool.and_false, Bool.false_and, Bool.or_true, Bool.true_or, Bool.or_false, Bool.false_or, Bool.not_true, Bool.not_false, if_true, if_false, Bool.false_eq_true])
                · exact trivial
              · show [ρ 42] = [1]
                rw [q42]
                exact congrArg (fun b => [b2i b]) (show (!(overE [a0, a1, a2, a3, a4, a5, a6, a7, a8, a9, a10, a11, a12, a13, a14] [b0, b1, b2, b3, b4, b5, b6, b7, b8, b9, b10, b11, b12, b13, b14])) = true by simp only [kO] <;> rfl)
            · cases c10 : decide (a11 = b11)
              · have kO : overE [a0, a1, a2, a3, a4, a5, a6, a7, a8, a9, a10, a11, a12, a13, a14] [b0, b1, b2, b3, b4, b5, b6, b7, b8, b9, b10, b11, b12, b13, b14] = false := by
                  have u0 := c8
                  have u1 := c9
                  have u2 := c10
                  simp only [decide_eq_true_eq, decide_eq_false_iff_not, ne_eq, Decidable.not_not] at u0 u1 u2
                  simp [overE, u0, u1, u2]
                refine Go.Sx.Way.of (dec := [false, false, false, false, false, false, false, false, true]) (fs := [.need 40 [], .call 30 40 [] 1, .not 31 (.v 30), .cond 31 false, .need 13 [[.v 0, .v 1, .v 2, .v 3, .v 4, .v 5, .v 6, .v 7, .v 8, .v 9, .v 10, .v 11, .v 12, .v 13, .v 14]], .call 32 13 [[.v 0, .v 1, .v 2, .v 3, .v 4, .v 5, .v 6, .v 7, .v 8, .v 9, .v 10, .v 11, .v 12, .v 13, .v 14]] 1, .cond 32 false, .need 13 [[.v 15, .v 16, .v 17, .v 18, .v 19, .v 20, .v 21, .v 22, .v 23, .v 24, .v 25, .v 26, .v 27, .v 28, .v 29]], .call 33 13 [[.v 15, .v 16, .v 17, .v 18, .v 19, .v 20, .v 21, .v 22, .v 23, .v 24, .v 25, .v 26, .v 27, .v 28, .v 29]] 1, .cond 33 false, .need 10 [[.v 0, .v 1, .v 2, .v 3, .v 4, .v 5, .v 6, .v 7, .v 8, .v 9, .v 10, .v 11, .v 12, .v 13, .v 14]], .call 34 10 [[.v 0, .v 1, .v 2, .v 3, .v 4, .v 5, .v 6, .v 7, .v 8, .v 9, .v 10, .v 11, .v 12, .v 13, .v 14]] 1, .not 35 (.v 34), .cond 35 false, .need 10 [[.v 15, .v 16, .v 17, .v 18, .v 19, .v 20, .v 21, .v 22, .v 23, .v 24, .v 25, .v 26, .v 27, .v 28, .v 29]], .call 36 10 [[.v 15, .v 16, .v 17, .v 18, .v 19, .v 20, .v 21, .v 22, .v 23, .v 24, .v 25, .v 26, .v 27, .v 28, .v 29]] 1, .not 37 (.v 36), .cond 37 false, .cmp 38 .neq (.v 25) (.l 1), .cond 38 false, .need 6 [[.v 2, .v 3, .v 4, .v 5, .v 6, .v 7, .v 8, .v 9], [.v 15, .v 16]], .call 39 6 [[.v 2, .v 3, .v 4, .v 5, .v 6, .v 7, .v 8, .v 9], [.v 15, .v 16]] 1, .not 40 (.v 39), .cond 40 false, .need 11 [[.v 0, .v 1, .v 2, .v 3, .v 4, .v 5, .v 6, .v 7, .v 8, .v 9, .v 10, .v 11, .v 12, .v 13, .v 14], [.v 15, .v 16, .v 17, .v 18, .v 19, .v 20, .v 21, .v 22, .v 23, .v 24, .v 25, .v 26, .v 27, .v 28, .v 29]], .call 41 11 [[.v 0, .v 1, .v 2, .v 3, .v 4, .v 5, .v 6, .v 7, .v 8, .v 9, .v 10, .v 11, .v 12, .v 13, .v 14], [.v 15, .v 16, .v 17, .v 18, .v 19, .v 20, .v 21, .v 22, .v 23, .v 24, .v 25, .v 26, .v 27, .v 28, .v 29]] 1, .cmp 42 .eql (.v 11) (.v 26), .cond 42 false, .beq 43 false (.v 41) (.l 0), .cond 43 true, .eqs 44 [(.v 0, .l 0), (.v 1, .l 0)], .not 45 (.v 44)]) (refs := [.v 45]) (by kernel_rfl) fun ρ hρ hd => ?_
                simp only [D_nil, D_add, D_sub, D_mul, D_and, D_or, D_xor, D_shl, D_shr, D_andNot, D_quo, D_rem, D_add_i64, D_sub_i64, D_mul_i64, D_add_u32, D_sub_u32, D_mul_u32, D_add_u8, D_sub_u8, D_mul_u8, D_eql, D_neq, D_lss, D_leq, D_gtr, D_geq, D_not, D_conv, D_eqs, D_call, D_cond, D_need, D_idx, D_sel, D_upd, D_shv, D_beq, D_len, D_byte, D_cut, D_cat, D_must, List.map_cons, List.map_nil, Ref.den] at hd
                obtain ⟨f30, f31, f32, f33, f34, f35, f36, f37, f38, f39, f40, f41, f42, f43, f44, f45, -⟩ := hd
                have q0 : ρ 0 = a0 := hρ 0 (by decide)
                have q1 : ρ 1 = a1 := hρ 1 (by decide)
                have q2 : ρ 2 = a2 := hρ 2 (by decide)
                have q3 : ρ 3 = a3 := hρ 3 (by decide)
                have q4 : ρ 4 = a4 := hρ 4 (by decide)
                have q5 : ρ 5 = a5 := hρ 5 (by decide)
                have q6 : ρ 6 = a6 := hρ 6 (by decide)
                have q7 : ρ 7 = a7 := hρ 7 (by decide)
                have q8 : ρ 8 = a8 := hρ 8 (by decide)
                have q9 : ρ 9 = a9 := hρ 9 (by decide)
                have q10 : ρ 10 = a10 := hρ 10 (by decide)
                have q11 : ρ 11 = a11 := hρ 11 (by decide)
                have q12 : ρ 12 = a12 := hρ 12 (by decide)
                have q13 : ρ 13 = a13 := hρ 13 (by decide)
                have q14 : ρ 14 = a14 := hρ 14 (by decide)
                have q15 : ρ 15 = b0 := hρ 15 (by decide)
                have q16 : ρ 16 = b1 := hρ 16 (by decide)
                have q17 : ρ 17 = b2 := hρ 17 (by decide)
                have q18 : ρ 18 = b3 := hρ 18 (by decide)
                have q19 : ρ 19 = b4 := hρ 19 (by decide)
                have q20 : ρ 20 = b5 := hρ 20 (by decide)
                have q21 : ρ 21 = b6 := hρ 21 (by decide)
                have q22 : ρ 22 = b7 := hρ 22 (by decide)
                have q23 : ρ 23 = b8 := hρ 23 (by decide)
                have q24 : ρ 24 = b9 := hρ 24 (by decide)
                have q25 : ρ 25 = b10 := hρ 25 (by decide)
                have q26 : ρ 26 = b11 := hρ 26 (by decide)
                have q27 : ρ 27 = b12 := hρ 27 (by decide)
                have q28 : ρ 28 = b13 := hρ 28 (by decide)
                have q29 : ρ 29 = b14 := hρ 29 (by decide)
                have q30 : ρ 30 = (b2i (true)) := by
                    have t := f30 0 (by decide)
                    exact t
                have q31 : ρ 31 = (b2i (!true)) := b2i_not f31 q30
                have q32 : ρ 32 = (b2i (longE [a0, a1, a2, a3, a4, a5, a6, a7, a8, a9, a10, a11, a12, a13, a14])) := by
                    have t := f32 0 (by decide)
                    simp only [q0, q1, q2, q3, q4, q5, q6, q7, q8, q9, q10, q11, q12, q13, q14] at t
                    exact t
                have q33 : ρ 33 = (b2i (longE [b0, b1, b2, b3, b4, b5, b6, b7, b8, b9, b10, b11, b12, b13, b14])) := by
                    have t := f33 0 (by decide)
                    simp only [q15, q16, q17, q18, q19, q20, q21, q22, q23, q24, q25, q26, q27, q28, q29] at t
                    exact t
                have q34 : ρ 34 = (b2i (goodE [a0, a1, a2, a3, a4, a5, a6, a7, a8, a9, a10, a11, a12, a13, a14])) := by
                    have t := f34 0 (by decide)
                    simp only [q0, q1, q2, q3, q4, q5, q6, q7, q8, q9, q10, q11, q12, q13, q14] at t
                    exact t
                have q35 : ρ 35 = (b2i (!(goodE [a0, a1, a2, a3, a4, a5, a6, a7, a8, a9, a10, a11, a12, a13, a14]))) := b2i_not f35 q34
                have q36 : ρ 36 = (b2i (goodE [b0, b1, b2, b3, b4, b5, b6, b7, b8, b9, b10, b11, b12, b13, b14])) := by
                    have t := f36 0 (by decide)
                    simp only [q15, q16, q17, q18, q19, q20, q21, q22, q23, q24, q25, q26, q27, q28, q29] at t
                    exact t
                have q37 : ρ 37 = (b2i (!(goodE [b0, b1, b2, b3, b4, b5, b6, b7, b8, b9, b10, b11, b12, b13, b14]))) := b2i_not f37 q36
                have q38 : ρ 38 = (b2i (decide (b10 ≠ 1))) := b2i_dec f38 (by simp only [q25])
                have q39 : ρ 39 = (b2i (hasB [a2, a3, a4, a5, a6, a7, a8, a9] b0 b1)) := by
                    have t := f39 0 (by decide)
                    simp only [q2, q3, q4, q5, q6, q7, q8, q9, q15, q16] at t
                    exact t
                have q40 : ρ 40 = (b2i (!(hasB [a2, a3, a4, a5, a6, a7, a8, a9] b0 b1))) := b2i_not f40 q39
                have q41 : ρ 41 = (b2i (overE [a0, a1, a2, a3, a4, a5, a6, a7, a8, a9, a10, a11, a12, a13, a14] [b0, b1, b2, b3, b4, b5, b6, b7, b8, b9, b10, b11, b12, b13, b14])) := by
                    have t := f41 0 (by decide)
                    simp only [q0, q1, q2, q3, q4, q5, q6, q7, q8, q9, q10, q11, q12, q13, q14, q15, q16, q17, q18, q19, q20, q21, q22, q23, q24, q25, q26, q27, q28, q29] at t
                    exact t
                have q42 : ρ 42 = (b2i (decide (a11 = b11))) := b2i_dec f42 (by simp only [q11, q26])
                have q43 : ρ 43 = (b2i (((overE [a0, a1, a2, a3, a4, a5, a6, a7, a8, a9, a10, a11, a12, a13, a14] [b0, b1, b2, b3, b4, b5, b6, b7, b8, b9, b10, b11, b12, b13, b14]) == false) != false)) := b2i_beq f43 q41 (show (0 : Int) = b2i false from rfl)
                have q44 : ρ 44 = (b2i (decide ([a0, a1] = [0, 0]))) := b2i_eqs (l := [a0, a1]) (m := [0, 0]) f44 (by simp only [List.map_cons, List.map_nil, Ref.den, q0, q1]) (by simp only [List.map_cons, List.map_nil, Ref.den, q0, q1])
                have q45 : ρ 45 = (b2i (!(decide ([a0, a1] = [0, 0])))) := b2i_not f45 q44
                refine ⟨?_, ?_⟩
                · simp only [G_nil, G_bin, G_cmp, G_not, G_conv, G_eqs, G_call, G_cond, G_need, G_idx, G_sel, G_upd, G_shv, G_beq, G_prim, G_byte, G_cut, G_cat, List.map_cons, List.map_nil, Ref.den]
                  refine ⟨?_, ?_, ?_, ?_, ?_, ?_, ?_, ?_, ?_, ?_, ?_, ?_, ?_, ?_, ?_, ?_, trivial⟩
                  · exact trivial
                  · exact b2i_cond q31 (by simp only [Bool.not_true, decide_true, decide_false, Bool.and_true, Bool.true_and, Bool.and_false, Bool.false_and, Bool.or_true, Bool.true_or, Bool.or_false, Bool.false_or, Bool.not_true, Bool.not_false, if_true, if_false, Bool.false_eq_true])
                  · exact trivial
                  · exact b2i_cond q32 (by simp only [c1, decide_true, decide_false, Bool.and_true, Bool.true_and, Bool.and_false, Bool.false_and, Bool.or_true, Bool.true_or, Bool.or_false, Bool.false_or, Bool.not_true, Bool.not_false, if_true, if_false, Bool.false_eq_true])
                  · exact trivial
                  · exact b2i_cond q33 (by simp only [c3, decide_true, decide_false, Bool.and_true, Bool.true_and, Bool.and_false, Bool.false_and, Bool.or_true, Bool.true_or, Bool.or_false, Bool.false_or, Bool.not_true, Bool.not_false, if_true, if_false, Bool.false_eq_true])
                  · exact by show (decZ (ρ 11)).length ≤ 1000 ∧ (decZ (ρ 12)).length ≤ 1000 ∧ (decZ (ρ 13)).length ≤ 1000; rw [q11, q12, q13]; exact m0
                  · exact b2i_cond q35 (by simp only [c5, decide_true, decide_false, Bool.and_true, Bool.true_and, Bool.and_false, Bool.false_and, Bool.or_true, Bool.true_or, Bool.or_false, Bool.false_or, Bool.not_true, Bool.not_false, if_true, if_false, Bool.false_eq_true])
                  · exact by show (decZ (ρ 26)).length ≤ 1000 ∧ (decZ (ρ 27)).length ≤ 1000 ∧ (decZ (ρ 28)).length ≤ 1000; rw [q26, q27, q28]; exact m1
                  · exact b2i_cond q37 (by simp only [c7, decide_true, decide_false, Bool.and_true, Bool.true_and, Bool.and_false, Bool.false_and, Bool.or_true, Bool.true_or, Bool.or_false, Bool.false_or, Bool.not_true, Bool.not_false, if_true, if_false, Bool.false_eq_true])
                  · exact b2i_cond q38 (by simp only [c8, decide_true, decide_false, Bool.and_true, Bool.true_and, Bool.and_false, Bool.false_and, Bool.or_true, Bool.true_or, Bool.or_false, Bool.false_or, Bool.not_true, Bool.not_false, if_true, if_false, Bool.false_eq_true])
                  · exact trivial
                  · exact b2i_cond q40 (by simp only [c9, decide_true, decide_false, Bool.and_true, Bool.true_and, Bool.and_false, Bool.false_and, Bool.or_true, Bool.true_or, Bool.or_false, Bool.false_or, Bool.not_true, Bool.not_false, if_true, if_false, Bool.false_eq_true])
                  · exact trivial
                  · exact b2i_cond q42 (by simp only [c10, decide_true, decide_false, Bool.and_true, Bool.true_and, Bool.and_false, Bool.false_and, Bool.or_true, Bool.true_or, Bool.or_false, Bool.false_or, Bool.not_true, Bool.not_false, if_true, if_false, Bool.false_eq_true])
                  · exact b2i_cond q43 (by simp only [kO] <;> rfl)
                · show [ρ 45] = [1]
                  rw [q45]
                  exact congrArg (fun b => [b2i b]) (show (!(decide ([a0, a1] = [0, 0]))) = true by simp only [kZ] <;> rfl)
              · cases c11 : decide (a10 = 2)
                · have e0 := good_is c5
                  have kO : (((overE [a0, a1, a2, a3, a4, a5, a6, a7, a8, a9, a10, a11, a12, a13, a14] [b0, b1, b2, b3, b4, b5, b6, b7, b8, b9, b10, b11, b12, b13, b14]) == (decide (a12 = b12))) != false) = true := by
                    have u0 := c8
                    have u1 := c9
                    have u2 := c10
                    have u3 := c11
                    simp only [decide_eq_true_eq, decide_eq_false_iff_not, ne_eq, Decidable.not_not] at u0 u1 u2 u3
                    have u9 : a10 = 1 := by omega
                    simp [overE, u0, u1, u2, u9]
                  refine Go.Sx.Way.of (dec := [false, false, false, false, false, false, false, true, false, true]) (fs := [.need 40 [], .call 30 40 [] 1, .not 31 (.v 30), .cond 31 false, .need 13 [[.v 0, .v 1, .v 2, .v 3, .v 4, .v 5, .v 6, .v 7, .v 8, .v 9, .v 10, .v 11, .v 12, .v 13, .v 14]], .call 32 13 [[.v 0, .v 1, .v 2, .v 3, .v 4, .v 5, .v 6, .v 7, .v 8, .v 9, .v 10, .v 11, .v 12, .v 13, .v 14]] 1, .cond 32 false, .need 13 [[.v 15, .v 16, .v 17, .v 18, .v 19, .v 20, .v 21, .v 22, .v 23, .v 24, .v 25, .v 26, .v 27, .v 28, .v 29]], .call 33 13 [[.v 15, .v 16, .v 17, .v 18, .v 19, .v 20, .v 21, .v 22, .v 23, .v 24, .v 25, .v 26, .v 27, .v 28, .v 29]] 1, .cond 33 false, .need 10 [[.v 0, .v 1, .v 2, .v 3, .v 4, .v 5, .v 6, .v 7, .v 8, .v 9, .v 10, .v 11, .v 12, .v 13, .v 14]], .call 34 10 [[.v 0, .v 1, .v 2, .v 3, .v 4, .v 5, .v 6, .v 7, .v 8, .v 9, .v 10, .v 11, .v 12, .v 13, .v 14]] 1, .not 35 (.v 34), .cond 35 false, .need 10 [[.v 15, .v 16, .v 17, .v 18, .v 19, .v 20, .v 21, .v 22, .v 23, .v 24, .v 25, .v 26, .v 27, .v 28, .v 29]], .call 36 10 [[.v 15, .v 16, .v 17, .v 18, .v 19, .v 20, .v 21, .v 22, .v 23, .v 24, .v 25, .v 26, .v 27, .v 28, .v 29]] 1, .not 37 (.v 36), .cond 37 false, .cmp 38 .neq (.v 25) (.l 1), .cond 38 false, .need 6 [[.v 2, .v 3, .v 4, .v 5, .v 6, .v 7, .v 8, .v 9], [.v 15, .v 16]], .call 39 6 [[.v 2, .v 3, .v 4, .v 5, .v 6, .v 7, .v 8, .v 9], [.v 15, .v 16]] 1, .not 40 (.v 39), .cond 40 false, .need 11 [[.v 0, .v 1, .v 2, .v 3, .v 4, .v 5, .v 6, .v 7, .v 8, .v 9, .v 10, .v 11, .v 12, .v 13, .v 14], [.v 15, .v 16, .v 17, .v 18, .v 19, .v 20, .v 21, .v 22, .v 23, .v 24, .v 25, .v 26, .v 27, .v 28, .v 29]], .call 41 11 [[.v 0, .v 1, .v 2, .v 3, .v 4, .v 5, .v 6, .v 7, .v 8, .v 9, .v 10, .v 11, .v 12, .v 13, .v 14], [.v 15, .v 16, .v 17, .v 18, .v 19, .v 20, .v 21, .v 22, .v 23, .v 24, .v 25, .v 26, .v 27, .v 28, .v 29]] 1, .cmp 42 .eql (.v 11) (.v 26), .cond 42 true, .cmp 43 .eql (.v 10) (.l 2), .cond 43 false, .cmp 44 .eql (.v 12) (.v 27), .beq 45 false (.v 41) (.v 44), .cond 45 true, .eqs 46 [(.v 0, .l 0), (.v 1, .l 0)], .not 47 (.v 46)]) (refs := [.v 47]) (by kernel_rfl) fun ρ hρ hd => ?_
                  simp only [D_nil, D_add, D_sub, D_mul, D_and, D_or, D_xor, D_shl, D_shr, D_andNot, D_quo, D_rem, D_add_i64, D_sub_i64, D_mul_i64, D_add_u32, D_sub_u32, D_mul_u32, D_add_u8, D_sub_u8, D_mul_u8, D_eql, D_neq, D_lss, D_leq, D_gtr, D_geq, D_not, D_conv, D_eqs, D_call, D_cond, D_need, D_idx, D_sel, D_upd, D_shv, D_beq, D_len, D_byte, D_cut, D_cat, D_must, List.map_cons, List.map_nil, Ref.den] at hd
                  obtain ⟨f30, f31, f32, f33, f34, f35, f36, f37, f38, f39, f40, f41, f42, f43, f44, f45, f46, f47, -⟩ := hd
                  have q0 : ρ 0 = a0 := hρ 0 (by decide)
                  have q1 : ρ 1 = a1 := hρ 1 (by decide)
                  have q2 : ρ 2 = a2 := hρ 2 (by decide)
                  have q3 : ρ 3 = a3 := hρ 3 (by decide)
                  have q4 : ρ 4 = a4 := hρ 4 (by decide)
                  have q5 : ρ 5 = a5 := hρ 5 (by decide)
                  have q6 : ρ 6 = a6 := hρ 6 (by decide)
                  have q7 : ρ 7 = a7 := hρ 7 (by decide)
                  have q8 : ρ 8 = a8 := hρ 8 (by decide)
                  have q9 : ρ 9 = a9 := hρ 9 (by decide)
                  have q10 : ρ 10 = a10 := hρ 10 (by decide)
                  have q11 : ρ 11 = a11 := hρ 11 (by decide)
                  have q12 : ρ 12 = a12 := hρ 12 (by decide)
                  have q13 : ρ 13 = a13 := hρ 13 (by decide)
                  have q14 : ρ 14 = a14 := hρ 14 (by decide)
                  have q15 : ρ 15 = b0 := hρ 15 (by decide)
                  have q16 : ρ 16 = b1 := hρ 16 (by decide)
                  have q17 : ρ 17 = b2 := hρ 17 (by decide)
                  have q18 : ρ 18 = b3 := hρ 18 (by decide)
                  have q19 : ρ 19 = b4 := hρ 19 (by decide)
                  have q20 : ρ 20 = b5 := hρ 20 (by decide)
                  have q21 : ρ 21 = b6 := hρ 21 (by decide)
                  have q22 : ρ 22 = b7 := hρ 22 (by decide)
                  have q23 : ρ 23 = b8 := hρ 23 (by decide)
                  have q24 : ρ 24 = b9 := hρ 24 (by decide)
                  have q25 : ρ 25 = b10 := hρ 25 (by decide)
                  have q26 : ρ 26 = b11 := hρ 26 (by decide)
                  have q27 : ρ 27 = b12 := hρ 27 (by decide)
                  have q28 : ρ 28 = b13 := hρ 28 (by decide)
                  have q29 : ρ 29 = b14 := hρ 29 (by decide)
                  have q30 : ρ 30 = (b2i (true)) := by
                      have t := f30 0 (by decide)
                      exact t
                  have q31 : ρ 31 = (b2i (!true)) := b2i_not f31 q30
                  have q32 : ρ 32 = (b2i (longE [a0, a1, a2, a3, a4, a5, a6, a7, a8, a9, a10, a11, a12, a13, a14])) := by
                      have t := f32 0 (by decide)
                      simp only [q0, q1, q2, q3, q4, q5, q6, q7, q8, q9, q10, q11, q12, q13, q14] at t
                      exact t
                  have q33 : ρ 33 = (b2i (longE [b0, b1, b2, b3, b4, b5, b6, b7, b8, b9, b10, b11, b12, b13, b14])) := by
                      have t := f33 0 (by decide)
                      simp only [q15, q16, q17, q18, q19, q20, q21, q22, q23, q24, q25, q26, q27, q28, q29] at t
                      exact t
                  have q34 : ρ 34 = (b2i (goodE [a0, a1, a2, a3, a4, a5, a6, a7, a8, a9, a10, a11, a12, a13, a14])) := by
                      have t := f34 0 (by decide)
                      simp only [q0, q1, q2, q3, q4, q5, q6, q7, q8, q9, q10, q11, q12, q13, q14] at t
                      exact t
                  have q35 : ρ 35 = (b2i (!(goodE [a0, a1, a2, a3, a4, a5, a6, a7, a8, a9, a10, a11, a12, a13, a14]))) := b2i_not f35 q34
                  have q36 : ρ 36 = (b2i (goodE [b0, b1, b2, b3, b4, b5, b6, b7, b8, b9, b10, b11, b12, b13, b14])) := by
                      have t := f36 0 (by decide)
                      simp only [q15, q16, q17, q18, q19, q20, q21, q22, q23, q24, q25, q26, q27, q28, q29] at t
                      exact t
                  have q37 : ρ 37 = (b2i (!(goodE [b0, b1, b2, b3, b4, b5, b6, b7, b8, b9, b10, b11, b12, b13, b14]))) := b2i_not f37 q36
                  have q38 : ρ 38 = (b2i (decide (b10 ≠ 1))) := b2i_dec f38 (by simp only [q25])
                  have q39 : ρ 39 = (b2i (hasB [a2, a3, a4, a5, a6, a7, a8, a9] b0 b1)) := by
                      have t := f39 0 (by decide)
                      simp only [q2, q3, q4, q5, q6, q7, q8, q9, q15, q16] at t
                      exact t
                  have q40 : ρ 40 = (b2i (!(hasB [a2, a3, a4, a5, a6, a7, a8, a9] b0 b1))) := b2i_not f40 q39
                  have q41 : ρ 41 = (b2i (overE [a0, a1, a2, a3, a4, a5, a6, a7, a8, a9, a10, a11, a12, a13, a14] [b0, b1, b2, b3, b4, b5, b6, b7, b8, b9, b10, b11, b12, b13, b14])) := by
                      have t := f41 0 (by decide)
                      simp only [q0, q1, q2, q3, q4, q5, q6, q7, q8, q9, q10, q11, q12, q13, q14, q15, q16, q17, q18, q19, q20, q21, q22, q23, q24, q25, q26, q27, q28, q29] at t
                      exact t
                  have q42 : ρ 42 = (b2i (decide (a11 = b11))) := b2i_dec f42 (by simp only [q11, q26])
                  have q43 : ρ 43 = (b2i (decide (a10 = 2))) := b2i_dec f43 (by simp only [q10])
                  have q44 : ρ 44 = (b2i (decide (a12 = b12))) := b2i_dec f44 (by simp only [q12, q27])
                  have q45 : ρ 45 = (b2i (((overE [a0, a1, a2, a3, a4, a5, a6, a7, a8, a9, a10, a11, a12, a13, a14] [b0, b1, b2, b3, b4, b5, b6, b7, b8, b9, b10, b11, b12, b13, b14]) == (decide (a12 = b12))) != false)) := b2i_beq f45 q41 q44
                  have q46 : ρ 46 = (b2i (decide ([a0, a1] = [0, 0]))) := b2i_eqs (l := [a0, a1]) (m := [0, 0]) f46 (by simp only [List.map_cons, List.map_nil, Ref.den, q0, q1]) (by simp only [List.map_cons, List.map_nil, Ref.den, q0, q1])
                  have q47 : ρ 47 = (b2i (!(decide ([a0, a1] = [0, 0])))) := b2i_not f47 q46
                  refine ⟨?_, ?_⟩
                  · simp only [G_nil, G_bin, G_cmp, G_not, G_conv, G_eqs, G_call, G_cond, G_need, G_idx, G_sel, G_upd, G_shv, G_beq, G_prim, G_byte, G_cut, G_cat, List.map_cons, List.map_nil, Ref.den]
                    refine ⟨?_, ?_, ?_, ?_, ?_, ?_, ?_, ?_, ?_, ?_, ?_, ?_, ?_, ?_, ?_, ?_, ?_, trivial⟩
                    · exact trivial
                    · exact b2i_cond q31 (by simp only [Bool.not_true, decide_true, decide_false, Bool.and_true, Bool.true_and, Bool.and_false, Bool.false_and, Bool.or_true, Bool.true_or, Bool.or_false, Bool.false_or, Bool.not_true, Bool.not_false, if_true, if_false, Bool.false_eq_true])
                    · exact trivial
                    · exact b2i_cond q32 (by simp only [c1, decide_true, decide_false, Bool.and_true, Bool.true_and, Bool.and_false, Bool.false_and, Bool.or_true, Bool.true_or, Bool.or_false, Bool.false_or, Bool.not_true, Bool.not_false, if_true, if_false, Bool.false_eq_true])
                    · exact trivial
                    · exact b2i_cond q33 (by simp only [c3, decide_true, decide_false, Bool.and_true, Bool.true_and, Bool.and_false, Bool.false_and, Bool.or_true, Bool.true_or, Bool.or_false, Bool.false_or, Bool.not_true, Bool.not_false, if_true, if_false, Bool.false_eq_true])
                    · exact by show (decZ (ρ 11)).length ≤ 1000 ∧ (decZ (ρ 12)).length ≤ 1000 ∧ (decZ (ρ 13)).length ≤ 1000; rw [q11, q12, q13]; exact m0
                    · exact b2i_cond q35 (by simp only [c5, decide_true, decide_false, Bool.and_true, Bool.true_and, Bool.and_false, Bool.false_and, Bool.or_true, Bool.true_or, Bool.or_false, Bool.false_or, Bool.not_true, Bool.not_false, if_true, if_false, Bool.false_eq_true])
                    · exact by show (decZ (ρ 26)).length ≤ 1000 ∧ (decZ (ρ 27)).length ≤ 1000 ∧ (decZ (ρ 28)).length ≤ 1000; rw [q26, q27, q28]; exact m1
                    · exact b2i_cond q37 (by simp only [c7, decide_true, decide_false, Bool.and_true, Bool.true_and, Bool.and_false, Bool.false_and, Bool.or_true, Bool.true_or, Bool.or_false, Bool.false_or, Bool.not_true, Bool.not_false, if_true, if_false, Bool.false_eq_true])
                    · exact b2i_cond q38 (by simp only [c8, decide_true, decide_false, Bool.and_true, Bool.true_and, Bool.and_false, Bool.false_and, Bool.or_true, Bool.true_or, Bool.or_false, Bool.false_or, Bool.not_true, Bool.not_false, if_true, if_false, Bool.false_eq_true])
                    · exact trivial
                    · exact b2i_cond q40 (by simp only [c9, decide_true, decide_false, Bool.and_true, Bool.true_and, Bool.and_false, Bool.false_and, Bool.or_true, Bool.true_or, Bool.or_false, Bool.false_or, Bool.not_true, Bool.not_false, if_true, if_false, Bool.false_eq_true])
                    · exact trivial
                    · exact b2i_cond q42 (by simp only [c10, decide_true, decide_false, Bool.and_true, Bool.true_and, Bool.and_false, Bool.false_and, Bool.or_true, Bool.true_or, Bool.or_false, Bool.false_or, Bool.not_true, Bool.not_false, if_true, if_false, Bool.false_eq_true])
                    · exact b2i_cond q43 (by simp only [c11, decide_true, decide_false, Bool.and_true, Bool.true_and, Bool.and_false, Bool.false_and, Bool.or_true, Bool.true_or, Bool.or_false, Bool.false_or, Bool.not_true, Bool.not_false, if_true, if_false, Bool.false_eq_true])
                    · exact b2i_cond q45 (by simp only [kO, decide_true, decide_false, Bool.and_true, Bool.true_and, Bool.and_false, Bool.false_and, Bool.or_true, Bool.true_or, Bool.or_false, Bool.false_or, Bool.not_true, Bool.not_false, if_true, if_false, Bool.false_eq_true])
                  · show [ρ 47] = [1]
                    rw [q47]
                    exact congrArg (fun b => [b2i b]) (show (!(decide ([a0, a1] = [0, 0]))) = true by simp only [kZ] <;> rfl)
                · have kO : overE [a0, a1, a2, a3, a4, a5, a6, a7, a8, a9, a10, a11, a12, a13, a14] [b0, b1, b2, b3, b4, b5, b6, b7, b8, b9, b10, b11, b12, b13, b14] = true := by
                    have u0 := c8
                    have u1 := c9
                    have u2 := c10
                    have u3 := c11
                    simp only [decide_eq_true_eq, decide_eq_false_iff_not, ne_eq, Decidable.not_not] at u0 u1 u2 u3
                    simp [overE, u0, u1, u2, u3]
                  refine Go.Sx.Way.of (dec := [false, false, false, false, false, false, false, true, true, true]) (fs := [.need 40 [], .call 30 40 [] 1, .not 31 (.v 30), .cond 31 false, .need 13 [[.v 0, .v 1, .v 2, .v 3, .v 4, .v 5, .v 6, .v 7, .v 8, .v 9, .v 10, .v 11, .v 12, .v 13, .v 14]], .call 32 13 [[.v 0, .v 1, .v 2, .v 3, .v 4, .v 5, .v 6, .v 7, .v 8, .v 9, .v 10, .v 11, .v 12, .v 13, .v 14]] 1, .cond 32 false, .need 13 [[.v 15, .v 16, .v 17, .v 18, .v 19, .v 20, .v 21, .v 22, .v 23, .v 24, .v 25, .v 26, .v 27, .v 28, .v 29]], .call 33 13 [[.v 15, .v 16, .v 17, .v 18, .v 19, .v 20, .v 21, .v 22, .v 23, .v 24, .v 25, .v 26, .v 27, .v 28, .v 29]] 1, .cond 33 false, .need 10 [[.v 0, .v 1, .v 2, .v 3, .v 4, .v 5, .v 6, .v 7, .v 8, .v 9, .v 10, .v 11, .v 12, .v 13, .v 14]], .call 34 10 [[.v 0, .v 1, .v 2, .v 3, .v 4, .v 5, .v 6, .v 7, .v 8, .v 9, .v 10, .v 11, .v 12, .v 13, .v 14]] 1, .not 35 (.v 34), .cond 35 false, .need 10 [[.v 15, .v 16, .v 17, .v 18, .v 19, .v 20, .v 21, .v 22, .v 23, .v 24, .v 25, .v 26, .v 27, .v 28, .v 29]], .call 36 10 [[.v 15, .v 16, .v 17, .v 18, .v 19, .v 20, .v 21, .v 22, .v 23, .v 24, .v 25, .v 26, .v 27, .v 28, .v 29]] 1, .not 37 (.v 36), .cond 37 false, .cmp 38 .neq (.v 25) (.l 1), .cond 38 false, .need 6 [[.v 2, .v 3, .v 4, .v 5, .v 6, .v 7, .v 8, .v 9], [.v 15, .v 16]], .call 39 6 [[.v 2, .v 3, .v 4, .v 5, .v 6, .v 7, .v 8, .v 9], [.v 15, .v 16]] 1, .not 40 (.v 39), .cond 40 false, .need 11 [[.v 0, .v 1, .v 2, .v 3, .v 4, .v 5, .v 6, .v 7, .v 8, .v 9, .v 10, .v 11, .v 12, .v 13, .v 14], [.v 15, .v 16, .v 17, .v 18, .v 19, .v 20, .v 21, .v 22, .v 23, .v 24, .v 25, .v 26, .v 27, .v 28, .v 29]], .call 41 11 [[.v 0, .v 1, .v 2, .v 3, .v 4, .v 5, .v 6, .v 7, .v 8, .v 9, .v 10, .v 11, .v 12, .v 13, .v 14], [.v 15, .v 16, .v 17, .v 18, .v 19, .v 20, .v 21, .v 22, .v 23, .v 24, .v 25, .v 26, .v 27, .v 28, .v 29]] 1, .cmp 42 .eql (.v 11) (.v 26), .cond 42 true, .cmp 43 .eql (.v 10) (.l 2), .cond 43 true, .beq 44 false (.v 41) (.l 1), .cond 44 true, .eqs 45 [(.v 0, .l 0), (.v 1, .l 0)], .not 46 (.v 45)]) (refs := [.v 46]) (by kernel_rfl) fun ρ hρ hd => ?_
                  simp only [D_nil, D_add, D_sub, D_mul, D_and, D_or, D_xor, D_shl, D_shr, D_andNot, D_quo, D_rem, D_add_i64, D_sub_i64, D_mul_i64, D_add_u32, D_sub_u32, D_mul_u32, D_add_u8, D_sub_u8, D_mul_u8, D_eql, D_neq, D_lss, D_leq, D_gtr, D_geq, D_not, D_conv, D_eqs, D_call, D_cond, D_need, D_idx, D_sel, D_upd, D_shv, D_beq, D_len, D_byte, D_cut, D_cat, D_must, List.map_cons, List.map_nil, Ref.den] at hd
                  obtain ⟨f30, f31, f32, f33, f34, f35, f36, f37, f38, f39, f40, f41, f42, f43, f44, f45, f46, -⟩ := hd
                  have q0 : ρ 0 = a0 := hρ 0 (by decide)
                  have q1 : ρ 1 = a1 := hρ 1 (by decide)
                  have q2 : ρ 2 = a2 := hρ 2 (by decide)
                  have q3 : ρ 3 = a3 := hρ 3 (by decide)
                  have q4 : ρ 4 = a4 := hρ 4 (by decide)
                  have q5 : ρ 5 = a5 := hρ 5 (by decide)
                  have q6 : ρ 6 = a6 := hρ 6 (by decide)
                  have q7 : ρ 7 = a7 := hρ 7 (by decide)
                  have q8 : ρ 8 = a8 := hρ 8 (by decide)
                  have q9 : ρ 9 = a9 := hρ 9 (by decide)
                  have q10 : ρ 10 = a10 := hρ 10 (by decide)
                  have q11 : ρ 11 = a11 := hρ 11 (by decide)
                  have q12 : ρ 12 = a12 := hρ 12 (by decide)
                  have q13 : ρ 13 = a13 := hρ 13 (by decide)
                  have q14 : ρ 14 = a14 := hρ 14 (by decide)
                  have q15 : ρ 15 = b0 := hρ 15 (by decide)
                  have q16 : ρ 16 = b1 := hρ 16 (by decide)
                  have q17 : ρ 17 = b2 := hρ 17 (by decide)
                  have q18 : ρ 18 = b3 := hρ 18 (by decide)
                  have q19 : ρ 19 = b4 := hρ 19 (by decide)
                  have q20 : ρ 20 = b5 := hρ 20 (by decide)
                  have q21 : ρ 21 = b6 := hρ 21 (by decide)
                  have q22 : ρ 22 = b7 := hρ 22 (by decide)
                  have q23 : ρ 23 = b8 := hρ 23 (by decide)
                  have q24 : ρ 24 = b9 := hρ 24 (by decide)
                  have q25 : ρ 25 = b10 := hρ 25 (by decide)
                  have q26 : ρ 26 = b11 := hρ 26 (by decide)
                  have q27 : ρ 27 = b12 := hρ 27 (by decide)
                  have q28 : ρ 28 = b13 := hρ 28 (by decide)
                  have q29 : ρ 29 = b14 := hρ 29 (by decide)
                  have q30 : ρ 30 = (b2i (true)) := by
                      have t := f30 0 (by decide)
                      exact t
                  have q31 : ρ 31 = (b2i (!true)) := b2i_not f31 q30
                  have q32 : ρ 32 = (b2i (longE [a0, a1, a2, a3, a4, a5, a6, a7, a8, a9, a10, a11, a12, a13, a14])) := by
                      have t := f32 0 (by decide)
                      simp only [q0, q1, q2, q3, q4, q5, q6, q7, q8, q9, q10, q11, q12, q13, q14] at t
                      exact t
                  have q33 : ρ 33 = (b2i (longE [b0, b1, b2, b3, b4, b5, b6, b7, b8, b9, b10, b11, b12, b13, b14])) := by
                      have t := f33 0 (by decide)
                      simp only [q15, q16, q17, q18, q19, q20, q21, q22, q23, q24, q25, q26, q27, q28, q29] at t
                      exact t
                  have q34 : ρ 34 = (b2i (goodE [a0, a1, a2, a3, a4, a5, a6, a7, a8, a9, a10, a11, a12, a13, a14])) := by
                      have t := f34 0 (by decide)
                      simp only [q0, q1, q2, q3, q4, q5, q6, q7, q8, q9, q10, q11, q12, q13, q14] at t
                      exact t
                  have q35 : ρ 35 = (b2i (!(goodE [a0, a1, a2, a3, a4, a5, a6, a7, a8, a9, a10, a11, a12, a13, a14]))) := b2i_not f35 q34
                  have q36 : ρ 36 = (b2i (goodE [b0, b1, b2, b3, b4, b5, b6, b7, b8, b9, b10, b11, b12, b13, b14])) := by
                      have t := f36 0 (by decide)
                      simp only [q15, q16, q17, q18, q19, q20, q21, q22, q23, q24, q25, q26, q27, q28, q29] at t
                      exact t
                  have q37 : ρ 37 = (b2i (!(goodE [b0, b1, b2, b3, b4, b5, b6, b7, b8, b9, b10, b11, b12, b13, b14]))) := b2i_not f37 q36
                  have q38 : ρ 38 = (b2i (decide (b10 ≠ 1))) := b2i_dec f38 (by simp only [q25])
                  have q39 : ρ 39 = (b2i (hasB [a2, a3, a4, a5, a6, a7, a8, a9] b0 b1)) := by
                      have t := f39 0 (by decide)
                      simp only [q2, q3, q4, q5, q6, q7, q8, q9, q15, q16] at t
                      exact t
                  have q40 : ρ 40 = (b2i (!(hasB [a2, a3, a4, a5, a6, a7, a8, a9] b0 b1))) := b2i_not f40 q39
                  have q41 : ρ 41 = (b2i (overE [a0, a1, a2, a3, a4, a5, a6, a7, a8, a9, a10, a11, a12, a13, a14] [b0, b1, b2, b3, b4, b5, b6, b7, b8, b9, b10, b11, b12, b13, b14])) := by
                      have t := f41 0 (by decide)
                      simp only [q0, q1, q2, q3, q4, q5, q6, q7, q8, q9, q10, q11, q12, q13, q14, q15, q16, q17, q18, q19, q20, q21, q22, q23, q24, q25, q26, q27, q28, q29] at t
                      exact t
                  have q42 : ρ 42 = (b2i (decide (a11 = b11))) := b2i_dec f42 (by simp only [q11, q26])
                  have q43 : ρ 43 = (b2i (decide (a10 = 2))) := b2i_dec f43 (by simp only [q10])
                  have q44 : ρ 44 = (b2i (((overE [a0, a1, a2, a3, a4, a5, a6, a7, a8, a9, a10, a11, a12, a13, a14] [b0, b1, b2, b3, b4, b5, b6, b7, b8, b9, b10, b11, b12, b13, b14]) == true) != false)) := b2i_beq f44 q41 (show (1 : Int) = b2i true from rfl)
                  have q45 : ρ 45 = (b2i (decide ([a0, a1] = [0, 0]))) := b2i_eqs (l := [a0, a1]) (m := [0, 0]) f45 (by simp only [List.map_cons, List.map_nil, Ref.den, q0, q1]) (by simp only [List.map_cons, List.map_nil, Ref.den, q0, q1])
                  have q46 : ρ 46 = (b2i (!(decide ([a0, a1] = [0, 0])))) := b2i_not f46 q45
                  refine ⟨?_, ?_⟩
                  · simp only [G_nil, G_bin, G_cmp, G_not, G_conv, G_eqs, G_call, G_cond, G_need, G_idx, G_sel, G_upd, G_shv, G_beq, G_prim, G_byte, G_cut, G_cat, List.map_cons, List.map_nil, Ref.den]
                    refine ⟨?_, ?_, ?_, ?_, ?_, ?_, ?_, ?_, ?_, ?_, ?_, ?_, ?_, ?_, ?_, ?_, ?_, trivial⟩
                    · exact trivial
                    · exact b2i_cond q31 (by simp only [Bool.not_true, decide_true, decide_false, Bool.and_true, Bool.true_and, Bool.and_false, Bool.false_and, Bool.or_true, Bool.true_or, Bool.or_false, Bool.false_or, Bool.not_true, Bool.not_false, if_true, if_false, Bool.false_eq_true])
                    · exact trivial
                    · exact b2i_cond q32 (by simp only [c1, decide_true, decide_false, Bool.and_true, Bool.true_and, Bool.and_false, Bool.false_and, Bool.or_true, Bool.true_or, Bool.or_false, Bool.false_or, Bool.not_true, Bool.not_false, if_true, if_false, Bool.false_eq_true])
                    · exact trivial
                    · exact b2i_cond q33 (by simp only [c3, decide_true, decide_false, Bool.and_true, Bool.true_and, Bool.and_false, Bool.false_and, Bool.or_true, Bool.true_or, Bool.or_false, Bool.false_or, Bool.not_true, Bool.not_false, if_true, if_false, Bool.false_eq_true])
                    · exact by show (decZ (ρ 11)).length ≤ 1000 ∧ (decZ (ρ 12)).length ≤ 1000 ∧ (decZ (ρ 13)).length ≤ 1000; rw [q11, q12, q13]; exact m0
                    · exact b2i_cond q35 (by simp only [c5, decide_true, decide_false, Bool.and_true, Bool.true_and, Bool.and_false, Bool.false_and, Bool.or_true, Bool.true_or, Bool.or_false, Bool.false_or, Bool.not_true, Bool.not_false, if_true, if_false, Bool.false_eq_true])
                    · exact by show (decZ (ρ 26)).length ≤ 1000 ∧ (decZ (ρ 27)).length ≤ 1000 ∧ (decZ (ρ 28)).length ≤ 1000; rw [q26, q27, q28]; exact m1
                    · exact b2i_cond q37 (by simp only [c7, decide_true, decide_false, Bool.and_true, Bool.true_and, Bool.and_false, Bool.false_and, Bool.or_true, Bool.true_or, Bool.or_false, Bool.false_or, Bool.not_true, Bool.not_false, if_true, if_false, Bool.false_eq_true])
                    · exact b2i_cond q38 (by simp only [c8, decide_true, decide_false, Bool.and_true, Bool.true_and, Bool.and_false, Bool.false_and, Bool.or_true, Bool.true_or, Bool.or_false, Bool.false_or, Bool.not_true, Bool.not_false, if_true, if_false, Bool.false_eq_true])
                    · exact trivial
                    · exact b2i_cond q40 (by simp only [c9, decide_true, decide_false, Bool.and_true, Bool.true_and, Bool.and_false, Bool.false_and, Bool.or_true, Bool.true_or, Bool.or_false, Bool.false_or, Bool.not_true, Bool.not_false, if_true, if_false, Bool.false_eq_true])
                    · exact trivial
                    · exact b2i_cond q42 (by simp only [c10, decide_true, decide_false, Bool.and_true, Bool.true_and, Bool.and_false, Bool.false_and, Bool.or_true, Bool.true_or, Bool.or_false, Bool.false_or, Bool.not_true, Bool.not_false, if_true, if_false, Bool.false_eq_true])
                    · exact b2i_cond q43 (by simp only [c11, decide_true, decide_false, Bool.and_true, Bool.true_and, Bool.and_false, Bool.false_and, Bool.or_true, Bool.true_or, Bool.or_false, Bool.false_or, Bool.not_true, Bool.not_false, if_true, if_false, Bool.false_eq_true])
                    · exact b2i_cond q44 (by simp only [Bool.not_true, kO] <;> rfl)
                  · show [ρ 46] = [1]
                    rw [q46]
                    exact congrArg (fun b => [b2i b]) (show (!(decide ([a0, a1] = [0, 0]))) = true by simp only [kZ] <;> rfl)
          · refine Go.Sx.Way.of (dec := [false, false, false, false, false, true]) (fs := [.need 40 [], .call 30 40 [] 1, .not 31 (.v 30), .cond 31 false, .need 13 [[.v 0, .v 1, .v 2, .v 3, .v 4, .v 5, .v 6, .v 7, .v 8, .v 9, .v 10, .v 11, .v 12, .v 13, .v 14]], .call 32 13 [[.v 0, .v 1, .v 2, .v 3, .v 4, .v 5, .v 6, .v 7, .v 8, .v 9, .v 10, .v 11, .v 12, .v 13, .v 14]] 1, .cond 32 false, .need 13 [[.v 15, .v 16, .v 17, .v 18, .v 19, .v 20, .v 21, .v 22, .v 23, .v 24, .v 25, .v 26, .v 27, .v 28, .v 29]], .call 33 13 [[.v 15, .v 16, .v 17, .v 18, .v 19, .v 20, .v 21, .v 22, .v 23, .v 24, .v 25, .v 26, .v 27, .v 28, .v 29]] 1, .cond 33 false, .need 10 [[.v 0, .v 1, .v 2, .v 3, .v 4, .v 5, .v 6, .v 7, .v 8, .v 9, .v 10, .v 11, .v 12, .v 13, .v 14]], .call 34 10 [[.v 0, .v 1, .v 2, .v 3, .v 4, .v 5, .v 6, .v 7, .v 8, .v 9, .v 10, .v 11, .v 12, .v 13, .v 14]] 1, .not 35 (.v 34), .cond 35 false, .need 10 [[.v 15, .v 16, .v 17, .v 18, .v 19, .v 20, .v 21, .v 22, .v 23, .v 24, .v 25, .v 26, .v 27, .v 28, .v 29]], .call 36 10 [[.v 15, .v 16, .v 17, .v 18, .v 19, .v 20, .v 21, .v 22, .v 23, .v 24, .v 25, .v 26, .v 27, .v 28, .v 29]] 1, .not 37 (.v 36), .cond 37 false, .cmp 38 .neq (.v 25) (.l 1), .cond 38 true]) (refs := [.l 1]) (by kernel_rfl) fun ρ hρ hd => ?_
            simp only [D_nil, D_add, D_sub, D_mul, D_and, D_or, D_xor, D_shl, D_shr, D_andNot, D_quo, D_rem, D_add_i64, D_sub_i64, D_mul_i64, D_add_u32, D_sub_u32, D_mul_u32, D_add_u8, D_sub_u8, D_mul_u8, D_eql, D_neq, D_lss, D_leq, D_gtr, D_geq, D_not, D_conv, D_eqs, D_call, D_cond, D_need, D_idx, D_sel, D_upd, D_shv, D_beq, D_len, D_byte, D_cut, D_cat, D_must, List.map_cons, List.map_nil, Ref.den] at hd
            obtain ⟨f30, f31, f32, f33, f34, f35, f36, f37, f38, -⟩ := hd
            have q0 : ρ 0 = a0 := hρ 0 (by decide)
            have q1 : ρ 1 = a1 := hρ 1 (by decide)
            have q2 : ρ 2 = a2 := hρ 2 (by decide)
            have q3 : ρ 3 = a3 := hρ 3 (by decide)
            have q4 : ρ 4 = a4 := hρ 4 (by decide)
            have q5 : ρ 5 = a5 := hρ 5 (by decide)
            have q6 : ρ 6 = a6 := hρ 6 (by decide)
            have q7 : ρ 7 = a7 := hρ 7 (by decide)
            have q8 : ρ 8 = a8 := hρ 8 (by decide)
            have q9 : ρ 9 = a9 := hρ 9 (by decide)
            have q10 : ρ 10 = a10 := hρ 10 (by decide)
            have q11 : ρ 11 = a11 := hρ 11 (by decide)
            have q12 : ρ 12 = a12 := hρ 12 (by decide)
            have q13 : ρ 13 = a13 := hρ 13 (by decide)
            have q14 : ρ 14 = a14 := hρ 14 (by decide)
            have q15 : ρ 15 = b0 := hρ 15 (by decide)
            have q16 : ρ 16 = b1 := hρ 16 (by decide)
            have q17 : ρ 17 = b2 := hρ 17 (by decide)
            have q18 : ρ 18 = b3 := hρ 18 (by decide)
            have q19 : ρ 19 = b4 := hρ 19 (by decide)
            have q20 : ρ 20 = b5 := hρ 20 (by decide)
            have q21 : ρ 21 = b6 := hρ 21 (by decide)
            have q22 : ρ 22 = b7 := hρ 22 (by decide)
            have q23 : ρ 23 = b8 := hρ 23 (by decide)
            have q24 : ρ 24 = b9 := hρ 24 (by decide)
            have q25 : ρ 25 = b10 := hρ 25 (by decide)
            have q26 : ρ 26 = b11 := hρ 26 (by decide)
            have q27 : ρ 27 = b12 := hρ 27 (by decide)
            have q28 : ρ 28 = b13 := hρ 28 (by decide)
            have q29 : ρ 29 = b14 := hρ 29 (by decide)
            have q30 : ρ 30 = (b2i (true)) := by
                have t := f30 0 (by decide)
                exact t
            have q31 : ρ 31 = (b2i (!true)) := b2i_not f31 q30
            have q32 : ρ 32 = (b2i (longE [a0, a1, a2, a3, a4, a5, a6, a7, a8, a9, a10, a11, a12, a13, a14])) := by
                have t := f32 0 (by decide)
                simp only [q0, q1, q2, q3, q4, q5, q6, q7, q8, q9, q10, q11, q12, q13, q14] at t
                exact t
            have q33 : ρ 33 = (b2i (longE [b0, b1, b2, b3, b4, b5, b6, b7, b8, b9, b10, b11, b12, b13, b14])) := by
                have t := f33 0 (by decide)
                simp only [q15, q16, q17, q18, q19, q20, q21, q22, q23, q24, q25, q26, q27, q28, q29] at t
                exact t
            have q34 : ρ 34 = (b2i (goodE [a0, a1, a2, a3, a4, a5, a6, a7, a8, a9, a10, a11, a12, a13, a14])) := by
                have t := f34 0 (by decide)
                simp only [q0, q1, q2, q3, q4, q5, q6, q7, q8, q9, q10, q11, q12, q13, q14] at t
                exact t
            have q35 : ρ 35 = (b2i (!(goodE [a0, a1, a2, a3, a4, a5, a6, a7, a8, a9, a10, a11, a12, a13, a14]))) := b2i_not f35 q34
            have q36 : ρ 36 = (b2i (goodE [b0, b1, b2, b3, b4, b5, b6, b7, b8, b9, b10, b11, b12, b13, b14])) := by
                have t := f36 0 (by decide)
                simp only [q15, q16, q17, q18, q19, q20, q21, q22, q23, q24, q25, q26, q27, q28, q29] at t
                exact t
            have q37 : ρ 37 = (b2i (!(goodE [b0, b1, b2, b3, b4, b5, b6, b7, b8, b9, b10, b11, b12, b13, b14]))) := b2i_not f37 q36
            have q38 : ρ 38 = (b2i (decide (b10 ≠ 1))) := b2i_dec f38 (by simp only [q25])
            refine ⟨?_, ?_⟩
            · simp only [G_nil, G_bin, G_cmp, G_not, G_conv, G_eqs, G_call, G_cond, G_need, G_idx, G_sel, G_upd, G_shv, G_beq, G_prim, G_byte, G_cut, G_cat, List.map_cons, List.map_nil, Ref.den]
              refine ⟨?_, ?_, ?_, ?_, ?_, ?_, ?_, ?_, ?_, ?_, ?_, trivial⟩
              · exact trivial
              · exact b2i_cond q31 (by simp only [Bool.not_true, decide_true, decide_false, Bool.and_true, Bool.true_and, Bool.and_false, Bool.false_and, Bool.or_true, Bool.true_or, Bool.or_false, Bool.false_or, Bool.not_true, Bool.not_false, if_true, if_false, Bool.false_eq_true])
              · exact trivial
              · exact b2i_cond q32 (by simp only [c1, decide_true, decide_false, Bool.and_true, Bool.true_and, Bool.and_false, Bool.false_and, Bool.or_true, Bool.true_or, Bool.or_false, Bool.false_or, Bool.not_true, Bool.not_false, if_true, if_false, Bool.false_eq_true])
              · exact trivial
              · exact b2i_cond q33 (by simp only [c3, decide_true, decide_false, Bool.and_true, Bool.true_and, Bool.and_false, Bool.false_and, Bool.or_true, Bool.true_or, Bool.or_false, Bool.false_or, Bool.not_true, Bool.not_false, if_true, if_false, Bool.false_eq_true])
              · exact by show (decZ (ρ 11)).length ≤ 1000 ∧ (decZ (ρ 12)).length ≤ 1000 ∧ (decZ (ρ 13)).length ≤ 1000; rw [q11, q12, q13]; exact m0
              · exact b2i_cond q35 (by simp only [c5, decide_true, decide_false, Bool.and_true, Bool.true_and, Bool.and_false, Bool.false_and, Bool.or_true, Bool.true_or, Bool.or_false, Bool.false_or, Bool.not_true, Bool.not_false, if_true, if_false, Bool.false_eq_true])
              · exact by show (decZ (ρ 26)).length ≤ 1000 ∧ (decZ (ρ 27)).length ≤ 1000 ∧ (decZ (ρ 28)).length ≤ 1000; rw [q26, q27, q28]; exact m1
              · exact b2i_cond q37 (by simp only [c7, decide_true, decide_false, Bool.and_true, Bool.true_and, Bool.and_false, Bool.false_and, Bool.or_true, Bool.true_or, Bool.or_false, Bool.false_or, Bool.not_true, Bool.not_false, if_true, if_false, Bool.false_eq_true])
              · exact b2i_cond q38 (by simp only [c8, decide_true, decide_false, Bool.and_true, Bool.true_and, Bool.and_false, Bool.false_and, Bool.or_true, Bool.true_or, Bool.or_false, Bool.false_or, Bool.not_true, Bool.not_false, if_true, if_false, Bool.false_eq_true])
            · rfl
    · refine Go.Sx.Way.of (dec := [false, false, true]) (fs := [.need 40 [], .call 30 40 [] 1, .not 31 (.v 30), .cond 31 false, .need 13 [[.v 0, .v 1, .v 2, .v 3, .v 4, .v 5, .v 6, .v 7, .v 8, .v 9, .v 10, .v 11, .v 12, .v 13, .v 14]], .call 32 13 [[.v 0, .v 1, .v 2, .v 3, .v 4, .v 5, .v 6, .v 7, .v 8, .v 9, .v 10, .v 11, .v 12, .v 13, .v 14]] 1, .cond 32 false, .need 13 [[.v 15, .v 16, .v 17, .v 18, .v 19, .v 20, .v 21, .v 22, .v 23, .v 24, .v 25, .v 26, .v 27, .v 28, .v 29]], .call 33 13 [[.v 15, .v 16, .v 17, .v 18, .v 19, .v 20, .v 21, .v 22, .v 23, .v 24, .v 25, .v 26, .v 27, .v 28, .v 29]] 1, .cond 33 true]) (refs := [.l 1]) (by kernel_rfl) fun ρ hρ hd => ?_
      simp only [D_nil, D_add, D_sub, D_mul, D_and, D_or, D_xor, D_shl, D_shr, D_andNot, D_quo, D_rem, D_add_i64, D_sub_i64, D_mul_i64, D_add_u32, D_sub_u32, D_mul_u32, D_add_u8, D_sub_u8, D_mul_u8, D_eql, D_neq, D_lss, D_leq, D_gtr, D_geq, D_not, D_conv, D_eqs, D_call, D_cond, D_need, D_idx, D_sel, D_upd, D_shv, D_beq, D_len, D_byte, D_cut, D_cat, D_must, List.map_cons, List.map_nil, Ref.den] at hd
      obtain ⟨f30, f31, f32, f33, -⟩ := hd
      have q0 : ρ 0 = a0 := hρ 0 (by decide)
      have q1 : ρ 1 = a1 := hρ 1 (by decide)
      have q2 : ρ 2 = a2 := hρ 2 (by decide)
      have q3 : ρ 3 = a3 := hρ 3 (by decide)
      have q4 : ρ 4 = a4 := hρ 4 (by decide)
      have q5 : ρ 5 = a5 := hρ 5 (by decide)
      have q6 : ρ 6 = a6 := hρ 6 (by decide)
      have q7 : ρ 7 = a7 := hρ 7 (by decide)
      have q8 : ρ 8 = a8 := hρ 8 (by decide)
      have q9 : ρ 9 = a9 := hρ 9 (by decide)
      have q10 : ρ 10 = a10 := hρ 10 (by decide)
      have q11 : ρ 11 = a11 := hρ 11 (by decide)
      have q12 : ρ 12 = a12 := hρ 12 (by decide)
      have q13 : ρ 13 = a13 := hρ 13 (by decide)
      have q14 : ρ 14 = a14 := hρ 14 (by decide)
      have q15 : ρ 15 = b0 := hρ 15 (by decide)
      have q16 : ρ 16 = b1 := hρ 16 (by decide)
      have q17 : ρ 17 = b2 := hρ 17 (by decide)
      have q18 : ρ 18 = b3 := hρ 18 (by decide)
      have q19 : ρ 19 = b4 := hρ 19 (by decide)
      have q20 : ρ 20 = b5 := hρ 20 (by decide)
      have q21 : ρ 21 = b6 := hρ 21 (by decide)
      have q22 : ρ 22 = b7 := hρ 22 (by decide)
      have q23 : ρ 23 = b8 := hρ 23 (by decide)
      have q24 : ρ 24 = b9 := hρ 24 (by decide)
      have q25 : ρ 25 = b10 := hρ 25 (by decide)
      have q26 : ρ 26 = b11 := hρ 26 (by decide)
      have q27 : ρ 27 = b12 := hρ 27 (by decide)
      have q28 : ρ 28 = b13 := hρ 28 (by decide)
      have q29 : ρ 29 = b14 := hρ 29 (by decide)
      have q30 : ρ 30 = (b2i (true)) := by
          have t := f30 0 (by decide)
          exact t
      have q31 : ρ 31 = (b2i (!true)) := b2i_not f31 q30
      have q32 : ρ 32 = (b2i (longE [a0, a1, a2, a3, a4, a5, a6, a7, a8, a9, a10, a11, a12, a13, a14])) := by
          have t := f32 0 (by decide)
          simp only [q0, q1, q2, q3, q4, q5, q6, q7, q8, q9, q10, q11, q12, q13, q14] at t
          exact t
      have q33 : ρ 33 = (b2i (longE [b0, b1, b2, b3, b4, b5, b6, b7, b8, b9, b10, b11, b12, b13, b14])) := by
          have t := f33 0 (by decide)
          simp only [q15, q16, q17, q18, q19, q20, q21, q22, q23, q24, q25, q26, q27, q28, q29] at t
          exact t
      refine ⟨?_, ?_⟩
      · simp only [G_nil, G_bin, G_cmp, G_not, G_conv, G_eqs, G_call, G_cond, G_need, G_idx, G_sel, G_upd, G_shv, G_beq, G_prim, G_byte, G_cut, G_cat, List.map_cons, List.map_nil, Ref.den]
        refine ⟨?_, ?_, ?_, ?_, ?_, ?_, trivial⟩
        · exact trivial
        · exact b2i_cond q31 (by simp only [Bool.not_true, decide_true, decide_false, Bool.and_true, Bool.true_and, Bool.and_false, Bool.false_and, Bool.or_true, Bool.true_or, Bool.or_false, Bool.false_or, Bool.not_true, Bool.not_false, if_true, if_false, Bool.false_eq_true])
        · exact trivial
        · exact b2i_cond q32 (by simp only [c1, decide_true, decide_false, Bool.and_true, Bool.true_and, Bool.and_false, Bool.false_and, Bool.or_true, Bool.true_or, Bool.or_false, Bool.false_or, Bool.not_true, Bool.not_false, if_true, if_false, Bool.false_eq_true])
        · exact trivial
        · exact b2i_cond q33 (by simp only [c3, decide_true, decide_false, Bool.and_true, Bool.true_and, Bool.and_false, Bool.false_and, Bool.or_true, Bool.true_or, Bool.or_false, Bool.false_or, Bool.not_true, Bool.not_false, if_true, if_false, Bool.false_eq_true])
      · rfl
  · refine Go.Sx.Way.of (dec := [false, true]) (fs := [.need 40 [], .call 30 40 [] 1, .not 31 (.v 30), .cond 31 false, .need 13 [[.v 0, .v 1, .v 2, .v 3, .v 4, .v 5, .v 6, .v 7, .v 8, .v 9, .v 10, .v 11, .v 12, .v 13, .v 14]], .call 32 13 [[.v 0, .v 1, .v 2, .v 3, .v 4, .v 5, .v 6, .v 7, .v 8, .v 9, .v 10, .v 11, .v 12, .v 13, .v 14]] 1, .cond 32 true]) (refs := [.l 1]) (by kernel_rfl) fun ρ hρ hd => ?_
    simp only [D_nil, D_add, D_sub, D_mul, D_and, D_or, D_xor, D_shl, D_shr, D_andNot, D_quo, D_rem, D_add_i64, D_sub_i64, D_mul_i64, D_add_u32, D_sub_u32, D_mul_u32, D_add_u8, D_sub_u8, D_mul_u8, D_eql, D_neq, D_lss, D_leq, D_gtr, D_geq, D_not, D_conv, D_eqs, D_call, D_cond, D_need, D_idx, D_sel, D_upd, D_shv, D_beq, D_len, D_byte, D_cut, D_cat, D_must, List.map_cons, List.map_nil, Ref.den] at hd
    obtain ⟨f30, f31, f32, -⟩ := hd
    have q0 : ρ 0 = a0 := hρ 0 (by decide)
    have q1 : ρ 1 = a1 := hρ 1 (by decide)
    have q2 : ρ 2 = a2 := hρ 2 (by decide)
    have q3 : ρ 3 = a3 := hρ 3 (by decide)
    have q4 : ρ 4 = a4 := hρ 4 (by decide)
    have q5 : ρ 5 = a5 := hρ 5 (by decide)
    have q6 : ρ 6 = a6 := hρ 6 (by decide)
    have q7 : ρ 7 = a7 := hρ 7 (by decide)
    have q8 : ρ 8 = a8 := hρ 8 (by decide)
    have q9 : ρ 9 = a9 := hρ 9 (by decide)
    have q10 : ρ 10 = a10 := hρ 10 (by decide)
    have q11 : ρ 11 = a11 := hρ 11 (by decide)
    have q12 : ρ 12 = a12 := hρ 12 (by decide)
    have q13 : ρ 13 = a13 := hρ 13 (by decide)
    have q14 : ρ 14 = a14 := hρ 14 (by decide)
    have q30 : ρ 30 = (b2i (true)) := by
        have t := f30 0 (by decide)
        exact t
    have q31 : ρ 31 = (b2i (!true)) := b2i_not f31 q30
    have q32 : ρ 32 = (b2i (longE [a0, a1, a2, a3, a4, a5, a6, a7, a8, a9, a10, a11, a12, a13, a14])) := by
        have t := f32 0 (by decide)
        simp only [q0, q1, q2, q3, q4, q5, q6, q7, q8, q9, q10, q11, q12, q13, q14] at t
        exact t
    refine ⟨?_, ?_⟩
    · simp only [G_nil, G_bin, G_cmp, G_not, G_conv, G_eqs, G_call, G_cond, G_need, G_idx, G_sel, G_upd, G_shv, G_beq, G_prim, G_byte, G_cut, G_cat, List.map_cons, List.map_nil, Ref.den]
      refine ⟨?_, ?_, ?_, ?_, trivial⟩
      · exact trivial
      · exact b2i_cond q31 (by simp only [Bool.not_true, decide_true, decide_false, Bool.and_true, Bool.true_and, Bool.and_false, Bool.false_and, Bool.or_true, Bool.true_or, Bool.or_false, Bool.false_or, Bool.not_true, Bool.not_false, if_true, if_false, Bool.false_eq_true])
      · exact trivial
      · exact b2i_cond q32 (by simp only [c1, decide_true, decide_false, Bool.and_true, Bool.true_and, Bool.and_false, Bool.false_and, Bool.or_true, Bool.true_or, Bool.or_false, Bool.false_or, Bool.not_true, Bool.not_false, if_true, if_false, Bool.false_eq_true])
    · rfl
namespace opSeen
theorem walk (W : World) (v0 : Value) (x0 : List Int) (h0 : ArgIs W ED v0 x0) (v1 : Value) (x1 : List Int) (h1 : ArgIs W ED v1 x1) : Calls Try.prog 7 #[v0, v1] W fun e w' => e = .returned (.bool true) ∧ Below W.heap.size W w' :=
  okOpSeen.calls (fn := Try.f7) (body := (Try.f7).body.getD .skip) (by kernel_rfl) (by kernel_rfl) (by kernel_rfl) rfl (xs := [x0, x1]) rfl trivial (vs := [v0, v1]) ⟨h0, h1, trivial⟩
end opSeen
end Go.Proofs.Ytbhflfdlkiihgaa
