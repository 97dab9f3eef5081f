/- The statement OpBack: the law's walk, by the reckoning. No condition. -/
import Derived.Test.YtbhflfdlkiihgaaOk6
namespace Go.Proofs.Ytbhflfdlkiihgaa
open Go.RowKit Go.Bx Go.Sx
set_option linter.unusedSimpArgs false
set_option linter.unusedVariables false
def cOpBack : Ctr := ⟨5, 41, [ED, ED, .int .i64], [.bool]⟩
set_option maxHeartbeats 1600000 in
theorem okOpBack : CtrOK Try.prog ofns cOpBack := by
  refine CtrOK.of okOT6 mixed (lf := 300) (d := 5) rfl fun w vs xs ha hp => ?_
  obtain ⟨v0, v1, v2, x0, x1, x2, rfl, rfl, h0, h1, ⟨y0, rfl, rfl, hy⟩⟩ := open3 ha
  obtain ⟨hl0, rfl, hg0⟩ := h0
  obtain ⟨a0, a1, a2, a3, a4, a5, a6, a7, a8, a9, a10, a11, a12, a13, a14, rfl⟩ := len15 hl0
  obtain ⟨-, -, -, -, -, -, -, -, -, -, -, ⟨z0c, -⟩, ⟨z0f, -⟩, ⟨z0v, -⟩, -, -⟩ := hg0
  have z0c : 0 ≤ a11 := z0c
  have z0f : 0 ≤ a12 := z0f
  have z0v : 0 ≤ a13 := z0v
  obtain ⟨hl1, rfl, hg1⟩ := h1
  obtain ⟨b0, b1, b2, b3, b4, b5, b6, b7, b8, b9, b10, b11, b12, b13, b14, rfl⟩ := len15 hl1
  obtain ⟨-, -, -, -, -, -, -, -, -, -, -, ⟨z1c, -⟩, ⟨z1f, -⟩, ⟨z1v, -⟩, -, -⟩ := hg1
  have z1c : 0 ≤ b11 := z1c
  have z1f : 0 ≤ b12 := z1f
  have z1v : 0 ≤ b13 := z1v
  cases c1 : longE [a0, a1, a2, a3, a4, a5, a6, a7, a8, a9, a10, a11, a12, a13, a14]
  · have n0 := long_not c1
    have m0 : (decZ a11).length ≤ 1000 ∧ (decZ a12).length ≤ 1000 ∧ (decZ a13).length ≤ 1000 := ⟨by omega, by omega, by omega⟩
    cases c3 : longE [b0, b1, b2, b3, b4, b5, b6, b7, b8, b9, b10, b11, b12, b13, b14]
    · have n1 := long_not c3
      have m1 : (decZ b11).length ≤ 1000 ∧ (decZ b12).length ≤ 1000 ∧ (decZ b13).length ≤ 1000 := ⟨by omega, by omega, by omega⟩
      cases c5 : goodE [a0, a1, a2, a3, a4, a5, a6, a7, a8, a9, a10, a11, a12, a13, a14]
      · refine Go.Sx.Way.of (dec := [false, false, false, true]) (fs := [.need 40 [], .call 31 40 [] 1, .not 32 (.v 31), .cond 32 false, .need 13 [[.v 0, .v 1, .v 2, .v 3, .v 4, .v 5, .v 6, .v 7, .v 8, .v 9, .v 10, .v 11, .v 12, .v 13, .v 14]], .call 33 13 [[.v 0, .v 1, .v 2, .v 3, .v 4, .v 5, .v 6, .v 7, .v 8, .v 9, .v 10, .v 11, .v 12, .v 13, .v 14]] 1, .cond 33 false, .need 13 [[.v 15, .v 16, .v 17, .v 18, .v 19, .v 20, .v 21, .v 22, .v 23, .v 24, .v 25, .v 26, .v 27, .v 28, .v 29]], .call 34 13 [[.v 15, .v 16, .v 17, .v 18, .v 19, .v 20, .v 21, .v 22, .v 23, .v 24, .v 25, .v 26, .v 27, .v 28, .v 29]] 1, .cond 34 false, .need 10 [[.v 0, .v 1, .v 2, .v 3, .v 4, .v 5, .v 6, .v 7, .v 8, .v 9, .v 10, .v 11, .v 12, .v 13, .v 14]], .call 35 10 [[.v 0, .v 1, .v 2, .v 3, .v 4, .v 5, .v 6, .v 7, .v 8, .v 9, .v 10, .v 11, .v 12, .v 13, .v 14]] 1, .not 36 (.v 35), .cond 36 true]) (refs := [.l 1]) (by kernel_rfl) fun ρ hρ hd => ?_
        simp only [D_nil, D_add, D_sub, D_mul, D_and, D_or, D_xor, D_shl, D_shr, D_andNot, D_quo, D_rem, D_add_i64, D_sub_i64, D_mul_i64, D_add_u32, D_sub_u32, D_mul_u32, D_add_u8, D_sub_u8, D_mul_u8, D_eql, D_neq, D_lss, D_leq, D_gtr, D_geq, D_not, D_conv, D_eqs, D_call, D_cond, D_need, D_idx, D_sel, D_upd, D_shv, D_beq, D_len, D_byte, D_cut, D_cat, D_must, List.map_cons, List.map_nil, Ref.den] at hd
        obtain ⟨f31, f32, f33, f34, f35, f36, -⟩ := hd
        have q0 : ρ 0 = a0 := hρ 0 (by decide)
        have q1 : ρ 1 = a1 := hρ 1 (by decide)
        have q2 : ρ 2 = a2 := hρ 2 (by decide)
        have q3 : ρ 3 = a3 := hρ 3 (by decide)
        have q4 : ρ 4 = a4 := hρ 4 (by decide)
        have q5 : ρ 5 = a5 := hρ 5 (by decide)
        have q6 : ρ 6 = a6 := hρ 6 (by decide)
        have q7 : ρ 7 = a7 := hρ 7 (by decide)
        have q8 : ρ 8 = a8 := hρ 8 (by decide)
        have q9 : ρ 9 = a9 := hρ 9 (by decide)
        have q10 : ρ 10 = a10 := hρ 10 (by decide)
        have q11 : ρ 11 = a11 := hρ 11 (by decide)
        have q12 : ρ 12 = a12 := hρ 12 (by decide)
        have q13 : ρ 13 = a13 := hρ 13 (by decide)
        have q14 : ρ 14 = a14 := hρ 14 (by decide)
        have q15 : ρ 15 = b0 := hρ 15 (by decide)
        have q16 : ρ 16 = b1 := hρ 16 (by decide)
        have q17 : ρ 17 = b2 := hρ 17 (by decide)
        have q18 : ρ 18 = b3 := hρ 18 (by decide)
        have q19 : ρ 19 = b4 := hρ 19 (by decide)
        have q20 : ρ 20 = b5 := hρ 20 (by decide)
        have q21 : ρ 21 = b6 := hρ 21 (by decide)
        have q22 : ρ 22 = b7 := hρ 22 (by decide)
        have q23 : ρ 23 = b8 := hρ 23 (by decide)
        have q24 : ρ 24 = b9 := hρ 24 (by decide)
        have q25 : ρ 25 = b10 := hρ 25 (by decide)
        have q26 : ρ 26 = b11 := hρ 26 (by decide)
        have q27 : ρ 27 = b12 := hρ 27 (by decide)
        have q28 : ρ 28 = b13 := hρ 28 (by decide)
        have q29 : ρ 29 = b14 := hρ 29 (by decide)
        have q31 : ρ 31 = (b2i (true)) := by
            have t := f31 0 (by decide)
            exact t
        have q32 : ρ 32 = (b2i (!true)) := b2i_not f32 q31
        have q33 : ρ 33 = (b2i (longE [a0, a1, a2, a3, a4, a5, a6, a7, a8, a9, a10, a11, a12, a13, a14])) := by
            have t := f33 0 (by decide)
            simp only [q0, q1, q2, q3, q4, q5, q6, q7, q8, q9, q10, q11, q12, q13, q14] at t
            exact t
        have q34 : ρ 34 = (b2i (longE [b0, b1, b2, b3, b4, b5, b6, b7, b8, b9, b10, b11, b12, b13, b14])) := by
            have t := f34 0 (by decide)
            simp only [q15, q16, q17, q18, q19, q20, q21, q22, q23, q24, q25, q26, q27, q28, q29] at t
            exact t
        have q35 : ρ 35 = (b2i (goodE [a0, a1, a2, a3, a4, a5, a6, a7, a8, a9, a10, a11, a12, a13, a14])) := by
            have t := f35 0 (by decide)
            simp only [q0, q1, q2, q3, q4, q5, q6, q7, q8, q9, q10, q11, q12, q13, q14] at t
            exact t
        have q36 : ρ 36 = (b2i (!(goodE [a0, a1, a2, a3, a4, a5, a6, a7, a8, a9, a10, a11, a12, a13, a14]))) := b2i_not f36 q35
        refine ⟨?_, ?_⟩
        · simp only [G_nil, G_bin, G_cmp, G_not, G_conv, G_eqs, G_call, G_cond, G_need, G_idx, G_sel, G_upd, G_shv, G_beq, G_prim, G_byte, G_cut, G_cat, List.map_cons, List.map_nil, Ref.den]
          refine ⟨?_, ?_, ?_, ?_, ?_, ?_, ?_, ?_, trivial⟩
          · exact trivial
          · exact b2i_cond q32 (by simp only [Bool.not_true, decide_true, decide_false, Bool.and_true, Bool.true_and, Bool.and_false, Bool.false_and, Bool.or_true, Bool.true_or, Bool.or_false, Bool.false_or, Bool.not_true, Bool.not_false, if_true, if_false, Bool.false_eq_true])
          · exact trivial
          · exact b2i_cond q33 (by simp only [c1, decide_true, decide_false, Bool.and_true, Bool.true_and, Bool.and_false, Bool.false_and, Bool.or_true, Bool.true_or, Bool.or_false, Bool.false_or, Bool.not_true, Bool.not_false, if_true, if_false, Bool.false_eq_true])
          · exact trivial
          · exact b2i_cond q34 (by simp only [c3, decide_true, decide_false, Bool.and_true, Bool.true_and, Bool.and_false, Bool.false_and, Bool.or_true, Bool.true_or, Bool.or_false, Bool.false_or, Bool.not_true, Bool.not_false, if_true, if_false, Bool.false_eq_true])
          · exact by show (decZ (ρ 11)).length ≤ 1000 ∧ (decZ (ρ 12)).length ≤ 1000 ∧ (decZ (ρ 13)).length ≤ 1000; rw [q11, q12, q13]; exact m0
          · exact b2i_cond q36 (by simp only [c5, decide_true, decide_false, Bool.and_true, Bool.true_and, Bool.and_false, Bool.false_and, Bool.or_true, Bool.true_or, Bool.or_false, Bool.false_or, Bool.not_true, Bool.not_false, if_true, if_false, Bool.false_eq_true])
        · rfl
      · have hGp : ofns.g 15 [[codZ (putE [a0, a1, a2, a3, a4, a5, a6, a7, a8, a9, a10, a11, a12, a13, a14])]] = [a0, a1, a2, a3, a4, a5, a6, a7, a8, a9, a10, a11, a12, a13, a14, 0] := by rw [g15, decZ_codZ]; exact get_put 0 3 c5 (by decide) (by decide) z0c z0f z0v
        have hpl : (putE [a0, a1, a2, a3, a4, a5, a6, a7, a8, a9, a10, a11, a12, a13, a14]).length ≤ 1000 := put_len n0
        have kE : decide ([a0, a1, a2, a3, a4, a5, a6, a7, a8, a9, a10, a11, a12, a13, a14] = [a0, a1, a2, a3, a4, a5, a6, a7, a8, a9, a10, a11, a12, a13, a14]) = true := decide_eq_true rfl
        cases c7 : goodE [b0, b1, b2, b3, b4, b5, b6, b7, b8, b9, b10, b11, b12, b13, b14]
        · cases c8 : decide (y0 < 0)
          · cases c9 : decide (((decZ (codZ (putE [a0, a1, a2, a3, a4, a5, a6, a7, a8, a9, a10, a11, a12, a13, a14]))).length : Int) ≤ y0)
            · have u0 := of_decide_eq_false c8
              have u1 := of_decide_eq_false c9
              have u2 := u1
              rw [decZ_codZ] at u2
              have hGc : ofns.g 15 [[(codZ (((decZ (codZ (putE [a0, a1, a2, a3, a4, a5, a6, a7, a8, a9, a10, a11, a12, a13, a14]))).drop (0 : Int).toNat).take ((y0).toNat - (0 : Int).toNat)))]] = [0, 0, 0, 0, 0, 0, 0, 0, 0, 0, 0, 0, 0, 0, 0, 3] := by
                rw [g15, decZ_codZ, decZ_codZ, show (0 : Int).toNat = 0 from rfl, List.drop_zero, Nat.sub_zero]
                exact get_cut 0 3 c5 (by decide) (by decide) z0c z0f z0v (by omega)
              refine Go.Sx.Way.of (dec := [false, false, false, false, false, false, false, false, false]) (fs := [.need 40 [], .call 31 40 [] 1, .not 32 (.v 31), .cond 32 false, .need 13 [[.v 0, .v 1, .v 2, .v 3, .v 4, .v 5, .v 6, .v 7, .v 8, .v 9, .v 10, .v 11, .v 12, .v 13, .v 14]], .call 33 13 [[.v 0, .v 1, .v 2, .v 3, .v 4, .v 5, .v 6, .v 7, .v 8, .v 9, .v 10, .v 11, .v 12, .v 13, .v 14]] 1, .cond 33 false, .need 13 [[.v 15, .v 16, .v 17, .v 18, .v 19, .v 20, .v 21, .v 22, .v 23, .v 24, .v 25, .v 26, .v 27, .v 28, .v 29]], .call 34 13 [[.v 15, .v 16, .v 17, .v 18, .v 19, .v 20, .v 21, .v 22, .v 23, .v 24, .v 25, .v 26, .v 27, .v 28, .v 29]] 1, .cond 34 false, .need 10 [[.v 0, .v 1, .v 2, .v 3, .v 4, .v 5, .v 6, .v 7, .v 8, .v 9, .v 10, .v 11, .v 12, .v 13, .v 14]], .call 35 10 [[.v 0, .v 1, .v 2, .v 3, .v 4, .v 5, .v 6, .v 7, .v 8, .v 9, .v 10, .v 11, .v 12, .v 13, .v 14]] 1, .not 36 (.v 35), .cond 36 false, .need 14 [[.v 0, .v 1, .v 2, .v 3, .v 4, .v 5, .v 6, .v 7, .v 8, .v 9, .v 10, .v 11, .v 12, .v 13, .v 14]], .call 37 14 [[.v 0, .v 1, .v 2, .v 3, .v 4, .v 5, .v 6, .v 7, .v 8, .v 9, .v 10, .v 11, .v 12, .v 13, .v 14]] 1, .need 15 [[.v 37]], .call 38 15 [[.v 37]] 16, .cmp 54 .neq (.v 53) (.l 0), .cond 54 false, .eqs 55 [(.v 38, .v 0), (.v 39, .v 1), (.v 40, .v 2), (.v 41, .v 3), (.v 42, .v 4), (.v 43, .v 5), (.v 44, .v 6), (.v 45, .v 7), (.v 46, .v 8), (.v 47, .v 9), (.v 48, .v 10), (.v 49, .v 11), (.v 50, .v 12), (.v 51, .v 13), (.v 52, .v 14)], .not 56 (.v 55), .cond 56 false, .need 10 [[.v 15, .v 16, .v 17, .v 18, .v 19, .v 20, .v 21, .v 22, .v 23, .v 24, .v 25, .v 26, .v 27, .v 28, .v 29]], .call 57 10 [[.v 15, .v 16, .v 17, .v 18, .v 19, .v 20, .v 21, .v 22, .v 23, .v 24, .v 25, .v 26, .v 27, .v 28, .v 29]] 1, .cond 57 false, .cmp 58 .lss (.v 30) (.l 0), .cond 58 false, .prim 59 0 [.v 37], .cmp 60 .geq (.v 30) (.v 59), .cond 60 false, .must 1 [.v 37, .l 0, .v 30], .prim 61 2 [.v 37, .l 0, .v 30], .need 15 [[.v 61]], .call 62 15 [[.v 61]] 16, .cmp 78 .eql (.v 77) (.l 3)]) (refs := [.v 78]) (by kernel_rfl) fun ρ hρ hd => ?_
              simp only [D_nil, D_add, D_sub, D_mul, D_and, D_or, D_xor, D_shl, D_shr, D_andNot, D_quo, D_rem, D_add_i64, D_sub_i64, D_mul_i64, D_add_u32, D_sub_u32, D_mul_u32, D_add_u8, D_sub_u8, D_mul_u8, D_eql, D_neq, D_lss, D_leq, D_gtr, D_geq, D_not, D_conv, D_eqs, D_call, D_cond, D_need, D_idx, D_sel, D_upd, D_shv, D_beq, D_len, D_byte, D_cut, D_cat, D_must, List.map_cons, List.map_nil, Ref.den] at hd
              obtain ⟨f31, f32, f33, f34, f35, f36, f37, f38, f54, f55, f56, f57, f58, f59, f60, f61, f62, f78, -⟩ := hd
              have q0 : ρ 0 = a0 := hρ 0 (by decide)
              have q1 : ρ 1 = a1 := hρ 1 (by decide)
              have q2 : ρ 2 = a2 := hρ 2 (by decide)
              have q3 : ρ 3 = a3 := hρ 3 (by decide)
              have q4 : ρ 4 = a4 := hρ 4 (by decide)
              have q5 : ρ 5 = a5 := hρ 5 (by decide)
              have q6 : ρ 6 = a6 := hρ 6 (by decide)
              have q7 : ρ 7 = a7 := hρ 7 (by decide)
              have q8 : ρ 8 = a8 := hρ 8 (by decide)
              have q9 : ρ 9 = a9 := hρ 9 (by decide)
              have q10 : ρ 10 = a10 := hρ 10 (by decide)
              have q11 : ρ 11 = a11 := hρ 11 (by decide)
              have q12 : ρ 12 = a12 := hρ 12 (by decide)
              have q13 : ρ 13 = a13 := hρ 13 (by decide)
              have q14 : ρ 14 = a14 := hρ 14 (by decide)
              have q15 : ρ 15 = b0 := hρ 15 (by decide)
              have q16 : ρ 16 = b1 := hρ 16 (by decide)
              have q17 : ρ 17 = b2 := hρ 17 (by decide)
              have q18 : ρ 18 = b3 := hρ 18 (by decide)
              have q19 : ρ 19 = b4 := hρ 19 (by decide)
              have q20 : ρ 20 = b5 := hρ 20 (by decide)
              have q21 : ρ 21 = b6 := hρ 21 (by decide)
              have q22 : ρ 22 = b7 := hρ 22 (by decide)
              have q23 : ρ 23 = b8 := hρ 23 (by decide)
              have q24 : ρ 24 = b9 := hρ 24 (by decide)
              have q25 : ρ 25 = b10 := hρ 25 (by decide)
              have q26 : ρ 26 = b11 := hρ 26 (by decide)
              have q27 : ρ 27 = b12 := hρ 27 (by decide)
              have q28 : ρ 28 = b13 := hρ 28 (by decide)
              have q29 : ρ 29 = b14 := hρ 29 (by decide)
              have q30 : ρ 30 = y0 := hρ 30 (by decide)
              have q31 : ρ 31 = (b2i (true)) := by
                  have t := f31 0 (by decide)
                  exact t
              have q32 : ρ 32 = (b2i (!true)) := b2i_not f32 q31
              have q33 : ρ 33 = (b2i (longE [a0, a1, a2, a3, a4, a5, a6, a7, a8, a9, a10, a11, a12, a13, a14])) := by
                  have t := f33 0 (by decide)
                  simp only [q0, q1, q2, q3, q4, q5, q6, q7, q8, q9, q10, q11, q12, q13, q14] at t
                  exact t
              have q34 : ρ 34 = (b2i (longE [b0, b1, b2, b3, b4, b5, b6, b7, b8, b9, b10, b11, b12, b13, b14])) := by
                  have t := f34 0 (by decide)
                  simp only [q15, q16, q17, q18, q19, q20, q21, q22, q23, q24, q25, q26, q27, q28, q29] at t
                  exact t
              have q35 : ρ 35 = (b2i (goodE [a0, a1, a2, a3, a4, a5, a6, a7, a8, a9, a10, a11, a12, a13, a14])) := by
                  have t := f35 0 (by decide)
                  simp only [q0, q1, q2, q3, q4, q5, q6, q7, q8, q9, q10, q11, q12, q13, q14] at t
                  exact t
              have q36 : ρ 36 = (b2i (!(goodE [a0, a1, a2, a3, a4, a5, a6, a7, a8, a9, a10, a11, a12, a13, a14]))) := b2i_not f36 q35
              have q37 : ρ 37 = (codZ (putE [a0, a1, a2, a3, a4, a5, a6, a7, a8, a9, a10, a11, a12, a13, a14])) := by
                  have t := f37 0 (by decide)
                  simp only [q0, q1, q2, q3, q4, q5, q6, q7, q8, q9, q10, q11, q12, q13, q14] at t
                  exact t
              have q38 : ρ 38 = a0 := by
                  have t := f38 0 (by decide)
                  simp only [q37, hGp] at t
                  exact t
              have q39 : ρ 39 = a1 := by
                  have t := f38 1 (by decide)
                  simp only [q37, hGp] at t
                  exact t
              have q40 : ρ 40 = a2 := by
                  have t := f38 2 (by decide)
                  simp only [q37, hGp] at t
                  exact t
              have q41 : ρ 41 = a3 := by
                  have t := f38 3 (by decide)
                  simp only [q37, hGp] at t
                  exact t
              have q42 : ρ 42 = a4 := by
                  have t := f38 4 (by decide)
                  simp only [q37, hGp] at t
                  exact t
              have q43 : ρ 43 = a5 := by
                  have t := f38 5 (by decide)
                  simp only [q37, hGp] at t
                  exact t
              have q44 : ρ 44 = a6 := by
                  have t := f38 6 (by decide)
                  simp only [q37, hGp] at t
                  exact t
              have q45 : ρ 45 = a7 := by
                  have t := f38 7 (by decide)
                  simp only [q37, hGp] at t
                  exact t
              have q46 : ρ 46 = a8 := by
                  have t := f38 8 (by decide)
                  simp only [q37, hGp] at t
                  exact t
              have q47 : ρ 47 = a9 := by
                  have t := f38 9 (by decide)
                  simp only [q37, hGp] at t
                  exact t
              have q48 : ρ 48 = a10 := by
                  have t := f38 10 (by decide)
                  simp only [q37, hGp] at t
                  exact t
              have q49 : ρ 49 = a11 := by
                  have t := f38 11 (by decide)
                  simp only [q37, hGp] at t
                  exact t
              have q50 : ρ 50 = a12 := by
                  have t := f38 12 (by decide)
                  simp only [q37, hGp] at t
                  exact t
              have q51 : ρ 51 = a13 := by
                  have t := f38 13 (by decide)
                  simp only [q37, hGp] at t
                  exact t
              have q52 : ρ 52 = a14 := by
                  have t := f38 14 (by decide)
                  simp only [q37, hGp] at t
                  exact t
              have q53 : ρ 53 = 0 := by
                  have t := f38 15 (by decide)
                  simp only [q37, hGp] at t
                  exact t
              have q54 : ρ 54 = (b2i (decide ((0 : Int) ≠ 0))) := b2i_dec f54 (by simp only [q53])
              have q55 : ρ 55 = (b2i (decide ([a0, a1, a2, a3, a4, a5, a6, a7, a8, a9, a10, a11, a12, a13, a14] = [a0, a1, a2, a3, a4, a5, a6, a7, a8, a9, a10, a11, a12, a13, a14]))) := b2i_eqs (l := [a0, a1, a2, a3, a4, a5, a6, a7, a8, a9, a10, a11, a12, a13, a14]) (m := [a0, a1, a2, a3, a4, a5, a6, a7, a8, a9, a10, a11, a12, a13, a14]) f55 (by simp only [List.map_cons, List.map_nil, Ref.den, q38, q0, q39, q1, q40, q2, q41, q3, q42, q4, q43, q5, q44, q6, q45, q7, q46, q8, q47, q9, q48, q10, q49, q11, q50, q12, q51, q13, q52, q14]) (by simp only [List.map_cons, List.map_nil, Ref.den, q38, q0, q39, q1, q40, q2, q41, q3, q42, q4, q43, q5, q44, q6, q45, q7, q46, q8, q47, q9, q48, q10, q49, q11, q50, q12, q51, q13, q52, q14])
              have q56 : ρ 56 = (b2i (!(decide ([a0, a1, a2, a3, a4, a5, a6, a7, a8, a9, a10, a11, a12, a13, a14] = [a0, a1, a2, a3, a4, a5, a6, a7, a8, a9, a10, a11, a12, a13, a14])))) := b2i_not f56 q55
              have q57 : ρ 57 = (b2i (goodE [b0, b1, b2, b3, b4, b5, b6, b7, b8, b9, b10, b11, b12, b13, b14])) := by
                  have t := f57 0 (by decide)
                  simp only [q15, q16, q17, q18, q19, q20, q21, q22, q23, q24, q25, q26, q27, q28, q29] at t
                  exact t
              have q58 : ρ 58 = (b2i (decide (y0 < 0))) := b2i_dec f58 (by simp only [q30])
              have q59 : ρ 59 = ((decZ (codZ (putE [a0, a1, a2, a3, a4, a5, a6, a7, a8, a9, a10, a11, a12, a13, a14]))).length : Int) := by rw [f59, q37]
              have q60 : ρ 60 = (b2i (decide (((decZ (codZ (putE [a0, a1, a2, a3, a4, a5, a6, a7, a8, a9, a10, a11, a12, a13, a14]))).length : Int) ≤ y0))) := b2i_dec f60 (by simp only [q30, q59])
              have q61 : ρ 61 = (codZ (((decZ (codZ (putE [a0, a1, a2, a3, a4, a5, a6, a7, a8, a9, a10, a11, a12, a13, a14]))).drop (0 : Int).toNat).take ((y0).toNat - (0 : Int).toNat))) := by rw [f61, q37, q30]
              have q62 : ρ 62 = 0 := by
                  have t := f62 0 (by decide)
                  simp only [q61, hGc] at t
                  exact t
              have q63 : ρ 63 = 0 := by
                  have t := f62 1 (by decide)
                  simp only [q61, hGc] at t
                  exact t
              have q64 : ρ 64 = 0 := by
                  have t := f62 2 (by decide)
                  simp only [q61, hGc] at t
                  exact t
              have q65 : ρ 65 = 0 := by
                  have t := f62 3 (by decide)
                  simp only [q61, hGc] at t
                  exact t
              have q66 : ρ 66 = 0 := by
                  have t := f62 4 (by decide)
                  simp only [q61, hGc] at t
                  exact t
              have q67 : ρ 67 = 0 := by
                  have t := f62 5 (by decide)
                  simp only [q61, hGc] at t
                  exact t
              have q68 : ρ 68 = 0 := by
                  have t := f62 6 (by decide)
                  simp only [q61, hGc] at t
                  exact t
              have q69 : ρ 69 = 0 := by
                  have t := f62 7 (by decide)
                  simp only [q61, hGc] at t
                  exact t
              have q70 : ρ 70 = 0 := by
                  have t := f62 8 (by decide)
                  simp only [q61, hGc] at t
                  exact t
              have q71 : ρ 71 = 0 := by
                  have t := f62 9 (by decide)
                  simp only [q61, hGc] at t
                  exact t
              have q72 : ρ 72 = 0 := by
                  have t := f62 10 (by decide)
                  simp only [q61, hGc] at t
                  exact t
              have q73 : ρ 73 = 0 := by
                  have t := f62 11 (by decide)
                  simp only [q61, hGc] at t
                  exact t
              have q74 : ρ 74 = 0 := by
                  have t := f62 12 (by decide)
                  simp only [q61, hGc] at t
                  exact t
              have q75 : ρ 75 = 0 := by
                  have t := f62 13 (by decide)
                  simp only [q61, hGc] at t
                  exact t
              have q76 : ρ 76 = 0 := by
                  have t := f62 14 (by decide)
                  simp only [q61, hGc] at t
                  exact t
              have q77 : ρ 77 = 3 := by
                  have t := f62 15 (by decide)
                  simp only [q61, hGc] at t
                  exact t
              have q78 : ρ 78 = (b2i (decide ((3 : Int) = 3))) := b2i_dec f78 (by simp only [q77])
              refine ⟨?_, ?_⟩
              · simp only [G_nil, G_bin, G_cmp, G_not, G_conv, G_eqs, G_call, G_cond, G_need, G_idx, G_sel, G_upd, G_shv, G_beq, G_prim, G_byte, G_cut, G_cat, List.map_cons, List.map_nil, Ref.den]
                refine ⟨?_, ?_, ?_, ?_, ?_, ?_, ?_, ?_, ?_, ?_, ?_, ?_, ?_, ?_, ?_, ?_, ?_, ?_, trivial⟩
                · exact trivial
                · exact b2i_cond q32 (by simp only [Bool.not_true, decide_true, decide_false, Bool.and_true, Bool.true_and, Bool.and_false, Bool.false_and, Bool.or_true, Bool.true_or, Bool.or_false, Bool.false_or, Bool.not_true, Bool.not_false, if_true, if_false, Bool.false_eq_true])
                · exact trivial
                · exact b2i_cond q33 (by simp only [c1, decide_true, decide_false, Bool.and_true, Bool.true_and, Bool.and_false, Bool.false_and, Bool.or_true, Bool.true_or, Bool.or_false, Bool.false_or, Bool.not_true, Bool.not_false, if_true, if_false, Bool.false_eq_true])
                · exact trivial
                · exact b2i_cond q34 (by simp only [c3, decide_true, decide_false, Bool.and_true, Bool.true_and, Bool.and_false, Bool.false_and, Bool.or_true, Bool.true_or, Bool.or_false, Bool.false_or, Bool.not_true, Bool.not_false, if_true, if_false, Bool.false_eq_true])
                · exact by show (decZ (ρ 11)).length ≤ 1000 ∧ (decZ (ρ 12)).length ≤ 1000 ∧ (decZ (ρ 13)).length ≤ 1000; rw [q11, q12, q13]; exact m0
                · exact b2i_cond q36 (by simp only [c5, decide_true, decide_false, Bool.and_true, Bool.true_and, Bool.and_false, Bool.false_and, Bool.or_true, Bool.true_or, Bool.or_false, Bool.false_or, Bool.not_true, Bool.not_false, if_true, if_false, Bool.false_eq_true])
                · exact by show (decZ (ρ 11)).length ≤ 1000 ∧ (decZ (ρ 12)).length ≤ 1000 ∧ (decZ (ρ 13)).length ≤ 1000; rw [q11, q12, q13]; exact m0
                · exact by show (decZ (ρ 37)).length ≤ 1000; rw [q37, decZ_codZ]; exact hpl
                · exact b2i_cond q54 (by simp)
                · exact b2i_cond q56 (by simp only [kE, decide_true, decide_false, Bool.and_true, Bool.true_and, Bool.and_false, Bool.false_and, Bool.or_true, Bool.true_or, Bool.or_false, Bool.false_or, Bool.not_true, Bool.not_false, if_true, if_false, Bool.false_eq_true])
                · exact by show (decZ (ρ 26)).length ≤ 1000 ∧ (decZ (ρ 27)).length ≤ 1000 ∧ (decZ (ρ 28)).length ≤ 1000; rw [q26, q27, q28]; exact m1
                · exact b2i_cond q57 (by simp only [c7, decide_true, decide_false, Bool.and_true, Bool.true_and, Bool.and_false, Bool.false_and, Bool.or_true, Bool.true_or, Bool.or_false, Bool.false_or, Bool.not_true, Bool.not_false, if_true, if_false, Bool.false_eq_true])
                · exact b2i_cond q58 (by simp only [c8, decide_true, decide_false, Bool.and_true, Bool.true_and, Bool.and_false, Bool.false_and, Bool.or_true, Bool.true_or, Bool.or_false, Bool.false_or, Bool.not_true, Bool.not_false, if_true, if_false, Bool.false_eq_true])
                · exact b2i_cond q60 (by simp only [c9, decide_true, decide_false, Bool.and_true, Bool.true_and, Bool.and_false, Bool.false_and, Bool.or_true, Bool.true_or, Bool.or_false, Bool.false_or, Bool.not_true, Bool.not_false, if_true, if_false, Bool.false_eq_true])
                · exact by show (0 : Int) ≤ 0 ∧ (0 : Int) ≤ ρ 30 ∧ ρ 30 ≤ ((decZ (ρ 37)).length : Int); rw [q30, q37]; exact ⟨by omega, by omega, by omega⟩
                · exact by show (decZ (ρ 61)).length ≤ 1000; rw [q61, decZ_codZ]; exact Nat.le_trans (by simp only [List.length_take]; omega) hpl
              · show [ρ 78] = [1]
                rw [q78]
                exact congrArg (fun b => [b2i b]) (show (decide ((3 : Int) = 3)) = true by simp)
            · refine Go.Sx.Way.of (dec := [false, false, false, false, false, false, false, false, true]) (fs := [.need 40 [], .call 31 40 [] 1, .not 32 (.v 31), .cond 32 false, .need 13 [[.v 0, .v 1, .v 2, .v 3, .v 4, .v 5, .v 6, .v 7, .v 8, .v 9, .v 10, .v 11, .v 12, .v 13, .v 14]], .call 33 13 [[.v 0, .v 1, .v 2, .v 3, .v 4, .v 5, .v 6, .v 7, .v 8, .v 9, .v 10, .v 11, .v 12, .v 13, .v 14]] 1, .cond 33 false, .need 13 [[.v 15, .v 16, .v 17, .v 18, .v 19, .v 20, .v 21, .v 22, .v 23, .v 24, .v 25, .v 26, .v 27, .v 28, .v 29]], .call 34 13 [[.v 15, .v 16, .v 17, .v 18, .v 19, .v 20, .v 21, .v 22, .v 23, .v 24, .v 25, .v 26, .v 27, .v 28, .v 29]] 1, .cond 34 false, .need 10 [[.v 0, .v 1, .v 2, .v 3, .v 4, .v 5, .v 6, .v 7, .v 8, .v 9, .v 10, .v 11, .v 12, .v 13, .v 14]], .call 35 10 [[.v 0, .v 1, .v 2, .v 3, .v 4, .v 5, .v 6, .v 7, .v 8, .v 9, .v 10, .v 11, .v 12, .v 13, .v 14]] 1, .not 36 (.v 35), .cond 36 false, .need 14 [[.v 0, .v 1, .v 2, .v 3, .v 4, .v 5, .v 6, .v 7, .v 8, .v 9, .v 10, .v 11, .v 12, .v 13, .v 14]], .call 37 14 [[.v 0, .v 1, .v 2, .v 3, .v 4, .v 5, .v 6, .v 7, .v 8, .v 9, .v 10, .v 11, .v 12, .v 13, .v 14]] 1, .need 15 [[.v 37]], .call 38 15 [[.v 37]] 16, .cmp 54 .neq (.v 53) (.l 0), .cond 54 false, .eqs 55 [(.v 38, .v 0), (.v 39, .v 1), (.v 40, .v 2), (.v 41, .v 3), (.v 42, .v 4), (.v 43, .v 5), (.v 44, .v 6), (.v 45, .v 7), (.v 46, .v 8), (.v 47, .v 9), (.v 48, .v 10), (.v 49, .v 11), (.v 50, .v 12), (.v 51, .v 13), (.v 52, .v 14)], .not 56 (.v 55), .cond 56 false, .need 10 [[.v 15, .v 16, .v 17, .v 18, .v 19, .v 20, .v 21, .v 22, .v 23, .v 24, .v 25, .v 26, .v 27, .v 28, .v 29]], .call 57 10 [[.v 15, .v 16, .v 17, .v 18, .v 19, .v 20, .v 21, .v 22, .v 23, .v 24, .v 25, .v 26, .v 27, .v 28, .v 29]] 1, .cond 57 false, .cmp 58 .lss (.v 30) (.l 0), .cond 58 false, .prim 59 0 [.v 37], .cmp 60 .geq (.v 30) (.v 59), .cond 60 true]) (refs := [.l 1]) (by kernel_rfl) fun ρ hρ hd => ?_
              simp only [D_nil, D_add, D_sub, D_mul, D_and, D_or, D_xor, D_shl, D_shr, D_andNot, D_quo, D_rem, D_add_i64, D_sub_i64, D_mul_i64, D_add_u32, D_sub_u32, D_mul_u32, D_add_u8, D_sub_u8, D_mul_u8, D_eql, D_neq, D_lss, D_leq, D_gtr, D_geq, D_not, D_conv, D_eqs, D_call, D_cond, D_need, D_idx, D_sel, D_upd, D_shv, D_beq, D_len, D_byte, D_cut, D_cat, D_must, List.map_cons, List.map_nil, Ref.den] at hd
              obtain ⟨f31, f32, f33, f34, f35, f36, f37, f38, f54, f55, f56, f57, f58, f59, f60, -⟩ := hd
              have q0 : ρ 0 = a0 := hρ 0 (by decide)
              have q1 : ρ 1 = a1 := hρ 1 (by decide)
              have q2 : ρ 2 = a2 := hρ 2 (by decide)
              have q3 : ρ 3 = a3 := hρ 3 (by decide)
              have q4 : ρ 4 = a4 := hρ 4 (by decide)
              have q5 : ρ 5 = a5 := hρ 5 (by decide)
              have q6 : ρ 6 = a6 := hρ 6 (by decide)
              have q7 : ρ 7 = a7 := hρ 7 (by decide)
              have q8 : ρ 8 = a8 := hρ 8 (by decide)
              have q9 : ρ 9 = a9 := hρ 9 (by decide)
              have q10 : ρ 10 = a10 := hρ 10 (by decide)
              have q11 : ρ 11 = a11 := hρ 11 (by decide)
              have q12 : ρ 12 = a12 := hρ 12 (by decide)
              have q13 : ρ 13 = a13 := hρ 13 (by decide)
              have q14 : ρ 14 = a14 := hρ 14 (by decide)
              have q15 : ρ 15 = b0 := hρ 15 (by decide)
              have q16 : ρ 16 = b1 := hρ 16 (by decide)
              have q17 : ρ 17 = b2 := hρ 17 (by decide)
              have q18 : ρ 18 = b3 := hρ 18 (by decide)
              have q19 : ρ 19 = b4 := hρ 19 (by decide)
              have q20 : ρ 20 = b5 := hρ 20 (by decide)
              have q21 : ρ 21 = b6 := hρ 21 (by decide)
              have q22 : ρ 22 = b7 := hρ 22 (by decide)
              have q23 : ρ 23 = b8 := hρ 23 (by decide)
              have q24 : ρ 24 = b9 := hρ 24 (by decide)
              have q25 : ρ 25 = b10 := hρ 25 (by decide)
              have q26 : ρ 26 = b11 := hρ 26 (by decide)
              have q27 : ρ 27 = b12 := hρ 27 (by decide)
              have q28 : ρ 28 = b13 := hρ 28 (by decide)
              have q29 : ρ 29 = b14 := hρ 29 (by decide)
              have q30 : ρ 30 = y0 := hρ 30 (by decide)
              have q31 : ρ 31 = (b2i (true)) := by
                  have t := f31 0 (by decide)
                  exact t
              have q32 : ρ 32 = (b2i (!true)) := b2i_not f32 q31
              have q33 : ρ 33 = (b2i (longE [a0, a1, a2, a3, a4, a5, a6, a7, a8, a9, a10, a11, a12, a13, a14])) := by
                  have t := f33 0 (by decide)
                  simp only [q0, q1, q2, q3, q4, q5, q6, q7, q8, q9, q10, q11, q12, q13, q14] at t
                  exact t
              have q34 : ρ 34 = (b2i (longE [b0, b1, b2, b3, b4, b5, b6, b7, b8, b9, b10, b11, b12, b13, b14])) := by
                  have t := f34 0 (by decide)
                  simp only [q15, q16, q17, q18, q19, q20, q21, q22, q23, q24, q25, q26, q27, q28, q29] at t
                  exact t
              have q35 : ρ 35 = (b2i (goodE [a0, a1, a2, a3, a4, a5, a6, a7, a8, a9, a10, a11, a12, a13, a14])) := by
                  have t := f35 0 (by decide)
                  simp only [q0, q1, q2, q3, q4, q5, q6, q7, q8, q9, q10, q11, q12, q13, q14] at t
                  exact t
              have q36 : ρ 36 = (b2i (!(goodE [a0, a1, a2, a3, a4, a5, a6, a7, a8, a9, a10, a11, a12, a13, a14]))) := b2i_not f36 q35
              have q37 : ρ 37 = (codZ (putE [a0, a1, a2, a3, a4, a5, a6, a7, a8, a9, a10, a11, a12, a13, a14])) := by
                  have t := f37 0 (by decide)
                  simp only [q0, q1, q2, q3, q4, q5, q6, q7, q8, q9, q10, q11, q12, q13, q14] at t
                  exact t
              have q38 : ρ 38 = a0 := by
                  have t := f38 0 (by decide)
                  simp only [q37, hGp] at t
                  exact t
              have q39 : ρ 39 = a1 := by
                  have t := f38 1 (by decide)
                  simp only [q37, hGp] at t
                  exact t
              have q40 : ρ 40 = a2 := by
                  have t := f38 2 (by decide)
                  simp only [q37, hGp] at t
                  exact t
              have q41 : ρ 41 = a3 := by
                  have t := f38 3 (by decide)
                  simp only [q37, hGp] at t
                  exact t
              have q42 : ρ 42 = a4 := by
                  have t := f38 4 (by decide)
                  simp only [q37, hGp] at t
                  exact t
              have q43 : ρ 43 = a5 := by
                  have t := f38 5 (by decide)
                  simp only [q37, hGp] at t
                  exact t
              have q44 : ρ 44 = a6 := by
                  have t := f38 6 (by decide)
                  simp only [q37, hGp] at t
                  exact t
              have q45 : ρ 45 = a7 := by
                  have t := f38 7 (by decide)
                  simp only [q37, hGp] at t
                  exact t
              have q46 : ρ 46 = a8 := by
                  have t := f38 8 (by decide)
                  simp only [q37, hGp] at t
                  exact t
              have q47 : ρ 47 = a9 := by
                  have t := f38 9 (by decide)
                  simp only [q37, hGp] at t
                  exact t
              have q48 : ρ 48 = a10 := by
                  have t := f38 10 (by decide)
                  simp only [q37, hGp] at t
                  exact t
              have q49 : ρ 49 = a11 := by
                  have t := f38 11 (by decide)
                  simp only [q37, hGp] at t
                  exact t
              have q50 : ρ 50 = a12 := by
                  have t := f38 12 (by decide)
                  simp only [q37, hGp] at t
                  exact t
              have q51 : ρ 51 = a13 := by
                  have t := f38 13 (by decide)
                  simp only [q37, hGp] at t
                  exact t
              have q52 : ρ 52 = a14 := by
                  have t := f38 14 (by decide)
                  simp only [q37, hGp] at t
                  exact t
              have q53 : ρ 53 = 0 := by
                  have t := f38 15 (by decide)
                  simp only [q37, hGp] at t
                  exact t
              have q54 : ρ 54 = (b2i (decide ((0 : Int) ≠ 0))) := b2i_dec f54 (by simp only [q53])
              have q55 : ρ 55 = (b2i (decide ([a0, a1, a2, a3, a4, a5, a6, a7, a8, a9, a10, a11, a12, a13, a14] = [a0, a1, a2, a3, a4, a5, a6, a7, a8, a9, a10, a11, a12, a13, a14]))) := b2i_eqs (l := [a0, a1, a2, a3, a4, a5, a6, a7, a8, a9, a10, a11, a12, a13, a14]) (m := [a0, a1, a2, a3, a4, a5, a6, a7, a8, a9, a10, a11, a12, a13, a14]) f55 (by simp only [List.map_cons, List.map_nil, Ref.den, q38, q0, q39, q1, q40, q2, q41, q3, q42, q4, q43, q5, q44, q6, q45, q7, q46, q8, q47, q9, q48, q10, q49, q11, q50, q12, q51, q13, q52, q14]) (by simp only [List.map_cons, List.map_nil, Ref.den, q38, q0, q39, q1, q40, q2, q41, q3, q42, q4, q43, q5, q44, q6, q45, q7, q46, q8, q47, q9, q48, q10, q49, q11, q50, q12, q51, q13, q52, q14])
              have q56 : ρ 56 = (b2i (!(decide ([a0, a1, a2, a3, a4, a5, a6, a7, a8, a9, a10, a11, a12, a13, a14] = [a0, a1, a2, a3, a4, a5, a6, a7, a8, a9, a10, a11, a12, a13, a14])))) := b2i_not f56 q55
              have q57 : ρ 57 = (b2i (goodE [b0, b1, b2, b3, b4, b5, b6, b7, b8, b9, b10, b11, b12, b13, b14])) := by
                  have t := f57 0 (by decide)
                  simp only [q15, q16, q17, q18, q19, q20, q21, q22, q23, q24, q25, q26, q27, q28, q29] at t
                  exact t
              have q58 : ρ 58 = (b2i (decide (y0 < 0))) := b2i_dec f58 (by simp only [q30])
              have q59 : ρ 59 = ((decZ (codZ (putE [a0, a1, a2, a3, a4, a5, a6, a7, a8, a9, a10, a11, a12, a13, a14]))).length : Int) := by rw [f59, q37]
              have q60 : ρ 60 = (b2i (decide (((decZ (codZ (putE [a0, a1, a2, a3, a4, a5, a6, a7, a8, a9, a10, a11, a12, a13, a14]))).length : Int) ≤ y0))) := b2i_dec f60 (by simp only [q30, q59])
              refine ⟨?_, ?_⟩
              · simp only [G_nil, G_bin, G_cmp, G_not, G_conv, G_eqs, G_call, G_cond, G_need, G_idx, G_sel, G_upd, G_shv, G_beq, G_prim, G_byte, G_cut, G_cat, List.map_cons, List.map_nil, Ref.den]
                refine ⟨?_, ?_, ?_, ?_, ?_, ?_, ?_, ?_, ?_, ?_, ?_, ?_, ?_, ?_, ?_, ?_, trivial⟩
                · exact trivial
                · exact b2i_cond q32 (by simp only [Bool.not_true, decide_true, decide_false, Bool.and_true, Bool.true_and, Bool.and_false, Bool.false_and, Bool.or_true, Bool.true_or, Bool.or_false, Bool.false_or, Bool.not_true, Bool.not_false, if_true, if_false, Bool.false_eq_true])
                · exact trivial
                · exact b2i_cond q33 (by simp only [c1, decide_true, decide_false, Bool.and_true, Bool.true_and, Bool.and_false, Bool.false_and, Bool.or_true, Bool.true_or, Bool.or_false, Bool.false_or, Bool.not_true, Bool.not_false, if_true, if_false, Bool.false_eq_true])
                · exact trivial
                · exact b2i_cond q34 (by simp only [c3, decide_true, decide_false, Bool.and_true, Bool.true_and, Bool.and_false, Bool.false_and, Bool.or_true, Bool.true_or, Bool.or_false, Bool.false_or, Bool.not_true, Bool.not_false, if_true, if_false, Bool.false_eq_true])
                · exact by show (decZ (ρ 11)).length ≤ 1000 ∧ (decZ (ρ 12)).length ≤ 1000 ∧ (decZ (ρ 13)).length ≤ 1000; rw [q11, q12, q13]; exact m0
                · exact b2i_cond q36 (by simp only [c5, decide_true, decide_false, Bool.and_true, Bool.true_and, Bool.and_false, Bool.false_and, Bool.or_true, Bool.true_or, Bool.or_false, Bool.false_or, Bool.not_true, Bool.not_false, if_true, if_false, Bool.false_eq_true])
                · exact by show (decZ (ρ 11)).length ≤ 1000 ∧ (decZ (ρ 12)).length ≤ 1000 ∧ (decZ (ρ 13)).length ≤ 1000; rw [q11, q12, q13]; exact m0
                · exact by show (decZ (ρ 37)).length ≤ 1000; rw [q37, decZ_codZ]; exact hpl
                · exact b2i_cond q54 (by simp)
                · exact b2i_cond q56 (by simp only [kE, decide_true, decide_false, Bool.and_true, Bool.true_and, Bool.and_false, Bool.false_and, Bool.or_true, Bool.true_or, Bool.or_false, Bool.false_or, Bool.not_true, Bool.not_false, if_true, if_false, Bool.false_eq_true])
                · exact by show (decZ (ρ 26)).length ≤ 1000 ∧ (decZ (ρ 27)).length ≤ 1000 ∧ (decZ (ρ 28)).length ≤ 1000; rw [q26, q27, q28]; exact m1
                · exact b2i_cond q57 (by simp only [c7, decide_true, decide_false, Bool.and_true, Bool.true_and, Bool.and_false, Bool.false_and, Bool.or_true, Bool.true_or, Bool.or_false, Bool.false_or, Bool.not_true, Bool.not_false, if_true, if_false, Bool.false_eq_true])
                · exact b2i_cond q58 (by simp only [c8, decide_true, decide_false, Bool.and_true, Bool.true_and, Bool.and_false, Bool.false_and, Bool.or_true, Bool.true_or, Bool.or_false, Bool.false_or, Bool.not_true, Bool.not_false, if_true, if_false, Bool.false_eq_true])
                · exact b2i_cond q60 (by simp only [c9, decide_true, decide_false, Bool.and_true, Bool.true_and, Bool.and_false, Bool.false_and, Bool.or_true, Bool.true_or, Bool.or_false, Bool.false_or, Bool.not_true, Bool.not_false, if_true, if_false, Bool.false_eq_true])
              · rfl
          · refine Go.Sx.Way.of (dec := [false, false, false, false, false, false, false, true]) (fs := [.need 40 [], .call 31 40 [] 1, .not 32 (.v 31), .cond 32 false, .need 13 [[.v 0, .v 1, .v 2, .v 3, .v 4, .v 5, .v 6, .v 7, .v 8, .v 9, .v 10, .v 11, .v 12, .v 13, .v 14]], .call 33 13 [[.v 0, .v 1, .v 2, .v 3, .v 4, .v 5, .v 6, .v 7, .v 8, .v 9, .v 10, .v 11, .v 12, .v 13, .v 14]] 1, .cond 33 false, .need 13 [[.v 15, .v 16, .v 17, .v 18, .v 19, .v 20, .v 21, .v 22, .v 23, .v 24, .v 25, .v 26, .v 27, .v 28, .v 29]], .call 34 13 [[.v 15, .v 16, .v 17, .v 18, .v 19, .v 20, .v 21, .v 22, .v 23, .v 24, .v 25, .v 26, .v 27, .v 28, .v 29]] 1, .cond 34 false, .need 10 [[.v 0, .v 1, .v 2, .v 3, .v 4, .v 5, .v 6, .v 7, .v 8, .v 9, .v 10, .v 11, .v 12, .v 13, .v 14]], .call 35 10 [[.v 0, .v 1, .v 2, .v 3, .v 4, .v 5, .v 6, .v 7, .v 8, .v 9, .v 10, .v 11, .v 12, .v 13, .v 14]] 1, .not 36 (.v 35), .cond 36 false, .need 14 [[.v 0, .v 1, .v 2, .v 3, .v 4, .v 5, .v 6, .v 7, .v 8, .v 9, .v 10, .v 11, .v 12, .v 13, .v 14]], .call 37 14 [[.v 0, .v 1, .v 2, .v 3, .v 4, .v 5, .v 6, .v 7, .v 8, .v 9, .v 10, .v 11, .v 12, .v 13, .v 14]] 1, .need 15 [[.v 37]], .call 38 15 [[.v 37]] 16, .cmp 54 .neq (.v 53) (.l 0), .cond 54 false, .eqs 55 [(.v 38, .v 0), (.v 39, .v 1), (.v 40, .v 2), (.v 41, .v 3), (.v 42, .v 4), (.v 43, .v 5), (.v 44, .v 6), (.v 45, .v 7), (.v 46, .v 8), (.v 47, .v 9), (.v 48, .v 10), (.v 49, .v 11), (.v 50, .v 12), (.v 51, .v 13), (.v 52, .v 14)], .not 56 (.v 55), .cond 56 false, .need 10 [[.v 15, .v 16, .v 17, .v 18, .v 19, .v 20, .v 21, .v 22, .v 23, .v 24, .v 25, .v 26, .v 27, .v 28, .v 29]], .call 57 10 [[.v 15, .v 16, .v 17, .v 18, .v 19, .v 20, .v 21, .v 22, .v 23, .v 24, .v 25, .v 26, .v 27, .v 28, .v 29]] 1, .cond 57 false, .cmp 58 .lss (.v 30) (.l 0), .cond 58 true]) (refs := [.l 1]) (by kernel_rfl) fun ρ hρ hd => ?_
            simp only [D_nil, D_add, D_sub, D_mul, D_and, D_or, D_xor, D_shl, D_shr, D_andNot, D_quo, D_rem, D_add_i64, D_sub_i64, D_mul_i64, D_add_u32, D_sub_u32, D_mul_u32, D_add_u8, D_sub_u8, D_mul_u8, D_eql, D_neq, D_lss, D_leq, D_gtr, D_geq, D_not, D_conv, D_eqs, D_call, D_cond, D_need, D_idx, D_sel, D_upd, D_shv, D_beq, D_len, D_byte, D_cut, D_cat, D_must, List.map_cons, List.map_nil, Ref.den] at hd
            obtain ⟨f31, f32, f33, f34, f35, f36, f37, f38, f54, f55, f56, f57, f58, -⟩ := hd
            have q0 : ρ 0 = a0 := hρ 0 (by decide)
            have q1 : ρ 1 = a1 := hρ 1 (by decide)
            have q2 : ρ 2 = a2 := hρ 2 (by decide)
            have q3 : ρ 3 = a3 := hρ 3 (by decide)
            have q4 : ρ 4 = a4 := hρ 4 (by decide)
            have q5 : ρ 5 = a5 := hρ 5 (by decide)
            have q6 : ρ 6 = a6 := hρ 6 (by decide)
            have q7 : ρ 7 = a7 := hρ 7 (by decide)
            have q8 : ρ 8 = a8 := hρ 8 (by decide)
            have q9 : ρ 9 = a9 := hρ 9 (by decide)
            have q10 : ρ 10 = a10 := hρ 10 (by decide)
            have q11 : ρ 11 = a11 := hρ 11 (by decide)
            have q12 : ρ 12 = a12 := hρ 12 (by decide)
            have q13 : ρ 13 = a13 := hρ 13 (by decide)
            have q14 : ρ 14 = a14 := hρ 14 (by decide)
            have q15 : ρ 15 = b0 := hρ 15 (by decide)
            have q16 : ρ 16 = b1 := hρ 16 (by decide)
            have q17 : ρ 17 = b2 := hρ 17 (by decide)
            have q18 : ρ 18 = b3 := hρ 18 (by decide)
            have q19 : ρ 19 = b4 := hρ 19 (by decide)
            have q20 : ρ 20 = b5 := hρ 20 (by decide)
            have q21 : ρ 21 = b6 := hρ 21 (by decide)
            have q22 : ρ 22 = b7 := hρ 22 (by decide)
            have q23 : ρ 23 = b8 := hρ 23 (by decide)
            have q24 : ρ 24 = b9 := hρ 24 (by decide)
            have q25 : ρ 25 = b10 := hρ 25 (by decide)
            have q26 : ρ 26 = b11 := hρ 26 (by decide)
            have q27 : ρ 27 = b12 := hρ 27 (by decide)
            have q28 : ρ 28 = b13 := hρ 28 (by decide)
            have q29 : ρ 29 = b14 := hρ 29 (by decide)
            have q30 : ρ 30 = y0 := hρ 30 (by decide)
            have q31 : ρ 31 = (b2i (true)) := by
                have t := f31 0 (by decide)
                exact t
            have q32 : ρ 32 = (b2i (!true)) := b2i_not f32 q31
            have q33 : ρ 33 = (b2i (longE [a0, a1, a2, a3, a4, a5, a6, a7, a8, a9, a10, a11, a12, a13, a14])) := by
                have t := f33 0 (by decide)
                simp only [q0, q1, q2, q3, q4, q5, q6, q7, q8, q9, q10, q11, q12, q13, q14] at t
                exact t
            have q34 : ρ 34 = (b2i (longE [b0, b1, b2, b3, b4, b5, b6, b7, b8, b9, b10, b11, b12, b13, b14])) := by
                have t := f34 0 (by decide)
                simp only [q15, q16, q17, q18, q19, q20, q21, q22, q23, q24, q25, q26, q27, q28, q29] at t
                exact t
            have q35 : ρ 35 = (b2i (goodE [a0, a1, a2, a3, a4, a5, a6, a7, a8, a9, a10, a11, a12, a13, a14])) := by
                have t := f35 0 (by decide)
                simp only [q0, q1, q2, q3, q4, q5, q6, q7, q8, q9, q10, q11, q12, q13, q14] at t
                exact t
            have q36 : ρ 36 = (b2i (!(goodE [a0, a1, a2, a3, a4, a5, a6, a7, a8, a9, a10, a11, a12, a13, a14]))) := b2i_not f36 q35
            have q37 : ρ 37 = (codZ (putE [a0, a1, a2, a3, a4, a5, a6, a7, a8, a9, a10, a11, a12, a13, a14])) := by
                have t := f37 0 (by decide)
                simp only [q0, q1, q2, q3, q4, q5, q6, q7, q8, q9, q10, q11, q12, q13, q14] at t
                exact t
            have q38 : ρ 38 = a0 := by
                have t := f38 0 (by decide)
                simp only [q37, hGp] at t
                exact t
            have q39 : ρ 39 = a1 := by
                have t := f38 1 (by decide)
                simp only [q37, hGp] at t
                exact t
            have q40 : ρ 40 = a2 := by
                have t := f38 2 (by decide)
                simp only [q37, hGp] at t
                exact t
            have q41 : ρ 41 = a3 := by
                have t := f38 3 (by decide)
                simp only [q37, hGp] at t
                exact t
            have q42 : ρ 42 = a4 := by
                have t := f38 4 (by decide)
                simp only [q37, hGp] at t
                exact t
            have q43 : ρ 43 = a5 := by
                have t := f38 5 (by decide)
                simp only [q37, hGp] at t
                exact t
            have q44 : ρ 44 = a6 := by
                have t := f38 6 (by decide)
                simp only [q37, hGp] at t
                exact t
            have q45 : ρ 45 = a7 := by
                have t := f38 7 (by decide)
                simp only [q37, hGp] at t
                exact t
            have q46 : ρ 46 = a8 := by
                have t := f38 8 (by decide)
                simp only [q37, hGp] at t
                exact t
            have q47 : ρ 47 = a9 := by
                have t := f38 9 (by decide)
                simp only [q37, hGp] at t
                exact t
            have q48 : ρ 48 = a10 := by
                have t := f38 10 (by decide)
                simp only [q37, hGp] at t
                exact t
            have q49 : ρ 49 = a11 := by
                have t := f38 11 (by decide)
                simp only [q37, hGp] at t
                exact t
            have q50 : ρ 50 = a12 := by
                have t := f38 12 (by decide)
                simp only [q37, hGp] at t
                exact t
            have q51 : ρ 51 = a13 := by
                have t := f38 13 (by decide)
                simp only [q37, hGp] at t
                exact t
            have q52 : ρ 52 = a14 := by
                have t := f38 14 (by decide)
                simp only [q37, hGp] at t
                exact t
            have q53 : ρ 53 = 0 := by
                have t := f38 15 (by decide)
                simp only [q37, hGp] at t
                exact t
            have q54 : ρ 54 = (b2i (decide ((0 : Int) ≠ 0))) := b2i_dec f54 (by simp only [q53])
            have q55 : ρ 55 = (b2i (decide ([a0, a1, a2, a3, a4, a5, a6, a7, a8, a9, a10, a11, a12, a13, a14] = [a0, a1, a2, a3, a4, a5, a6, a7, a8, a9, a10, a11, a12, a13, a14]))) := b2i_eqs (l := [a0, a1, a2, a3, a4, a5, a6, a7, a8, a9, a10, a11, a12, a13, a14]) (m := [a0, a1, a2, a3, a4, a5, a6, a7, a8, a9, a10, a11, a12, a13, a14]) f55 (by simp only [List.map_cons, List.map_nil, Ref.den, q38, q0, q39, q1, q40, q2, q41, q3, q42, q4, q43, q5, q44, q6, q45, q7, q46, q8, q47, q9, q48, q10, q49, q11, q50, q12, q51, q13, q52, q14]) (by simp only [List.map_cons, List.map_nil, Ref.den, q38, q0, q39, q1, q40, q2, q41, q3, q42, q4, q43, q5, q44, q6, q45, q7, q46, q8, q47, q9, q48, q10, q49, q11, q50, q12, q51, q13, q52, q14])
            have q56 : ρ 56 = (b2i (!(decide ([a0, a1, a2, a3, a4, a5, a6, a7, a8, a9, a10, a11, a12, a13, a14] = [a0, a1, a2, a3, a4, a5, a6, a7, a8, a9, a10, a11, a12, a13, a14])))) := b2i_not f56 q55
            have q57 : ρ 57 = (b2i (goodE [b0, b1, b2, b3, b4, b5, b6, b7, b8, b9, b10, b11, b12, b13, b14])) := by
                have t := f57 0 (by decide)
                simp only [q15, q16, q17, q18, q19, q20, q21, q22, q23, q24, q25, q26, q27, q28, q29] at t
                exact t
            have q58 : ρ 58 = (b2i (decide (y0 < 0))) := b2i_dec f58 (by simp only [q30])
            refine ⟨?_, ?_⟩
            · simp only [G_nil, G_bin, G_cmp, G_not, G_conv, G_eqs, G_call, G_cond, G_need, G_idx, G_sel, G_upd, G_shv, G_beq, G_prim, G_byte, G_cut, G_cat, List.map_cons, List.map_nil, Ref.den]
              refine ⟨?_, ?_, ?_, ?_, ?_, ?_, ?_, ?_, ?_, ?_, ?_, ?_, ?_, ?_, ?_, trivial⟩
              · exact trivial
              · exact b2i_cond q32 (by simp only [Bool.not_true, decide_true, decide_false, Bool.and_true, Bool.true_and, Bool.and_false, Bool.false_and, Bool.or_true, Bool.true_or, Bool.or_false, Bool.false_or, Bool.not_true, Bool.not_false, if_true, if_false, Bool.false_eq_true])
              · exact trivial
              · exact b2i_cond q33 (by simp only [c1, decide_true, decide_false, Bool.and_true, Bool.true_and, Bool.and_false, Bool.false_and, Bool.or_true, Bool.true_or, Bool.or_false, Bool.false_or, Bool.not_true, Bool.not_false, if_true, if_false, Bool.false_eq_true])
              · exact trivial
              · exact b2i_cond q34 (by simp only [c3, decide_true, decide_false, Bool.and_true, Bool.true_and, Bool.and_false, Bool.false_and, Bool.or_true, Bool.true_or, Bool.or_false, Bool.false_or, Bool.not_true, Bool.not_false, if_true, if_false, Bool.false_eq_true])
              · exact by show (decZ (ρ 11)).length ≤ 1000 ∧ (decZ (ρ 12)).length ≤ 1000 ∧ (decZ (ρ 13)).length ≤ 1000; rw [q11, q12, q13]; exact m0
              · exact b2i_cond q36 (by simp only [c5, decide_true, decide_false, Bool.and_true, Bool.true_and, Bool.and_false, Bool.false_and, Bool.or_true, Bool.true_or, Bool.or_false, Bool.false_or, Bool.not_true, Bool.not_false, if_true, if_false, Bool.false_eq_true])
              · exact by show (decZ (ρ 11)).length ≤ 1000 ∧ (decZ (ρ 12)).length ≤ 1000 ∧ (decZ (ρ 13)).length ≤ 1000; rw [q11, q12, q13]; exact m0
              · exact by show (decZ (ρ 37)).length ≤ 1000; rw [q37, decZ_codZ]; exact hpl
              · exact b2i_cond q54 (by simp)
              · exact b2i_cond q56 (by simp only [kE, decide_true, decide_false, Bool.and_true, Bool.true_and, Bool.and_false, Bool.false_and, Bool.or_true, Bool.true_or, Bool.or_false, Bool.false_or, Bool.not_true, Bool.not_false, if_true, if_false, Bool.false_eq_true])
              · exact by show (decZ (ρ 26)).length ≤ 1000 ∧ (decZ (ρ 27)).length ≤ 1000 ∧ (decZ (ρ 28)).length ≤ 1000; rw [q26, q27, q28]; exact m1
              · exact b2i_cond q57 (by simp only [c7, decide_true, decide_false, Bool.and_true, Bool.true_and, Bool.and_false, Bool.false_and, Bool.or_true, Bool.true_or, Bool.or_false, Bool.false_or, Bool.not_true, Bool.not_false, if_true, if_false, Bool.false_eq_true])
              · exact b2i_cond q58 (by simp only [c8, decide_true, decide_false, Bool.and_true, Bool.true_and, Bool.and_false, Bool.false_and, Bool.or_true, Bool.true_or, Bool.or_false, Bool.false_or, Bool.not_true, Bool.not_false, if_true, if_false, Bool.false_eq_true])
            · rfl
        · have kB : (((decide ((codZ (putE [a0, a1, a2, a3, a4, a5, a6, a7, a8, a9, a10, a11, a12, a13, a14])) = (codZ (putE [b0, b1, b2, b3, b4, b5, b6, b7, b8, b9, b10, b11, b12, b13, b14])))) == (decide ([a0, a1, a2, a3, a4, a5, a6, a7, a8, a9, a10, a11, a12, a13, a14] = [b0, b1, b2, b3, b4, b5, b6, b7, b8, b9, b10, b11, b12, b13, b14]))) != true) = false := by rw [show decide ((codZ (putE [a0, a1, a2, a3, a4, a5, a6, a7, a8, a9, a10, a11, a12, a13, a14])) = (codZ (putE [b0, b1, b2, b3, b4, b5, b6, b7, b8, b9, b10, b11, b12, b13, b14]))) = decide ([a0, a1, a2, a3, a4, a5, a6, a7, a8, a9, a10, a11, a12, a13, a14] = [b0, b1, b2, b3, b4, b5, b6, b7, b8, b9, b10, b11, b12, b13, b14]) from decide_eq_decide.2 (put_inj c5 z0c z0f z0v c7 z1c z1f z1v)]; simp
          cases c9 : decide (y0 < 0)
          · cases c10 : decide (((decZ (codZ (putE [a0, a1, a2, a3, a4, a5, a6, a7, a8, a9, a10, a11, a12, a13, a14]))).length : Int) ≤ y0)
            · have u0 := of_decide_eq_false c9
              have u1 := of_decide_eq_false c10
              have u2 := u1
              rw [decZ_codZ] at u2
              have hGc : ofns.g 15 [[(codZ (((decZ (codZ (putE [a0, a1, a2, a3, a4, a5, a6, a7, a8, a9, a10, a11, a12, a13, a14]))).drop (0 : Int).toNat).take ((y0).toNat - (0 : Int).toNat)))]] = [0, 0, 0, 0, 0, 0, 0, 0, 0, 0, 0, 0, 0, 0, 0, 3] := by
                rw [g15, decZ_codZ, decZ_codZ, show (0 : Int).toNat = 0 from rfl, List.drop_zero, Nat.sub_zero]
                exact get_cut 0 3 c5 (by decide) (by decide) z0c z0f z0v (by omega)
              refine Go.Sx.Way.of (dec := [false, false, false, false, false, false, true, false, false, false]) (fs := [.need 40 [], .call 31 40 [] 1, .not 32 (.v 31), .cond 32 false, .need 13 [[.v 0, .v 1, .v 2, .v 3, .v 4, .v 5, .v 6, .v 7, .v 8, .v 9, .v 10, .v 11, .v 12, .v 13, .v 14]], .call 33 13 [[.v 0, .v 1, .v 2, .v 3, .v 4, .v 5, .v 6, .v 7, .v 8, .v 9, .v 10, .v 11, .v 12, .v 13, .v 14]] 1, .cond 33 false, .need 13 [[.v 15, .v 16, .v 17, .v 18, .v 19, .v 20, .v 21, .v 22, .v 23, .v 24, .v 25, .v 26, .v 27, .v 28, .v 29]], .call 34 13 [[.v 15, .v 16, .v 17, .v 18, .v 19, .v 20, .v 21, .v 22, .v 23, .v 24, .v 25, .v 26, .v 27, .v 28, .v 29]] 1, .cond 34 false, .need 10 [[.v 0, .v 1, .v 2, .v 3, .v 4, .v 5, .v 6, .v 7, .v 8, .v 9, .v 10, .v 11, .v 12, .v 13, .v 14]], .call 35 10 [[.v 0, .v 1, .v 2, .v 3, .v 4, .v 5, .v 6, .v 7, .v 8, .v 9, .v 10, .v 11, .v 12, .v 13, .v 14]] 1, .not 36 (.v 35), .cond 36 false, .need 14 [[.v 0, .v 1, .v 2, .v 3, .v 4, .v 5, .v 6, .v 7, .v 8, .v 9, .v 10, .v 11, .v 12, .v 13, .v 14]], .call 37 14 [[.v 0, .v 1, .v 2, .v 3, .v 4, .v 5, .v 6, .v 7, .v 8, .v 9, .v 10, .v 11, .v 12, .v 13, .v 14]] 1, .need 15 [[.v 37]], .call 38 15 [[.v 37]] 16, .cmp 54 .neq (.v 53) (.l 0), .cond 54 false, .eqs 55 [(.v 38, .v 0), (.v 39, .v 1), (.v 40, .v 2), (.v 41, .v 3), (.v 42, .v 4), (.v 43, .v 5), (.v 44, .v 6), (.v 45, .v 7), (.v 46, .v 8), (.v 47, .v 9), (.v 48, .v 10), (.v 49, .v 11), (.v 50, .v 12), (.v 51, .v 13), (.v 52, .v 14)], .not 56 (.v 55), .cond 56 false, .need 10 [[.v 15, .v 16, .v 17, .v 18, .v 19, .v 20, .v 21, .v 22, .v 23, .v 24, .v 25, .v 26, .v 27, .v 28, .v 29]], .call 57 10 [[.v 15, .v 16, .v 17, .v 18, .v 19, .v 20, .v 21, .v 22, .v 23, .v 24, .v 25, .v 26, .v 27, .v 28, .v 29]] 1, .cond 57 true, .need 14 [[.v 15, .v 16, .v 17, .v 18, .v 19, .v 20, .v 21, .v 22, .v 23, .v 24, .v 25, .v 26, .v 27, .v 28, .v 29]], .call 58 14 [[.v 15, .v 16, .v 17, .v 18, .v 19, .v 20, .v 21, .v 22, .v 23, .v 24, .v 25, .v 26, .v 27, .v 28, .v 29]] 1, .cmp 59 .eql (.v 37) (.v 58), .eqs 60 [(.v 0, .v 15), (.v 1, .v 16), (.v 2, .v 17), (.v 3, .v 18), (.v 4, .v 19), (.v 5, .v 20), (.v 6, .v 21), (.v 7, .v 22), (.v 8, .v 23), (.v 9, .v 24), (.v 10, .v 25), (.v 11, .v 26), (.v 12, .v 27), (.v 13, .v 28), (.v 14, .v 29)], .beq 61 true (.v 59) (.v 60), .cond 61 false, .cmp 62 .lss (.v 30) (.l 0), .cond 62 false, .prim 63 0 [.v 37], .cmp 64 .geq (.v 30) (.v 63), .cond 64 false, .must 1 [.v 37, .l 0, .v 30], .prim 65 2 [.v 37, .l 0, .v 30], .need 15 [[.v 65]], .call 66 15 [[.v 65]] 16, .cmp 82 .eql (.v 81) (.l 3)]) (refs := [.v 82]) (by kernel_rfl) fun ρ hρ hd => ?_
              simp only [D_nil, D_add, D_sub, D_mul, D_and, D_or, D_xor, D_shl, D_shr, D_andNot, D_quo, D_rem, D_add_i64, D_sub_i64, D_mul_i64, D_add_u32, D_sub_u32, D_mul_u32, D_add_u8, D_sub_u8, D_mul_u8, D_eql, D_neq, D_lss, D_leq, D_gtr, D_geq, D_not, D_conv, D_eqs, D_call, D_cond, D_need, D_idx, D_sel, D_upd, D_shv, D_beq, D_len, D_byte, D_cut, D_cat, D_must, List.map_cons, List.map_nil, Ref.den] at hd
              obtain ⟨f31, f32, f33, f34, f35, f36, f37, f38, f54, f55, f56, f57, f58, f59, f60, f61, f62, f63, f64, f65, f66, f82, -⟩ := hd
              have q0 : ρ 0 = a0 := hρ 0 (by decide)
              have q1 : ρ 1 = a1 := hρ 1 (by decide)
              have q2 : ρ 2 = a2 := hρ 2 (by decide)
              have q3 : ρ 3 = a3 := hρ 3 (by decide)
              have q4 : ρ 4 = a4 := hρ 4 (by decide)
              have q5 : ρ 5 = a5 := hρ 5 (by decide)
              have q6 : ρ 6 = a6 := hρ 6 (by decide)
              have q7 : ρ 7 = a7 := hρ 7 (by decide)
              have q8 : ρ 8 = a8 := hρ 8 (by decide)
              have q9 : ρ 9 = a9 := hρ 9 (by decide)
              have q10 : ρ 10 = a10 := hρ 10 (by decide)
              have q11 : ρ 11 = a11 := hρ 11 (by decide)
              have q12 : ρ 12 = a12 := hρ 12 (by decide)
              have q13 : ρ 13 = a13 := hρ 13 (by decide)
              have q14 : ρ 14 = a14 := hρ 14 (by decide)
              have q15 : ρ 15 = b0 := hρ 15 (by decide)
              have q16 : ρ 16 = b1 := hρ 16 (by decide)
              have q17 : ρ 17 = b2 := hρ 17 (by decide)
              have q18 : ρ 18 = b3 := hρ 18 (by decide)
              have q19 : ρ 19 = b4 := hρ 19 (by decide)
              have q20 : ρ 20 = b5 := hρ 20 (by decide)
              have q21 : ρ 21 = b6 := hρ 21 (by decide)
              have q22 : ρ 22 = b7 := hρ 22 (by decide)
              have q23 : ρ 23 = b8 := hρ 23 (by decide)
              have q24 : ρ 24 = b9 := hρ 24 (by decide)
              have q25 : ρ 25 = b10 := hρ 25 (by decide)
              have q26 : ρ 26 = b11 := hρ 26 (by decide)
              have q27 : ρ 27 = b12 := hρ 27 (by decide)
              have q28 : ρ 28 = b13 := hρ 28 (by decide)
              have q29 : ρ 29 = b14 := hρ 29 (by decide)
              have q30 : ρ 30 = y0 := hρ 30 (by decide)
              have q31 : ρ 31 = (b2i (true)) := by
                  have t := f31 0 (by decide)
                  exact t
              have q32 : ρ 32 = (b2i (!true)) := b2i_not f32 q31
              have q33 : ρ 33 = (b2i (longE [a0, a1, a2, a3, a4, a5, a6, a7, a8, a9, a10, a11, a12, a13, a14])) := by
                  have t := f33 0 (by decide)
                  simp only [q0, q1, q2, q3, q4, q5, q6, q7, q8, q9, q10, q11, q12, q13, q14] at t
                  exact t
              have q34 : ρ 34 = (b2i (longE [b0, b1, b2, b3, b4, b5, b6, b7, b8, b9, b10, b11, b12, b13, b14])) := by
                  have t := f34 0 (by decide)
                  simp only [q15, q16, q17, q18, q19, q20, q21, q22, q23, q24, q25, q26, q27, q28, q29] at t
                  exact t
              have q35 : ρ 35 = (b2i (goodE [a0, a1, a2, a3, a4, a5, a6, a7, a8, a9, a10, a11, a12, a13, a14])) := by
                  have t := f35 0 (by decide)
                  simp only [q0, q1, q2, q3, q4, q5, q6, q7, q8, q9, q10, q11, q12, q13, q14] at t
                  exact t
              have q36 : ρ 36 = (b2i (!(goodE [a0, a1, a2, a3, a4, a5, a6, a7, a8, a9, a10, a11, a12, a13, a14]))) := b2i_not f36 q35
              have q37 : ρ 37 = (codZ (putE [a0, a1, a2, a3, a4, a5, a6, a7, a8, a9, a10, a11, a12, a13, a14])) := by
                  have t := f37 0 (by decide)
                  simp only [q0, q1, q2, q3, q4, q5, q6, q7, q8, q9, q10, q11, q12, q13, q14] at t
                  exact t
              have q38 : ρ 38 = a0 := by
                  have t := f38 0 (by decide)
                  simp only [q37, hGp] at t
                  exact t
              have q39 : ρ 39 = a1 := by
                  have t := f38 1 (by decide)
                  simp only [q37, hGp] at t
                  exact t
              have q40 : ρ 40 = a2 := by
                  have t := f38 2 (by decide)
                  simp only [q37, hGp] at t
                  exact t
              have q41 : ρ 41 = a3 := by
                  have t := f38 3 (by decide)
                  simp only [q37, hGp] at t
                  exact t
              have q42 : ρ 42 = a4 := by
                  have t := f38 4 (by decide)
                  simp only [q37, hGp] at t
                  exact t
              have q43 : ρ 43 = a5 := by
                  have t := f38 5 (by decide)
                  simp only [q37, hGp] at t
                  exact t
              have q44 : ρ 44 = a6 := by
                  have t := f38 6 (by decide)
                  simp only [q37, hGp] at t
                  exact t
              have q45 : ρ 45 = a7 := by
                  have t := f38 7 (by decide)
                  simp only [q37, hGp] at t
                  exact t
              have q46 : ρ 46 = a8 := by
                  have t := f38 8 (by decide)
                  simp only [q37, hGp] at t
                  exact t
              have q47 : ρ 47 = a9 := by
                  have t := f38 9 (by decide)
                  simp only [q37, hGp] at t
                  exact t
              have q48 : ρ 48 = a10 := by
                  have t := f38 10 (by decide)
                  simp only [q37, hGp] at t
                  exact t
              have q49 : ρ 49 = a11 := by
                  have t := f38 11 (by decide)
                  simp only [q37, hGp] at t
                  exact t
              have q50 : ρ 50 = a12 := by
                  have t := f38 12 (by decide)
                  simp only [q37, hGp] at t
                  exact t
              have q51 : ρ 51 = a13 := by
                  have t := f38 13 (by decide)
                  simp only [q37, hGp] at t
                  exact t
              have q52 : ρ 52 = a14 := by
                  have t := f38 14 (by decide)
                  simp only [q37, hGp] at t
                  exact t
              have q53 : ρ 53 = 0 := by
                  have t := f38 15 (by decide)
                  simp only [q37, hGp] at t
                  exact t
              have q54 : ρ 54 = (b2i (decide ((0 : Int) ≠ 0))) := b2i_dec f54 (by simp only [q53])
              have q55 : ρ 55 = (b2i (decide ([a0, a1, a2, a3, a4, a5, a6, a7, a8, a9, a10, a11, a12, a13, a14] = [a0, a1, a2, a3, a4, a5, a6, a7, a8, a9, a10, a11, a12, a13, a14]))) := b2i_eqs (l := [a0, a1, a2, a3, a4, a5, a6, a7, a8, a9, a10, a11, a12, a13, a14]) (m := [a0, a1, a2, a3, a4, a5, a6, a7, a8, a9, a10, a11, a12, a13, a14]) f55 (by simp only [List.map_cons, List.map_nil, Ref.den, q38, q0, q39, q1, q40, q2, q41, q3, q42, q4, q43, q5, q44, q6, q45, q7, q46, q8, q47, q9, q48, q10, q49, q11, q50, q12, q51, q13, q52, q14]) (by simp only [List.map_cons, List.map_nil, Ref.den, q38, q0, q39, q1, q40, q2, q41, q3, q42, q4, q43, q5, q44, q6, q45, q7, q46, q8, q47, q9, q48, q10, q49, q11, q50, q12, q51, q13, q52, q14])
              have q56 : ρ 56 = (b2i (!(decide ([a0, a1, a2, a3, a4, a5, a6, a7, a8, a9, a10, a11, a12, a13, a14] = [a0, a1, a2, a3, a4, a5, a6, a7, a8, a9, a10, a11, a12, a13, a14])))) := b2i_not f56 q55
              have q57 : ρ 57 = (b2i (goodE [b0, b1, b2, b3, b4, b5, b6, b7, b8, b9, b10, b11, b12, b13, b14])) := by
                  have t := f57 0 (by decide)
                  simp only [q15, q16, q17, q18, q19, q20, q21, q22, q23, q24, q25, q26, q27, q28, q29] at t
                  exact t
              have q58 : ρ 58 = (codZ (putE [b0, b1, b2, b3, b4, b5, b6, b7, b8, b9, b10, b11, b12, b13, b14])) := by
                  have t := f58 0 (by decide)
                  simp only [q15, q16, q17, q18, q19, q20, q21, q22, q23, q24, q25, q26, q27, q28, q29] at t
                  exact t
              have q59 : ρ 59 = (b2i (decide ((codZ (putE [a0, a1, a2, a3, a4, a5, a6, a7, a8, a9, a10, a11, a12, a13, a14])) = (codZ (putE [b0, b1, b2, b3, b4, b5, b6, b7, b8, b9, b10, b11, b12, b13, b14]))))) := b2i_dec f59 (by simp only [q37, q58])
              have q60 : ρ 60 = (b2i (decide ([a0, a1, a2, a3, a4, a5, a6, a7, a8, a9, a10, a11, a12, a13, a14] = [b0, b1, b2, b3, b4, b5, b6, b7, b8, b9, b10, b11, b12, b13, b14]))) := b2i_eqs (l := [a0, a1, a2, a3, a4, a5, a6, a7, a8, a9, a10, a11, a12, a13, a14]) (m := [b0, b1, b2, b3, b4, b5, b6, b7, b8, b9, b10, b11, b12, b13, b14]) f60 (by simp only [List.map_cons, List.map_nil, Ref.den, q0, q15, q1, q16, q2, q17, q3, q18, q4, q19, q5, q20, q6, q21, q7, q22, q8, q23, q9, q24, q10, q25, q11, q26, q12, q27, q13, q28, q14, q29]) (by simp only [List.map_cons, List.map_nil, Ref.den, q0, q15, q1, q16, q2, q17, q3, q18, q4, q19, q5, q20, q6, q21, q7, q22, q8, q23, q9, q24, q10, q25, q11, q26, q12, q27, q13, q28, q14, q29])
              have q61 : ρ 61 = (b2i (((decide ((codZ (putE [a0, a1, a2, a3, a4, a5, a6, a7, a8, a9, a10, a11, a12, a13, a14])) = (codZ (putE [b0, b1, b2, b3, b4, b5, b6, b7, b8, b9, b10, b11, b12, b13, b14])))) == (decide ([a0, a1, a2, a3, a4, a5, a6, a7, a8, a9, a10, a11, a12, a13, a14] = [b0, b1, b2, b3, b4, b5, b6, b7, b8, b9, b10, b11, b12, b13, b14]))) != true)) := b2i_beq f61 q59 q60
              have q62 : ρ 62 = (b2i (decide (y0 < 0))) := b2i_dec f62 (by simp only [q30])
              have q63 : ρ 63 = ((decZ (codZ (putE [a0, a1, a2, a3, a4, a5, a6, a7, a8, a9, a10, a11, a12, a13, a14]))).length : Int) := by rw [f63, q37]
              have q64 : ρ 64 = (b2i (decide (((decZ (codZ (putE [a0, a1, a2, a3, a4, a5, a6, a7, a8, a9, a10, a11, a12, a13, a14]))).length : Int) ≤ y0))) := b2i_dec f64 (by simp only [q30, q63])
              have q65 : ρ 65 = (codZ (((decZ (codZ (putE [a0, a1, a2, a3, a4, a5, a6, a7, a8, a9, a10, a11, a12, a13, a14]))).drop (0 : Int).toNat).take ((y0).toNat - (0 : Int).toNat))) := by rw [f65, q37, q30]
              have q66 : ρ 66 = 0 := by
                  have t := f66 0 (by decide)
                  simp only [q65, hGc] at t
                  exact t
              have q67 : ρ 67 = 0 := by
                  have t := f66 1 (by decide)
                  simp only [q65, hGc] at t
                  exact t
              have q68 : ρ 68 = 0 := by
                  have t := f66 2 (by decide)
                  simp only [q65, hGc] at t
                  exact t
              have q69 : ρ 69 = 0 := by
                  have t := f66 3 (by decide)
                  simp only [q65, hGc] at t
                  exact t
              have q70 : ρ 70 = 0 := by
                  have t := f66 4 (by decide)
                  simp only [q65, hGc] at t
                  exact t
              have q71 : ρ 71 = 0 := by
                  have t := f66 5 (by decide)
                  simp only [q65, hGc] at t
                  exact t
              have q72 : ρ 72 = 0 := by
                  have t := f66 6 (by decide)
                  simp only [q65, hGc] at t
                  exact t
              have q73 : ρ 73 = 0 := by
                  have t := f66 7 (by decide)
                  simp only [q65, hGc] at t
                  exact t
              have q74 : ρ 74 = 0 := by
                  have t := f66 8 (by decide)
                  simp only [q65, hGc] at t
                  exact t
              have q75 : ρ 75 = 0 := by
                  have t := f66 9 (by decide)
                  simp only [q65, hGc] at t
                  exact t
              have q76 : ρ 76 = 0 := by
                  have t := f66 10 (by decide)
                  simp only [q65, hGc] at t
                  exact t
              have q77 : ρ 77 = 0 := by
                  have t := f66 11 (by decide)
                  simp only [q65, hGc] at t
                  exact t
              have q78 : ρ 78 = 0 := by
                  have t := f66 12 (by decide)
                  simp only [q65, hGc] at t
                  exact t
              have q79 : ρ 79 = 0 := by
                  have t := f66 13 (by decide)
                  simp only [q65, hGc] at t
                  exact t
              have q80 : ρ 80 = 0 := by
                  have t := f66 14 (by decide)
                  simp only [q65, hGc] at t
                  exact t
              have q81 : ρ 81 = 3 := by
                  have t := f66 15 (by decide)
                  simp only [q65, hGc] at t
                  exact t
              have q82 : ρ 82 = (b2i (decide ((3 : Int) = 3))) := b2i_dec f82 (by simp only [q81])
              refine ⟨?_, ?_⟩
              · simp only [G_nil, G_bin, G_cmp, G_not, G_conv, G_eqs, G_call, G_cond, G_need, G_idx, G_sel, G_upd, G_shv, G_beq, G_prim, G_byte, G_cut, G_cat, List.map_cons, List.map_nil, Ref.den]
                refine ⟨?_, ?_, ?_, ?_, ?_, ?_, ?_, ?_, ?_, ?_, ?_, ?_, ?_, ?_, ?_, ?_, ?_, ?_, ?_, ?_, trivial⟩
                · exact trivial
                · exact b2i_cond q32 (by simp only [Bool.not_true, decide_true, decide_false, Bool.and_true, Bool.true_and, Bool.and_false, Bool.false_and, Bool.or_true, Bool.true_or, Bool.or_false, Bool.false_or, Bool.not_true, Bool.not_false, if_true, if_false, Bool.false_eq_true])
                · exact trivial
                · exact b2i_cond q33 (by simp only [c1, decide_true, decide_false, Bool.and_true, Bool.true_and, Bool.and_false, Bool.false_and, Bool.or_true, Bool.true_or, Bool.or_false, Bool.false_or, Bool.not_true, Bool.not_false, if_true, if_false, Bool.false_eq_true])
                · exact trivial
                · exact b2i_cond q34 (by simp only [c3, decide_true, decide_false, Bool.and_true, Bool.true_and, Bool.and_false, Bool.false_and, Bool.or_true, Bool.true_or, Bool.or_false, Bool.false_or, Bool.not_true, Bool.not_false, if_true, if_false, Bool.false_eq_true])
                · exact by show (decZ (ρ 11)).length ≤ 1000 ∧ (decZ (ρ 12)).length ≤ 1000 ∧ (decZ (ρ 13)).length ≤ 1000; rw [q11, q12, q13]; exact m0
                · exact b2i_cond q36 (by simp only [c5, decide_true, decide_false, Bool.and_true, Bool.true_and, Bool.and_false, Bool.false_and, Bool.or_true, Bool.true_or, Bool.or_false, Bool.false_or, Bool.not_true, Bool.not_false, if_true, if_false, Bool.false_eq_true])
                · exact by show (decZ (ρ 11)).length ≤ 1000 ∧ (decZ (ρ 12)).length ≤ 1000 ∧ (decZ (ρ 13)).length ≤ 1000; rw [q11, q12, q13]; exact m0
                · exact by show (decZ (ρ 37)).length ≤ 1000; rw [q37, decZ_codZ]; exact hpl
                · exact b2i_cond q54 (by simp)
                · exact b2i_cond q56 (by simp only [kE, decide_true, decide_false, Bool.and_true, Bool.true_and, Bool.and_false, Bool.false_and, Bool.or_true, Bool.true_or, Bool.or_false, Bool.false_or, Bool.not_true, Bool.not_false, if_true, if_false, Bool.false_eq_true])
                · exact by show (decZ (ρ 26)).length ≤ 1000 ∧ (decZ (ρ 27)).length ≤ 1000 ∧ (decZ (ρ 28)).length ≤ 1000; rw [q26, q27, q28]; exact m1
                · exact b2i_cond q57 (by simp only [c7, decide_true, decide_false, Bool.and_true, Bool.true_and, Bool.and_false, Bool.false_and, Bool.or_true, Bool.true_or, Bool.or_false, Bool.false_or, Bool.not_true, Bool.not_false, if_true, if_false, Bool.false_eq_true])
                · exact by show (decZ (ρ 26)).length ≤ 1000 ∧ (decZ (ρ 27)).length ≤ 1000 ∧ (decZ (ρ 28)).length ≤ 1000; rw [q26, q27, q28]; exact m1
                · exact b2i_cond q61 (by simp only [kB, decide_true, decide_false, Bool.and_true, Bool.true_and, Bool.and_false, Bool.false_and, Bool.or_true, Bool.true_or, Bool.or_false, Bool.false_or, Bool.not_true, Bool.not_false, if_true, if_false, Bool.false_eq_true])
                · exact b2i_cond q62 (by simp only [c9, decide_true, decide_false, Bool.and_true, Bool.true_and, Bool.and_false, Bool.false_and, Bool.or_true, Bool.true_or, Bool.or_false, Bool.false_or, Bool.not_true, Bool.not_false, if_true, if_false, Bool.false_eq_true])
                · exact b2i_cond q64 (by simp only [c10, decide_true, decide_false, Bool.and_true, Bool.true_and, Bool.and_false, Bool.false_and, Bool.or_true, Bool.true_or, Bool.or_false, Bool.false_or, Bool.not_true, Bool.not_false, if_true, if_false, Bool.false_eq_true])
                · exact by show (0 : Int) ≤ 0 ∧ (0 : Int) ≤ ρ 30 ∧ ρ 30 ≤ ((decZ (ρ 37)).length : Int); rw [q30, q37]; exact ⟨by omega, by omega, by omega⟩
                · exact by show (decZ (ρ 65)).length ≤ 1000; rw [q65, decZ_codZ]; exact Nat.le_trans (by simp only [List.length_take]; omega) hpl
              · show [ρ 82] = [1]
                rw [q82]
                exact congrArg (fun b => [b2i b]) (show (decide ((3 : Int) = 3)) = true by simp)
            · refine Go.Sx.Way.of (dec := [false, false, false, false, false, false, true, false, false, true]) (fs := [.need 40 [], .call 31 40 [] 1, .not 32 (.v 31), .cond 32 false, .need 13 [[.v 0, .v 1, .v 2, .v 3, .v 4, .v 5, .v 6, .v 7, .v 8, .v 9, .v 10, .v 11, .v 12, .v 13, .v 14]], .call 33 13 [[.v 0, .v 1, .v 2, .v 3, .v 4, .v 5, .v 6, .v 7, .v 8, .v 9, .v 10, .v 11, .v 12, .v 13, .v 14]] 1, .cond 33 false, .need 13 [[.v 15, .v 16, .v 17, .v 18, .v 19, .v 20, .v 21, .v 22, .v 23, .v 24, .v 25, .v 26, .v 27, .v 28, .v 29]], .call 34 13 [[.v 15, .v 16, .v 17, .v 18, .v 19, .v 20, .v 21, .v 22, .v 23, .v 24, .v 25, .v 26, .v 27, .v 28, .v 29]] 1, .cond 34 false, .need 10 [[.v 0, .v 1, .v 2, .v 3, .v 4, .v 5, .v 6, .v 7, .v 8, .v 9, .v 10, .v 11, .v 12, .v 13, .v 14]], .call 35 10 [[.v 0, .v 1, .v 2, .v 3, .v 4, .v 5, .v 6, .v 7, .v 8, .v 9, .v 10, .v 11, .v 12, .v 13, .v 14]] 1, .not 36 (.v 35), .cond 36 false, .need 14 [[.v 0, .v 1, .v 2, .v 3, .v 4, .v 5, .v 6, .v 7, .v 8, .v 9, .v 10, .v 11, .v 12, .v 13, .v 14]], .call 37 14 [[.v 0, .v 1, .v 2, .v 3, .v 4, .v 5, .v 6, .v 7, .v 8, .v 9, .v 10, .v 11, .v 12, .v 13, .v 14]] 1, .need 15 [[.v 37]], .call 38 15 [[.v 37]] 16, .cmp 54 .neq (.v 53) (.l 0), .cond 54 false, .eqs 55 [(.v 38, .v 0), (.v 39, .v 1), (.v 40, .v 2), (.v 41, .v 3), (.v 42, .v 4), (.v 43, .v 5), (.v 44, .v 6), (.v 45, .v 7), (.v 46, .v 8), (.v 47, .v 9), (.v 48, .v 10), (.v 49, .v 11), (.v 50, .v 12), (.v 51, .v 13), (.v 52, .v 14)], .not 56 (.v 55), .cond 56 false, .need 10 [[.v 15, .v 16, .v 17, .v 18, .v 19, .v 20, .v 21, .v 22, .v 23, .v 24, .v 25, .v 26, .v 27, .v 28, .v 29]], .call 57 10 [[.v 15, .v 16, .v 17, .v 18, .v 19, .v 20, .v 21, .v 22, .v 23, .v 24, .v 25, .v 26, .v 27, .v 28, .v 29]] 1, .cond 57 true, .need 14 [[.v 15, .v 16, .v 17, .v 18, .v 19, .v 20, .v 21, .v 22, .v 23, .v 24, .v 25, .v 26, .v 27, .v 28, .v 29]], .call 58 14 [[.v 15, .v 16, .v 17, .v 18, .v 19, .v 20, .v 21, .v 22, .v 23, .v 24, .v 25, .v 26, .v 27, .v 28, .v 29]] 1, .cmp 59 .eql (.v 37) (.v 58), .eqs 60 [(.v 0, .v 15), (.v 1, .v 16), (.v 2, .v 17), (.v 3, .v 18), (.v 4, .v 19), (.v 5, .v 20), (.v 6, .v 21), (.v 7, .v 22), (.v 8, .v 23), (.v 9, .v 24), (.v 10, .v 25), (.v 11, .v 26), (.v 12, .v 27), (.v 13, .v 28), (.v 14, .v 29)], .beq 61 true (.v 59) (.v 60), .cond 61 false, .cmp 62 .lss (.v 30) (.l 0), .cond 62 false, .prim 63 0 [.v 37], .cmp 64 .geq (.v 30) (.v 63), .cond 64 true]) (refs := [.l 1]) (by kernel_rfl) fun ρ hρ hd => ?_
              simp only [D_nil, D_add, D_sub, D_mul, D_and, D_or, D_xor, D_shl, D_shr, D_andNot, D_quo, D_rem, D_add_i64, D_sub_i64, D_mul_i64, D_add_u32, D_sub_u32, D_mul_u32, D_add_u8, D_sub_u8, D_mul_u8, D_eql, D_neq, D_lss, D_leq, D_gtr, D_geq, D_not, D_conv, D_eqs, D_call, D_cond, D_need, D_idx, D_sel, D_upd, D_shv, D_beq, D_len, D_byte, D_cut, D_cat, D_must, List.map_cons, List.map_nil, Ref.den] at hd
              obtain ⟨f31, f32, f33, f34, f35, f36, f37, f38, f54, f55, f56, f57, f58, f59, f60, f61, f62, f63, f64, -⟩ := hd
              have q0 : ρ 0 = a0 := hρ 0 (by decide)
              have q1 : ρ 1 = a1 := hρ 1 (by decide)
              have q2 : ρ 2 = a2 := hρ 2 (by decide)
              have q3 : ρ 3 = a3 := hρ 3 (by decide)
              have q4 : ρ 4 = a4 := hρ 4 (by decide)
              have q5 : ρ 5 = a5 := hρ 5 (by decide)
              have q6 : ρ 6 = a6 := hρ 6 (by decide)
              have q7 : ρ 7 = a7 := hρ 7 (by decide)
              have q8 : ρ 8 = a8 := hρ 8 (by decide)
              have q9 : ρ 9 = a9 := hρ 9 (by decide)
              have q10 : ρ 10 = a10 := hρ 10 (by decide)
              have q11 : ρ 11 = a11 := hρ 11 (by decide)
              have q12 : ρ 12 = a12 := hρ 12 (by decide)
              have q13 : ρ 13 = a13 := hρ 13 (by decide)
              have q14 : ρ 14 = a14 := hρ 14 (by decide)
              have q15 : ρ 15 = b0 := hρ 15 (by decide)
              have q16 : ρ 16 = b1 := hρ 16 (by decide)
              have q17 : ρ 17 = b2 := hρ 17 (by decide)
              have q18 : ρ 18 = b3 := hρ 18 (by decide)
              have q19 : ρ 19 = b4 := hρ 19 (by decide)
              have q20 : ρ 20 = b5 := hρ 20 (by decide)
              have q21 : ρ 21 = b6 := hρ 21 (by decide)
              have q22 : ρ 22 = b7 := hρ 22 (by decide)
              have q23 : ρ 23 = b8 := hρ 23 (by decide)
              have q24 : ρ 24 = b9 := hρ 24 (by decide)
              have q25 : ρ 25 = b10 := hρ 25 (by decide)
              have q26 : ρ 26 = b11 := hρ 26 (by decide)
              have q27 : ρ 27 = b12 := hρ 27 (by decide)
              have q28 : ρ 28 = b13 := hρ 28 (by decide)
              have q29 : ρ 29 = b14 := hρ 29 (by decide)
              have q30 : ρ 30 = y0 := hρ 30 (by decide)
              have q31 : ρ 31 = (b2i (true)) := by
                  have t := f31 0 (by decide)
                  exact t
              have q32 : ρ 32 = (b2i (!true)) := b2i_not f32 q31
              have q33 : ρ 33 = (b2i (longE [a0, a1, a2, a3, a4, a5, a6, a7, a8, a9, a10, a11, a12, a13, a14])) := by
                  have t := f33 0 (by decide)
                  simp only [q0, q1, q2, q3, q4, q5, q6, q7, q8, q9, q10, q11, q12, q13, q14] at t
                  exact t
              have q34 : ρ 34 = (b2i (longE [b0, b1, b2, b3, b4, b5, b6, b7, b8, b9, b10, b11, b12, b13, b14])) := by
                  have t := f34 0 (by decide)
                  simp only [q15, q16, q17, q18, q19, q20, q21, q22, q23, q24, q25, q26, q27, q28, q29] at t
                  exact t
              have q35 : ρ 35 = (b2i (goodE [a0, a1, a2, a3, a4, a5, a6, a7, a8, a9, a10, a11, a12, a13, a14])) := by
                  have t := f35 0 (by decide)
                  simp only [q0, q1, q2, q3, q4, q5, q6, q7, q8, q9, q10, q11, q12, q13, q14] at t
                  exact t
              have q36 : ρ 36 = (b2i (!(goodE [a0, a1, a2, a3, a4, a5, a6, a7, a8, a9, a10, a11, a12, a13, a14]))) := b2i_not f36 q35
              have q37 : ρ 37 = (codZ (putE [a0, a1, a2, a3, a4, a5, a6, a7, a8, a9, a10, a11, a12, a13, a14])) := by
                  have t := f37 0 (by decide)
                  simp only [q0, q1, q2, q3, q4, q5, q6, q7, q8, q9, q10, q11, q12, q13, q14] at t
                  exact t
              have q38 : ρ 38 = a0 := by
                  have t := f38 0 (by decide)
                  simp only [q37, hGp] at t
                  exact t
              have q39 : ρ 39 = a1 := by
                  have t := f38 1 (by decide)
                  simp only [q37, hGp] at t
                  exact t
              have q40 : ρ 40 = a2 := by
                  have t := f38 2 (by decide)
                  simp only [q37, hGp] at t
                  exact t
              have q41 : ρ 41 = a3 := by
                  have t := f38 3 (by decide)
                  simp only [q37, hGp] at t
                  exact t
              have q42 : ρ 42 = a4 := by
                  have t := f38 4 (by decide)
                  simp only [q37, hGp] at t
                  exact t
              have q43 : ρ 43 = a5 := by
                  have t := f38 5 (by decide)
                  simp only [q37, hGp] at t
                  exact t
              have q44 : ρ 44 = a6 := by
                  have t := f38 6 (by decide)
                  simp only [q37, hGp] at t
                  exact t
              have q45 : ρ 45 = a7 := by
                  have t := f38 7 (by decide)
                  simp only [q37, hGp] at t
                  exact t
              have q46 : ρ 46 = a8 := by
                  have t := f38 8 (by decide)
                  simp only [q37, hGp] at t
                  exact t
              have q47 : ρ 47 = a9 := by
                  have t := f38 9 (by decide)
                  simp only [q37, hGp] at t
                  exact t
              have q48 : ρ 48 = a10 := by
                  have t := f38 10 (by decide)
                  simp only [q37, hGp] at t
                  exact t
              have q49 : ρ 49 = a11 := by
                  have t := f38 11 (by decide)
                  simp only [q37, hGp] at t
                  exact t
              have q50 : ρ 50 = a12 := by
                  have t := f38 12 (by decide)
                  simp only [q37, hGp] at t
                  exact t
              have q51 : ρ 51 = a13 := by
                  have t := f38 13 (by decide)
                  simp only [q37, hGp] at t
                  exact t
              have q52 : ρ 52 = a14 := by
                  have t := f38 14 (by decide)
                  simp only [q37, hGp] at t
                  exact t
              have q53 : ρ 53 = 0 := by
                  have t := f38 15 (by decide)
                  simp only [q37, hGp] at t
                  exact t
              have q54 : ρ 54 = (b2i (decide ((0 : Int) ≠ 0))) := b2i_dec f54 (by simp only [q53])
              have q55 : ρ 55 = (b2i (decide ([a0, a1, a2, a3, a4, a5, a6, a7, a8, a9, a10, a11, a12, a13, a14] = [a0, a1, a2, a3, a4, a5, a6, a7, a8, a9, a10, a11, a12, a13, a14]))) := b2i_eqs (l := [a0, a1, a2, a3, a4, a5, a6, a7, a8, a9, a10, a11, a12, a13, a14]) (m := [a0, a1, a2, a3, a4, a5, a6, a7, a8, a9, a10, a11, a12, a13, a14]) f55 (by simp only [List.map_cons, List.map_nil, Ref.den, q38, q0, q39, q1, q40, q2, q41, q3, q42, q4, q43, q5, q44, q6, q45, q7, q46, q8, q47, q9, q48, q10, q49, q11, q50, q12, q51, q13, q52, q14]) (by simp only [List.map_cons, List.map_nil, Ref.den, q38, q0, q39, q1, q40, q2, q41, q3, q42, q4, q43, q5, q44, q6, q45, q7, q46, q8, q47, q9, q48, q10, q49, q11, q50, q12, q51, q13, q52, q14])
              have q56 : ρ 56 = (b2i (!(decide ([a0, a1, a2, a3, a4, a5, a6, a7, a8, a9, a10, a11, a12, a13, a14] = [a0, a1, a2, a3, a4, a5, a6, a7, a8, a9, a10, a11, a12, a13, a14])))) := b2i_not f56 q55
              have q57 : ρ 57 = (b2i (goodE [b0, b1, b2, b3, b4, b5, b6, b7, b8, b9, b10, b11, b12, b13, b14])) := by
                  have t := f57 0 (by decide)
                  simp only [q15, q16, q17, q18, q19, q20, q21, q22, q23, q24, q25, q26, q27, q28, q29] at t
                  exact t
              have q58 : ρ 58 = (codZ (putE [b0, b1, b2, b3, b4, b5, b6, b7, b8, b9, b10, b11, b12, b13, b14])) := by
                  have t := f58 0 (by decide)
                  simp only [q15, q16, q17, q18, q19, q20, q21, q22, q23, q24, q25, q26, q27, q28, q29] at t
                  exact t
              have q59 : ρ 59 = (b2i (decide ((codZ (putE [a0, a1, a2, a3, a4, a5, a6, a7, a8, a9, a10, a11, a12, a13, a14])) = (codZ (putE [b0, b1, b2, b3, b4, b5, b6, b7, b8, b9, b10, b11, b12, b13, b14]))))) := b2i_dec f59 (by simp only [q37, q58])
              have q60 : ρ 60 = (b2i (decide ([a0, a1, a2, a3, a4, a5, a6, a7, a8, a9, a10, a11, a12, a13, a14] = [b0, b1, b2, b3, b4, b5, b6, b7, b8, b9, b10, b11, b12, b13, b14]))) := b2i_eqs (l := [a0, a1, a2, a3, a4, a5, a6, a7, a8, a9, a10, a11, a12, a13, a14]) (m := [b0, b1, b2, b3, b4, b5, b6, b7, b8, b9, b10, b11, b12, b13, b14]) f60 (by simp only [List.map_cons, List.map_nil, Ref.den, q0, q15, q1, q16, q2, q17, q3, q18, q4, q19, q5, q20, q6, q21, q7, q22, q8, q23, q9, q24, q10, q25, q11, q26, q12, q27, q13, q28, q14, q29]) (by simp only [List.map_cons, List.map_nil, Ref.den, q0, q15, q1, q16, q2, q17, q3, q18, q4, q19, q5, q20, q6, q21, q7, q22, q8, q23, q9, q24, q10, q25, q11, q26, q12, q27, q13, q28, q14, q29])
              have q61 : ρ 61 = (b2i (((decide ((codZ (putE [a0, a1, a2, a3, a4, a5, a6, a7, a8, a9, a10, a11, a12, a13, a14])) = (codZ (putE [b0, b1, b2, b3, b4, b5, b6, b7, b8, b9, b10, b11, b12, b13, b14])))) == (decide ([a0, a1, a2, a3, a4, a5, a6, a7, a8, a9, a10, a11, a12, a13, a14] = [b0, b1, b2, b3, b4, b5, b6, b7, b8, b9, b10, b11, b12, b13, b14]))) != true)) := b2i_beq f61 q59 q60
              have q62 : ρ 62 = (b2i (decide (y0 < 0))) := b2i_dec f62 (by simp only [q30])
              have q63 : ρ 63 = ((decZ (codZ (putE [a0, a1, a2, a3, a4, a5, a6, a7, a8, a9, a10, a11, a12, a13, a14]))).length : Int) := by rw [f63, q37]
              have q64 : ρ 64 = (b2i (decide (((decZ (codZ (putE [a0, a1, a2, a3, a4, a5, a6, a7, a8, a9, a10, a11, a12, a13, a14]))).length : Int) ≤ y0))) := b2i_dec f64 (by simp only [q30, q63])
              refine ⟨?_, ?_⟩
              · simp only [G_nil, G_bin, G_cmp, G_not, G_conv, G_eqs, G_call, G_cond, G_need, G_idx, G_sel, G_upd, G_shv, G_beq, G_prim, G_byte, G_cut, G_cat, List.map_cons, List.map_nil, Ref.den]
                refine ⟨?_, ?_, ?_, ?_, ?_, ?_, ?_, ?_, ?_, ?_, ?_, ?_, ?_, ?_, ?_, ?_, ?_, ?_, trivial⟩
                · exact trivial
                · exact b2i_cond q32 (by simp only [Bool.not_true, decide_true, decide_false, Bool.and_true, Bool.true_and, Bool.and_false, Bool.false_and, Bool.or_true, Bool.true_or, Bool.or_false, Bool.false_or, Bool.not_true, Bool.not_false, if_true, if_false, Bool.false_eq_true])
                · exact trivial
                · exact b2i_cond q33 (by simp only [c1, decide_true, decide_false, Bool.and_true, Bool.true_and, Bool.and_false, Bool.false_and, Bool.or_true, Bool.true_or, Bool.or_false, Bool.false_or, Bool.not_true, Bool.not_false, if_true, if_false, Bool.false_eq_true])
                · exact trivial
                · exact b2i_cond q34 (by simp only [c3, decide_true, decide_false, Bool.and_true, Bool.true_and, Bool.and_false, Bool.false_and, Bool.or_true, Bool.true_or, Bool.or_false, Bool.false_or, Bool.not_true, Bool.not_false, if_true, if_false, Bool.false_eq_true])
                · exact by show (decZ (ρ 11)).length ≤ 1000 ∧ (decZ (ρ 12)).length ≤ 1000 ∧ (decZ (ρ 13)).length ≤ 1000; rw [q11, q12, q13]; exact m0
                · exact b2i_cond q36 (by simp only [c5, decide_true, decide_false, Bool.and_true, Bool.true_and, Bool.and_false, Bool.false_and, Bool.or_true, Bool.true_or, Bool.or_false, Bool.false_or, Bool.not_true, Bool.not_false, if_true, if_false, Bool.false_eq_true])
                · exact by show (decZ (ρ 11)).length ≤ 1000 ∧ (decZ (ρ 12)).length ≤ 1000 ∧ (decZ (ρ 13)).length ≤ 1000; rw [q11, q12, q13]; exact m0
                · exact by show (decZ (ρ 37)).length ≤ 1000; rw [q37, decZ_codZ]; exact hpl
                · exact b2i_cond q54 (by simp)
                · exact b2i_cond q56 (by simp only [kE, decide_true, decide_false, Bool.and_true, Bool.true_and, Bool.and_false, Bool.false_and, Bool.or_true, Bool.true_or, Bool.or_false, Bool.false_or, Bool.not_true, Bool.not_false, if_true, if_false, Bool.false_eq_true])
                · exact by show (decZ (ρ 26)).length ≤ 1000 ∧ (decZ (ρ 27)).length ≤ 1000 ∧ (decZ (ρ 28)).length ≤ 1000; rw [q26, q27, q28]; exact m1
                · exact b2i_cond q57 (by simp only [c7, decide_true, decide_false, Bool.and_true, Bool.true_and, Bool.and_false, Bool.false_and, Bool.or_true, Bool.true_or, Bool.or_false, Bool.false_or, Bool.not_true, Bool.not_false, if_true, if_false, Bool.false_eq_true])
                · exact by show (decZ (ρ 26)).length ≤ 1000 ∧ (decZ (ρ 27)).length ≤ 1000 ∧ (decZ (ρ 28)).length ≤ 1000; rw [q26, q27, q28]; exact m1
                · exact b2i_cond q61 (by simp only [kB, decide_true, decide_false, Bool.and_true, Bool.true_and, Bool.and_false, Bool.false_and, Bool.or_true, Bool.true_or, Bool.or_false, Bool.false_or, Bool.not_true, Bool.not_false, if_true, if_false, Bool.false_eq_true])
                · exact b2i_cond q62 (by simp only [c9, decide_true, decide_false, Bool.and_true, Bool.true_and, Bool.and_false, Bool.false_and, Bool.or_true, Bool.true_or, Bool.or_false, Bool.false_or, Bool.not_true, Bool.not_false, if_true, if_false, Bool.false_eq_true])
                · exact b2i_cond q64 (by simp only [c10, decide_true, decide_false, Bool.and_true, Bool.true_and, Bool.and_false, Bool.false_and, Bool.or_true, Bool.true_or, Bool.or_false, Bool.false_or, Bool.not_true, Bool.not_false, if_true, if_false, Bool.false_eq_true])
              · rfl
          · refine Go.Sx.Way.of (dec := [false, false, false, false, false, false, true, false, true]) (fs := [.need 40 [], .call 31 40 [] 1, .not 32 (.v 31), .cond 32 false, .need 13 [[.v 0, .v 1, .v 2, .v 3, .v 4, .v 5, .v 6, .v 7, .v 8, .v 9, .v 10, .v 11, .v 12, .v 13, .v 14]], .call 33 13 [[.v 0, .v 1, .v 2, .v 3, .v 4, .v 5, .v 6, .v 7, .v 8, .v 9, .v 10, .v 11, .v 12, .v 13, .v 14]] 1, .cond 33 false, .need 13 [[.v 15, .v 16, .v 17, .v 18, .v 19, .v 20, .v 21, .v 22, .v 23, .v 24, .v 25, .v 26, .v 27, .v 28, .v 29]], .call 34 13 [[.v 15, .v 16, .v 17, .v 18, .v 19, .v 20, .v 21, .v 22, .v 23, .v 24, .v 25, .v 26, .v 27, .v 28, .v 29]] 1, .cond 34 false, .need 10 [[.v 0, .v 1, .v 2, .v 3, .v 4, .v 5, .v 6, .v 7, .v 8, .v 9, .v 10, .v 11, .v 12, .v 13, .v 14]], .call 35 10 [[.v 0, .v 1, .v 2, .v 3, .v 4, .v 5, .v 6, .v 7, .v 8, .v 9, .v 10, .v 11, .v 12, .v 13, .v 14]] 1, .not 36 (.v 35), .cond 36 false, .need 14 [[.v 0, .v 1, .v 2, .v 3, .v 4, .v 5, .v 6, .v 7, .v 8, .v 9, .v 10, .v 11, .v 12, .v 13, .v 14]], .call 37 14 [[.v 0, .v 1, .v 2, .v 3, .v 4, .v 5, .v 6, .v 7, .v 8, .v 9, .v 10, .v 11, .v 12, .v 13, .v 14]] 1, .need 15 [[.v 37]], .call 38 15 [[.v 37]] 16, .cmp 54 .neq (.v 53) (.l 0), .cond 54 false, .eqs 55 [(.v 38, .v 0), (.v 39, .v 1), (.v 40, .v 2), (.v 41, .v 3), (.v 42, .v 4), (.v 43, .v 5), (.v 44, .v 6), (.v 45, .v 7), (.v 46, .v 8), (.v 47, .v 9), (.v 48, .v 10), (.v 49, .v 11), (.v 50, .v 12), (.v 51, .v 13), (.v 52, .v 14)], .not 56 (.v 55), .cond 56 false, .need 10 [[.v 15, .v 16, .v 17, .v 18, .v 19, .v 20, .v 21, .v 22, .v 23, .v 24, .v 25, .v 26, .v 27, .v 28, .v 29]], .call 57 10 [[.v 15, .v 16, .v 17, .v 18, .v 19, .v 20, .v 21, .v 22, .v 23, .v 24, .v 25, .v 26, .v 27, .v 28, .v 29]] 1, .cond 57 true, .need 14 [[.v 15, .v 16, .v 17, .v 18, .v 19, .v 20, .v 21, .v 22, .v 23, .v 24, .v 25, .v 26, .v 27, .v 28, .v 29]], .call 58 14 [[.v 15, .v 16, .v 17, .v 18, .v 19, .v 20, .v 21, .v 22, .v 23, .v 24, .v 25, .v 26, .v 27, .v 28, .v 29]] 1, .cmp 59 .eql (.v 37) (.v 58), .eqs 60 [(.v 0, .v 15), (.v 1, .v 16), (.v 2, .v 17), (.v 3, .v 18), (.v 4, .v 19), (.v 5, .v 20), (.v 6, .v 21), (.v 7, .v 22), (.v 8, .v 23), (.v 9, .v 24), (.v 10, .v 25), (.v 11, .v 26), (.v 12, .v 27), (.v 13, .v 28), (.v 14, .v 29)], .beq 61 true (.v 59) (.v 60), .cond 61 false, .cmp 62 .lss (.v 30) (.l 0), .cond 62 true]) (refs := [.l 1]) (by kernel_rfl) fun ρ hρ hd => ?_
            simp only [D_nil, D_add, D_sub, D_mul, D_and, D_or, D_xor, D_shl, D_shr, D_andNot, D_quo, D_rem, D_add_i64, D_sub_i64, D_mul_i64, D_add_u32, D_sub_u32, D_mul_u32, D_add_u8, D_sub_u8, D_mul_u8, D_eql, D_neq, D_lss, D_leq, D_gtr, D_geq, D_not, D_conv, D_eqs, D_call, D_cond, D_need, D_idx, D_sel, D_upd, D_shv, D_beq, D_len, D_byte, D_cut, D_cat, D_must, List.map_cons, List.map_nil, Ref.den] at hd
            obtain ⟨f31, f32, f33, f34, f35, f36, f37, f38, f54, f55, f56, f57, f58, f59, f60, f61, f62, -⟩ := hd
            have q0 : ρ 0 = a0 := hρ 0 (by decide)
            have q1 : ρ 1 = a1 := hρ 1 (by decide)
            have q2 : ρ 2 = a2 := hρ 2 (by decide)
            have q3 : ρ 3 = a3 := hρ 3 (by decide)
            have q4 : ρ 4 = a4 := hρ 4 (by decide)
            have q5 : ρ 5 = a5 := hρ 5 (by decide)
            have q6 : ρ 6 = a6 := hρ 6 (by decide)
            have q7 : ρ 7 = a7 := hρ 7 (by decide)
            have q8 : ρ 8 = a8 := hρ 8 (by decide)
            have q9 : ρ 9 = a9 := hρ 9 (by decide)
            have q10 : ρ 10 = a10 := hρ 10 (by decide)
            have q11 : ρ 11 = a11 := hρ 11 (by decide)
            have q12 : ρ 12 = a12 := hρ 12 (by decide)
            have q13 : ρ 13 = a13 := hρ 13 (by decide)
            have q14 : ρ 14 = a14 := hρ 14 (by decide)
            have q15 : ρ 15 = b0 := hρ 15 (by decide)
            have q16 : ρ 16 = b1 := hρ 16 (by decide)
            have q17 : ρ 17 = b2 := hρ 17 (by decide)
            have q18 : ρ 18 = b3 := hρ 18 (by decide)
            have q19 : ρ 19 = b4 := hρ 19 (by decide)
            have q20 : ρ 20 = b5 := hρ 20 (by decide)
            have q21 : ρ 21 = b6 := hρ 21 (by decide)
            have q22 : ρ 22 = b7 := hρ 22 (by decide)
            have q23 : ρ 23 = b8 := hρ 23 (by decide)
            have q24 : ρ 24 = b9 := hρ 24 (by decide)
            have q25 : ρ 25 = b10 := hρ 25 (by decide)
            have q26 : ρ 26 = b11 := hρ 26 (by decide)
            have q27 : ρ 27 = b12 := hρ 27 (by decide)
            have q28 : ρ 28 = b13 := hρ 28 (by decide)
            have q29 : ρ 29 = b14 := hρ 29 (by decide)
            have q30 : ρ 30 = y0 := hρ 30 (by decide)
            have q31 : ρ 31 = (b2i (true)) := by
                have t := f31 0 (by decide)
                exact t
            have q32 : ρ 32 = (b2i (!true)) := b2i_not f32 q31
            have q33 : ρ 33 = (b2i (longE [a0, a1, a2, a3, a4, a5, a6, a7, a8, a9, a10, a11, a12, a13, a14])) := by
                have t := f33 0 (by decide)
                simp only [q0, q1, q2, q3, q4, q5, q6, q7, q8, q9, q10, q11, q12, q13, q14] at t
                exact t
            have q34 : ρ 34 = (b2i (longE [b0, b1, b2, b3, b4, b5, b6, b7, b8, b9, b10, b11, b12, b13, b14])) := by
                have t := f34 0 (by decide)
                simp only [q15, q16, q17, q18, q19, q20, q21, q22, q23, q24, q25, q26, q27, q28, q29] at t
                exact t
            have q35 : ρ 35 = (b2i (goodE [a0, a1, a2, a3, a4, a5, a6, a7, a8, a9, a10, a11, a12, a13, a14])) := by
                have t := f35 0 (by decide)
                simp only [q0, q1, q2, q3, q4, q5, q6, q7, q8, q9, q10, q11, q12, q13, q14] at t
                exact t
            have q36 : ρ 36 = (b2i (!(goodE [a0, a1, a2, a3, a4, a5, a6, a7, a8, a9, a10, a11, a12, a13, a14]))) := b2i_not f36 q35
            have q37 : ρ 37 = (codZ (putE [a0, a1, a2, a3, a4, a5, a6, a7, a8, a9, a10, a11, a12, a13, a14])) := by
                have t := f37 0 (by decide)
                simp only [q0, q1, q2, q3, q4, q5, q6, q7, q8, q9, q10, q11, q12, q13, q14] at t
                exact t
            have q38 : ρ 38 = a0 := by
                have t := f38 0 (by decide)
                simp only [q37, hGp] at t
                exact t
            have q39 : ρ 39 = a1 := by
                have t := f38 1 (by decide)
                simp only [q37, hGp] at t
                exact t
            have q40 : ρ 40 = a2 := by
                have t := f38 2 (by decide)
                simp only [q37, hGp] at t
                exact t
            have q41 : ρ 41 = a3 := by
                have t := f38 3 (by decide)
                simp only [q37, hGp] at t
                exact t
            have q42 : ρ 42 = a4 := by
                have t := f38 4 (by decide)
                simp only [q37, hGp] at t
                exact t
            have q43 : ρ 43 = a5 := by
                have t := f38 5 (by decide)
                simp only [q37, hGp] at t
                exact t
            have q44 : ρ 44 = a6 := by
                have t := f38 6 (by decide)
                simp only [q37, hGp] at t
                exact t
            have q45 : ρ 45 = a7 := by
                have t := f38 7 (by decide)
                simp only [q37, hGp] at t
                exact t
            have q46 : ρ 46 = a8 := by
                have t := f38 8 (by decide)
                simp only [q37, hGp] at t
                exact t
            have q47 : ρ 47 = a9 := by
                have t := f38 9 (by decide)
                simp only [q37, hGp] at t
                exact t
            have q48 : ρ 48 = a10 := by
                have t := f38 10 (by decide)
                simp only [q37, hGp] at t
                exact t
            have q49 : ρ 49 = a11 := by
                have t := f38 11 (by decide)
                simp only [q37, hGp] at t
                exact t
            have q50 : ρ 50 = a12 := by
                have t := f38 12 (by decide)
                simp only [q37, hGp] at t
                exact t
            have q51 : ρ 51 = a13 := by
                have t := f38 13 (by decide)
                simp only [q37, hGp] at t
                exact t
            have q52 : ρ 52 = a14 := by
                have t := f38 14 (by decide)
                simp only [q37, hGp] at t
                exact t
            have q53 : ρ 53 = 0 := by
                have t := f38 15 (by decide)
                simp only [q37, hGp] at t
                exact t
            have q54 : ρ 54 = (b2i (decide ((0 : Int) ≠ 0))) := b2i_dec f54 (by simp only [q53])
            have q55 : ρ 55 = (b2i (decide ([a0, a1, a2, a3, a4, a5, a6, a7, a8, a9, a10, a11, a12, a13, a14] = [a0, a1, a2, a3, a4, a5, a6, a7, a8, a9, a10, a11, a12, a13, a14]))) := b2i_eqs (l := [a0, a1, a2, a3, a4, a5, a6, a7, a8, a9, a10, a11, a12, a13, a14]) (m := [a0, a1, a2, a3, a4, a5, a6, a7, a8, a9, a10, a11, a12, a13, a14]) f55 (by simp only [List.map_cons, List.map_nil, Ref.den, q38, q0, q39, q1, q40, q2, q41, q3, q42, q4, q43, q5, q44, q6, q45, q7, q46, q8, q47, q9, q48, q10, q49, q11, q50, q12, q51, q13, q52, q14]) (by simp only [List.map_cons, List.map_nil, Ref.den, q38, q0, q39, q1, q40, q2, q41, q3, q42, q4, q43, q5, q44, q6, q45, q7, q46, q8, q47, q9, q48, q10, q49, q11, q50, q12, q51, q13, q52, q14])
            have q56 : ρ 56 = (b2i (!(decide ([a0, a1, a2, a3, a4, a5, a6, a7, a8, a9, a10, a11, a12, a13, a14] = [a0, a1, a2, a3, a4, a5, a6, a7, a8, a9, a10, a11, a12, a13, a14])))) := b2i_not f56 q55
            have q57 : ρ 57 = (b2i (goodE [b0, b1, b2, b3, b4, b5, b6, b7, b8, b9, b10, b11, b12, b13, b14])) := by
                have t := f57 0 (by decide)
                simp only [q15, q16, q17, q18, q19, q20, q21, q22, q23, q24, q25, q26, q27, q28, q29] at t
                exact t
            have q58 : ρ 58 = (codZ (putE [b0, b1, b2, b3, b4, b5, b6, b7, b8, b9, b10, b11, b12, b13, b14])) := by
                have t := f58 0 (by decide)
                simp only [q15, q16, q17, q18, q19, q20, q21, q22, q23, q24, q25, q26, q27, q28, q29] at t
                exact t
            have q59 : ρ 59 = (b2i (decide ((codZ (putE [a0, a1, a2, a3, a4, a5, a6, a7, a8, a9, a10, a11, a12, a13, a14])) = (codZ (putE [b0, b1, b2, b3, b4, b5, b6, b7, b8, b9, b10, b11, b12, b13, b14]))))) := b2i_dec f59 (by simp only [q37, q58])
            have q60 : ρ 60 = (b2i (decide ([a0, a1, a2, a3, a4, a5, a6, a7, a8, a9, a10, a11, a12, a13, a14] = [b0, b1, b2, b3, b4, b5, b6, b7, b8, b9, b10, b11, b12, b13, b14]))) := b2i_eqs (l := [a0, a1, a2, a3, a4, a5, a6, a7, a8, a9, a10, a11, a12, a13, a14]) (m := [b0, b1, b2, b3, b4, b5, b6, b7, b8, b9, b10, b11, b12, b13, b14]) f60 (by simp only [List.map_cons, List.map_nil, Ref.den, q0, q15, q1, q16, q2, q17, q3, q18, q4, q19, q5, q20, q6, q21, q7, q22, q8, q23, q9, q24, q10, q25, q11, q26, q12, q27, q13, q28, q14, q29]) (by simp only [List.map_cons, List.map_nil, Ref.den, q0, q15, q1, q16, q2, q17, q3, q18, q4, q19, q5, q20, q6, q21, q7, q22, q8, q23, q9, q24, q10, q25, q11, q26, q12, q27, q13, q28, q14, q29])
            have q61 : ρ 61 = (b2i (((decide ((codZ (putE [a0, a1, a2, a3, a4, a5, a6, a7, a8, a9, a10, a11, a12, a13, a14])) = (codZ (putE [b0, b1, b2, b3, b4, b5, b6, b7, b8, b9, b10, b11, b12, b13, b14])))) == (decide ([a0, a1, a2, a3, a4, a5, a6, a7, a8, a9, a10, a11, a12, a13, a14] = [b0, b1, b2, b3, b4, b5, b6, b7, b8, b9, b10, b11, b12, b13, b14]))) != true)) := b2i_beq f61 q59 q60
            have q62 : ρ 62 = (b2i (decide (y0 < 0))) := b2i_dec f62 (by simp only [q30])
            refine ⟨?_, ?_⟩
            · simp only [G_nil, G_bin, G_cmp, G_not, G_conv, G_eqs, G_call, G_cond, G_need, G_idx, G_sel, G_upd, G_shv, G_beq, G_prim, G_byte, G_cut, G_cat, List.map_cons, List.map_nil, Ref.den]
              refine ⟨?_, ?_, ?_, ?_, ?_, ?_, ?_, ?_, ?_, ?_, ?_, ?_, ?_, ?_, ?_, ?_, ?_, trivial⟩
              · exact trivial
              · exact b2i_cond q32 (by simp only [Bool.not_true, decide_true, decide_false, Bool.and_true, Bool.true_and, Bool.and_false, Bool.false_and, Bool.or_true, Bool.true_or, Bool.or_false, Bool.false_or, Bool.not_true, Bool.not_false, if_true, if_false, Bool.false_eq_true])
              · exact trivial
              · exact b2i_cond q33 (by simp only [c1, decide_true, decide_false, Bool.and_true, Bool.true_and, Bool.and_false, Bool.false_and, Bool.or_true, Bool.true_or, Bool.or_false, Bool.false_or, Bool.not_true, Bool.not_false, if_true, if_false, Bool.false_eq_true])
              · exact trivial
              · exact b2i_cond q34 (by simp only [c3, decide_true, decide_false, Bool.and_true, Bool.true_and, Bool.and_false, Bool.false_and, Bool.or_true, Bool.true_or, Bool.or_false, Bool.false_or, Bool.not_true, Bool.not_false, if_true, if_false, Bool.false_eq_true])
              · exact by show (decZ (ρ 11)).length ≤ 1000 ∧ (decZ (ρ 12)).length ≤ 1000 ∧ (decZ (ρ 13)).length ≤ 1000; rw [q11, q12, q13]; exact m0
              · exact b2i_cond q36 (by simp only [c5, decide_true, decide_false, Bool.and_true, Bool.true_and, Bool.and_false, Bool.false_and, Bool.or_true, Bool.true_or, Bool.or_false, Bool.false_or, Bool.not_true, Bool.not_false, if_true, if_false, Bool.false_eq_true])
              · exact by show (decZ (ρ 11)).length ≤ 1000 ∧ (decZ (ρ 12)).length ≤ 1000 ∧ (decZ (ρ 13)).length ≤ 1000; rw [q11, q12, q13]; exact m0
              · exact by show (decZ (ρ 37)).length ≤ 1000; rw [q37, decZ_codZ]; exact hpl
              · exact b2i_cond q54 (by simp)
              · exact b2i_cond q56 (by simp only [kE, decide_true, decide_false, Bool.and_true, Bool.true_and, Bool.and_false, Bool.false_and, Bool.or_true, Bool.true_or, Bool.or_false, Bool.false_or, Bool.not_true, Bool.not_false, if_true, if_false, Bool.false_eq_true])
              · exact by show (decZ (ρ 26)).length ≤ 1000 ∧ (decZ (ρ 27)).length ≤ 1000 ∧ (decZ (ρ 28)).length ≤ 1000; rw [q26, q27, q28]; exact m1
              · exact b2i_cond q57 (by simp only [c7, decide_true, decide_false, Bool.and_true, Bool.true_and, Bool.and_false, Bool.false_and, Bool.or_true, Bool.true_or, Bool.or_false, Bool.false_or, Bool.not_true, Bool.not_false, if_true, if_false, Bool.false_eq_true])
              · exact by show (decZ (ρ 26)).length ≤ 1000 ∧ (decZ (ρ 27)).length ≤ 1000 ∧ (decZ (ρ 28)).length ≤ 1000; rw [q26, q27, q28]; exact m1
              · exact b2i_cond q61 (by simp only [kB, decide_true, decide_false, Bool.and_true, Bool.true_and, Bool.and_false, Bool.false_and, Bool.or_true, Bool.true_or, Bool.or_false, Bool.false_or, Bool.not_true, Bool.not_false, if_true, if_false, Bool.false_eq_true])
              · exact b2i_cond q62 (by simp only [c9, decide_true, decide_false, Bool.and_true, Bool.true_and, Bool.and_false, Bool.false_and, Bool.or_true, Bool.true_or, Bool.or_false, Bool.false_or, Bool.not_true, Bool.not_false, if_true, if_false, Bool.false_eq_true])
            · rfl
    · refine Go.Sx.Way.of (dec := [false, false, true]) (fs := [.need 40 [], .call 31 40 [] 1, .not 32 (.v 31), .cond 32 false, .need 13 [[.v 0, .v 1, .v 2, .v 3, .v 4, .v 5, .v 6, .v 7, .v 8, .v 9, .v 10, .v 11, .v 12, .v 13, .v 14]], .call 33 13 [[.v 0, .v 1, .v 2, .v 3, .v 4, .v 5, .v 6, .v 7, .v 8, .v 9, .v 10, .v 11, .v 12, .v 13, .v 14]] 1, .cond 33 false, .need 13 [[.v 15, .v 16, .v 17, .v 18, .v 19, .v 20, .v 21, .v 22, .v 23, .v 24, .v 25, .v 26, .v 27, .v 28, .v 29]], .call 34 13 [[.v 15, .v 16, .v 17, .v 18, .v 19, .v 20, .v 21, .v 22, .v 23, .v 24, .v 25, .v 26, .v 27, .v 28, .v 29]] 1, .cond 34 true]) (refs := [.l 1]) (by kernel_rfl) fun ρ hρ hd => ?_
      simp only [D_nil, D_add, D_sub, D_mul, D_and, D_or, D_xor, D_shl, D_shr, D_andNot, D_quo, D_rem, D_add_i64, D_sub_i64, D_mul_i64, D_add_u32, D_sub_u32, D_mul_u32, D_add_u8, D_sub_u8, D_mul_u8, D_eql, D_neq, D_lss, D_leq, D_gtr, D_geq, D_not, D_conv, D_eqs, D_call, D_cond, D_need, D_idx, D_sel, D_upd, D_shv, D_beq, D_len, D_byte, D_cut, D_cat, D_must, List.map_cons, List.map_nil, Ref.den] at hd
      obtain ⟨f31, f32, f33, f34, -⟩ := hd
      have q0 : ρ 0 = a0 := hρ 0 (by decide)
      have q1 : ρ 1 = a1 := hρ 1 (by decide)
      have q2 : ρ 2 = a2 := hρ 2 (by decide)
      have q3 : ρ 3 = a3 := hρ 3 (by decide)
      have q4 : ρ 4 = a4 := hρ 4 (by decide)
      have q5 : ρ 5 = a5 := hρ 5 (by decide)
      have q6 : ρ 6 = a6 := hρ 6 (by decide)
      have q7 : ρ 7 = a7 := hρ 7 (by decide)
      have q8 : ρ 8 = a8 := hρ 8 (by decide)
      have q9 : ρ 9 = a9 := hρ 9 (by decide)
      have q10 : ρ 10 = a10 := hρ 10 (by decide)
      have q11 : ρ 11 = a11 := hρ 11 (by decide)
      have q12 : ρ 12 = a12 := hρ 12 (by decide)
      have q13 : ρ 13 = a13 := hρ 13 (by decide)
      have q14 : ρ 14 = a14 := hρ 14 (by decide)
      have q15 : ρ 15 = b0 := hρ 15 (by decide)
      have q16 : ρ 16 = b1 := hρ 16 (by decide)
      have q17 : ρ 17 = b2 := hρ 17 (by decide)
      have q18 : ρ 18 = b3 := hρ 18 (by decide)
      have q19 : ρ 19 = b4 := hρ 19 (by decide)
      have q20 : ρ 20 = b5 := hρ 20 (by decide)
      have q21 : ρ 21 = b6 := hρ 21 (by decide)
      have q22 : ρ 22 = b7 := hρ 22 (by decide)
      have q23 : ρ 23 = b8 := hρ 23 (by decide)
      have q24 : ρ 24 = b9 := hρ 24 (by decide)
      have q25 : ρ 25 = b10 := hρ 25 (by decide)
      have q26 : ρ 26 = b11 := hρ 26 (by decide)
      have q27 : ρ 27 = b12 := hρ 27 (by decide)
      have q28 : ρ 28 = b13 := hρ 28 (by decide)
      have q29 : ρ 29 = b14 := hρ 29 (by decide)
      have q31 : ρ 31 = (b2i (true)) := by
          have t := f31 0 (by decide)
          exact t
      have q32 : ρ 32 = (b2i (!true)) := b2i_not f32 q31
      have q33 : ρ 33 = (b2i (longE [a0, a1, a2, a3, a4, a5, a6, a7, a8, a9, a10, a11, a12, a13, a14])) := by
          have t := f33 0 (by decide)
          simp only [q0, q1, q2, q3, q4, q5, q6, q7, q8, q9, q10, q11, q12, q13, q14] at t
          exact t
      have q34 : ρ 34 = (b2i (longE [b0, b1, b2, b3, b4, b5, b6, b7, b8, b9, b10, b11, b12, b13, b14])) := by
          have t := f34 0 (by decide)
          simp only [q15, q16, q17, q18, q19, q20, q21, q22, q23, q24, q25, q26, q27, q28, q29] at t
          exact t
      refine ⟨?_, ?_⟩
      · simp only [G_nil, G_bin, G_cmp, G_not, G_conv, G_eqs, G_call, G_cond, G_need, G_idx, G_sel, G_upd, G_shv, G_beq, G_prim, G_byte, G_cut, G_cat, List.map_cons, List.map_nil, Ref.den]
        refine ⟨?_, ?_, ?_, ?_, ?_, ?_, trivial⟩
        · exact trivial
        · exact b2i_cond q32 (by simp only [Bool.not_true, decide_true, decide_false, Bool.and_true, Bool.true_and, Bool.and_false, Bool.false_and, Bool.or_true, Bool.true_or, Bool.or_false, Bool.false_or, Bool.not_true, Bool.not_false, if_true, if_false, Bool.false_eq_true])
        · exact trivial
        · exact b2i_cond q33 (by simp only [c1, decide_true, decide_false, Bool.and_true, Bool.true_and, Bool.and_false, Bool.false_and, Bool.or_true, Bool.true_or, Bool.or_false, Bool.false_or, Bool.not_true, Bool.not_false, if_true, if_false, Bool.false_eq_true])
        · exact trivial
        · exact b2i_cond q34 (by simp only [c3, decide_true, decide_false, Bool.and_true, Bool.true_and, Bool.and_false, Bool.false_and, Bool.or_true, Bool.true_or, Bool.or_false, Bool.false_or, Bool.not_true, Bool.not_false, if_true, if_false, Bool.false_eq_true])
      · rfl
  · refine Go.Sx.Way.of (dec := [false, true]) (fs := [.need 40 [], .call 31 40 [] 1, .not 32 (.v 31), .cond 32 false, .need 13 [[.v 0, .v 1, .v 2, .v 3, .v 4, .v 5, .v 6, .v 7, .v 8, .v 9, .v 10, .v 11, .v 12, .v 13, .v 14]], .call 33 13 [[.v 0, .v 1, .v 2, .v 3, .v 4, .v 5, .v 6, .v 7, .v 8, .v 9, .v 10, .v 11, .v 12, .v 13, .v 14]] 1, .cond 33 true]) (refs := [.l 1]) (by kernel_rfl) fun ρ hρ hd => ?_
    simp only [D_nil, D_add, D_sub, D_mul, D_and, D_or, D_xor, D_shl, D_shr, D_andNot, D_quo, D_rem, D_add_i64, D_sub_i64, D_mul_i64, D_add_u32, D_sub_u32, D_mul_u32, D_add_u8, D_sub_u8, D_mul_u8, D_eql, D_neq, D_lss, D_leq, D_gtr, D_geq, D_not, D_conv, D_eqs, D_call, D_cond, D_need, D_idx, D_sel, D_upd, D_shv, D_beq, D_len, D_byte, D_cut, D_cat, D_must, List.map_cons, List.map_nil, Ref.den] at hd
    obtain ⟨f31, f32, f33, -⟩ := hd
    have q0 : ρ 0 = a0 := hρ 0 (by decide)
    have q1 : ρ 1 = a1 := hρ 1 (by decide)
    have q2 : ρ 2 = a2 := hρ 2 (by decide)
    have q3 : ρ 3 = a3 := hρ 3 (by decide)
    have q4 : ρ 4 = a4 := hρ 4 (by decide)
    have q5 : ρ 5 = a5 := hρ 5 (by decide)
    have q6 : ρ 6 = a6 := hρ 6 (by decide)
    have q7 : ρ 7 = a7 := hρ 7 (by decide)
    have q8 : ρ 8 = a8 := hρ 8 (by decide)
    have q9 : ρ 9 = a9 := hρ 9 (by decide)
    have q10 : ρ 10 = a10 := hρ 10 (by decide)
    have q11 : ρ 11 = a11 := hρ 11 (by decide)
    have q12 : ρ 12 = a12 := hρ 12 (by decide)
    have q13 : ρ 13 = a13 := hρ 13 (by decide)
    have q14 : ρ 14 = a14 := hρ 14 (by decide)
    have q31 : ρ 31 = (b2i (true)) := by
        have t := f31 0 (by decide)
        exact t
    have q32 : ρ 32 = (b2i (!true)) := b2i_not f32 q31
    have q33 : ρ 33 = (b2i (longE [a0, a1, a2, a3, a4, a5, a6, a7, a8, a9, a10, a11, a12, a13, a14])) := by
        have t := f33 0 (by decide)
        simp only [q0, q1, q2, q3, q4, q5, q6, q7, q8, q9, q10, q11, q12, q13, q14] at t
        exact t
    refine ⟨?_, ?_⟩
    · simp only [G_nil, G_bin, G_cmp, G_not, G_conv, G_eqs, G_call, G_cond, G_need, G_idx, G_sel, G_upd, G_shv, G_beq, G_prim, G_byte, G_cut, G_cat, List.map_cons, List.map_nil, Ref.den]
      refine ⟨?_, ?_, ?_, ?_, trivial⟩
      · exact trivial
      · exact b2i_cond q32 (by simp only [Bool.not_true, decide_true, decide_false, Bool.and_true, Bool.true_and, Bool.and_false, Bool.false_and, Bool.or_true, Bool.true_or, Bool.or_false, Bool.false_or, Bool.not_true, Bool.not_false, if_true, if_false, Bool.false_eq_true])
      · exact trivial
      · exact b2i_cond q33 (by simp only [c1, decide_true, decide_false, Bool.and_true, Bool.true_and, Bool.and_false, Bool.false_and, Bool.or_true, Bool.true_or, Bool.or_false, Bool.false_or, Bool.not_true, Bool.not_false, if_true, if_false, Bool.false_eq_true])
    · rfl
namespace opBack
theorem walk (W : World) (v0 : Value) (x0 : List Int) (h0 : ArgIs W ED v0 x0) (v1 : Value) (x1 : List Int) (h1 : ArgIs W ED v1 x1) (y0 : Int) (i0 : I64 y0) : Calls Try.prog 5 #[v0, v1, .int .i64 y0] W fun e w' => e = .returned (.bool true) ∧ Below W.heap.size W w' :=
  okOpBack.calls (fn := Try.f5) (body := (Try.f5).body.getD .skip) (by kernel_rfl) (by kernel_rfl) (by kernel_rfl) rfl (xs := [x0, x1, [y0]]) rfl trivial (vs := [v0, v1, .int .i64 y0]) ⟨h0, h1, arg_int (k := .i64) ⟨i0.lo, i0.hi⟩, trivial⟩
end opBack
end Go.Proofs.Ytbhflfdlkiihgaa
