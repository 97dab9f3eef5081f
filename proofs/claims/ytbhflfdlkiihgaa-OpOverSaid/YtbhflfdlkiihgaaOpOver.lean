/- The statement OpOver: the law's walk, by the reckoning. No condition. -/
import Derived.Test.YtbhflfdlkiihgaaOk6
namespace Go.Proofs.Ytbhflfdlkiihgaa
open Go.RowKit Go.Bx Go.Sx
set_option linter.unusedSimpArgs false
set_option linter.unusedVariables false
def cOpOver : Ctr := ⟨6, 41, [ED, ED, ED], [.bool]⟩
set_option maxHeartbeats 1600000 in
theorem okOpOver : CtrOK Try.prog ofns cOpOver := by
  refine CtrOK.of okOT6 mixed (lf := 300) (d := 5) rfl fun w vs xs ha hp => ?_
  obtain ⟨v0, v1, v2, x0, x1, x2, rfl, rfl, h0, h1, h2⟩ := open3 ha
  obtain ⟨hl0, rfl, hg0⟩ := h0
  obtain ⟨a0, a1, a2, a3, a4, a5, a6, a7, a8, a9, a10, a11, a12, a13, a14, rfl⟩ := len15 hl0
  obtain ⟨-, -, -, -, -, -, -, -, -, -, -, ⟨z0c, -⟩, ⟨z0f, -⟩, ⟨z0v, -⟩, -, -⟩ := hg0
  have z0c : 0 ≤ a11 := z0c
  have z0f : 0 ≤ a12 := z0f
  have z0v : 0 ≤ a13 := z0v
  obtain ⟨hl1, rfl, hg1⟩ := h1
  obtain ⟨b0, b1, b2, b3, b4, b5, b6, b7, b8, b9, b10, b11, b12, b13, b14, rfl⟩ := len15 hl1
  obtain ⟨-, -, -, -, -, -, -, -, -, -, -, ⟨z1c, -⟩, ⟨z1f, -⟩, ⟨z1v, -⟩, -, -⟩ := hg1
  have z1c : 0 ≤ b11 := z1c
  have z1f : 0 ≤ b12 := z1f
  have z1v : 0 ≤ b13 := z1v
  obtain ⟨hl2, rfl, hg2⟩ := h2
  obtain ⟨e0, e1, e2, e3, e4, e5, e6, e7, e8, e9, e10, e11, e12, e13, e14, rfl⟩ := len15 hl2
  obtain ⟨-, -, -, -, -, -, -, -, -, -, -, ⟨z2c, -⟩, ⟨z2f, -⟩, ⟨z2v, -⟩, -, -⟩ := hg2
  have z2c : 0 ≤ e11 := z2c
  have z2f : 0 ≤ e12 := z2f
  have z2v : 0 ≤ e13 := z2v
  cases c1 : longE [a0, a1, a2, a3, a4, a5, a6, a7, a8, a9, a10, a11, a12, a13, a14]
  · have n0 := long_not c1
    have m0 : (decZ a11).length ≤ 1000 ∧ (decZ a12).length ≤ 1000 ∧ (decZ a13).length ≤ 1000 := ⟨by omega, by omega, by omega⟩
    cases c3 : longE [b0, b1, b2, b3, b4, b5, b6, b7, b8, b9, b10, b11, b12, b13, b14]
    · have n1 := long_not c3
      have m1 : (decZ b11).length ≤ 1000 ∧ (decZ b12).length ≤ 1000 ∧ (decZ b13).length ≤ 1000 := ⟨by omega, by omega, by omega⟩
      cases c5 : longE [e0, e1, e2, e3, e4, e5, e6, e7, e8, e9, e10, e11, e12, e13, e14]
      · have n2 := long_not c5
        have m2 : (decZ e11).length ≤ 1000 ∧ (decZ e12).length ≤ 1000 ∧ (decZ e13).length ≤ 1000 := ⟨by omega, by omega, by omega⟩
        cases c7 : goodE [a0, a1, a2, a3, a4, a5, a6, a7, a8, a9, a10, a11, a12, a13, a14]
        · refine Go.Sx.Way.of (dec := [false, false, false, false, true]) (fs := [.need 40 [], .call 45 40 [] 1, .not 46 (.v 45), .cond 46 false, .need 13 [[.v 0, .v 1, .v 2, .v 3, .v 4, .v 5, .v 6, .v 7, .v 8, .v 9, .v 10, .v 11, .v 12, .v 13, .v 14]], .call 47 13 [[.v 0, .v 1, .v 2, .v 3, .v 4, .v 5, .v 6, .v 7, .v 8, .v 9, .v 10, .v 11, .v 12, .v 13, .v 14]] 1, .cond 47 false, .need 13 [[.v 15, .v 16, .v 17, .v 18, .v 19, .v 20, .v 21, .v 22, .v 23, .v 24, .v 25, .v 26, .v 27, .v 28, .v 29]], .call 48 13 [[.v 15, .v 16, .v 17, .v 18, .v 19, .v 20, .v 21, .v 22, .v 23, .v 24, .v 25, .v 26, .v 27, .v 28, .v 29]] 1, .cond 48 false, .need 13 [[.v 30, .v 31, .v 32, .v 33, .v 34, .v 35, .v 36, .v 37, .v 38, .v 39, .v 40, .v 41, .v 42, .v 43, .v 44]], .call 49 13 [[.v 30, .v 31, .v 32, .v 33, .v 34, .v 35, .v 36, .v 37, .v 38, .v 39, .v 40, .v 41, .v 42, .v 43, .v 44]] 1, .cond 49 false, .need 10 [[.v 0, .v 1, .v 2, .v 3, .v 4, .v 5, .v 6, .v 7, .v 8, .v 9, .v 10, .v 11, .v 12, .v 13, .v 14]], .call 50 10 [[.v 0, .v 1, .v 2, .v 3, .v 4, .v 5, .v 6, .v 7, .v 8, .v 9, .v 10, .v 11, .v 12, .v 13, .v 14]] 1, .not 51 (.v 50), .cond 51 true]) (refs := [.l 1]) (by kernel_rfl) fun ρ hρ hd => ?_
          simp only [D_nil, D_add, D_sub, D_mul, D_and, D_or, D_xor, D_shl, D_shr, D_andNot, D_quo, D_rem, D_add_i64, D_sub_i64, D_mul_i64, D_add_u32, D_sub_u32, D_mul_u32, D_add_u8, D_sub_u8, D_mul_u8, D_eql, D_neq, D_lss, D_leq, D_gtr, D_geq, D_not, D_conv, D_eqs, D_call, D_cond, D_need, D_idx, D_sel, D_upd, D_shv, D_beq, D_len, D_byte, D_cut, D_cat, D_must, List.map_cons, List.map_nil, Ref.den] at hd
          obtain ⟨f45, f46, f47, f48, f49, f50, f51, -⟩ := hd
          have q0 : ρ 0 = a0 := hρ 0 (by decide)
          have q1 : ρ 1 = a1 := hρ 1 (by decide)
          have q2 : ρ 2 = a2 := hρ 2 (by decide)
          have q3 : ρ 3 = a3 := hρ 3 (by decide)
          have q4 : ρ 4 = a4 := hρ 4 (by decide)
          have q5 : ρ 5 = a5 := hρ 5 (by decide)
          have q6 : ρ 6 = a6 := hρ 6 (by decide)
          have q7 : ρ 7 = a7 := hρ 7 (by decide)
          have q8 : ρ 8 = a8 := hρ 8 (by decide)
          have q9 : ρ 9 = a9 := hρ 9 (by decide)
          have q10 : ρ 10 = a10 := hρ 10 (by decide)
          have q11 : ρ 11 = a11 := hρ 11 (by decide)
          have q12 : ρ 12 = a12 := hρ 12 (by decide)
          have q13 : ρ 13 = a13 := hρ 13 (by decide)
          have q14 : ρ 14 = a14 := hρ 14 (by decide)
          have q15 : ρ 15 = b0 := hρ 15 (by decide)
          have q16 : ρ 16 = b1 := hρ 16 (by decide)
          have q17 : ρ 17 = b2 := hρ 17 (by decide)
          have q18 : ρ 18 = b3 := hρ 18 (by decide)
          have q19 : ρ 19 = b4 := hρ 19 (by decide)
          have q20 : ρ 20 = b5 := hρ 20 (by decide)
          have q21 : ρ 21 = b6 := hρ 21 (by decide)
          have q22 : ρ 22 = b7 := hρ 22 (by decide)
          have q23 : ρ 23 = b8 := hρ 23 (by decide)
          have q24 : ρ 24 = b9 := hρ 24 (by decide)
          have q25 : ρ 25 = b10 := hρ 25 (by decide)
          have q26 : ρ 26 = b11 := hρ 26 (by decide)
          have q27 : ρ 27 = b12 := hρ 27 (by decide)
          have q28 : ρ 28 = b13 := hρ 28 (by decide)
          have q29 : ρ 29 = b14 := hρ 29 (by decide)
          have q30 : ρ 30 = e0 := hρ 30 (by decide)
          have q31 : ρ 31 = e1 := hρ 31 (by decide)
          have q32 : ρ 32 = e2 := hρ 32 (by decide)
          have q33 : ρ 33 = e3 := hρ 33 (by decide)
          have q34 : ρ 34 = e4 := hρ 34 (by decide)
          have q35 : ρ 35 = e5 := hρ 35 (by decide)
          have q36 : ρ 36 = e6 := hρ 36 (by decide)
          have q37 : ρ 37 = e7 := hρ 37 (by decide)
          have q38 : ρ 38 = e8 := hρ 38 (by decide)
          have q39 : ρ 39 = e9 := hρ 39 (by decide)
          have q40 : ρ 40 = e10 := hρ 40 (by decide)
          have q41 : ρ 41 = e11 := hρ 41 (by decide)
          have q42 : ρ 42 = e12 := hρ 42 (by decide)
          have q43 : ρ 43 = e13 := hρ 43 (by decide)
          have q44 : ρ 44 = e14 := hρ 44 (by decide)
          have q45 : ρ 45 = (b2i (true)) := by
              have t := f45 0 (by decide)
              exact t
          have q46 : ρ 46 = (b2i (!true)) := b2i_not f46 q45
          have q47 : ρ 47 = (b2i (longE [a0, a1, a2, a3, a4, a5, a6, a7, a8, a9, a10, a11, a12, a13, a14])) := by
              have t := f47 0 (by decide)
              simp only [q0, q1, q2, q3, q4, q5, q6, q7, q8, q9, q10, q11, q12, q13, q14] at t
              exact t
          have q48 : ρ 48 = (b2i (longE [b0, b1, b2, b3, b4, b5, b6, b7, b8, b9, b10, b11, b12, b13, b14])) := by
              have t := f48 0 (by decide)
              simp only [q15, q16, q17, q18, q19, q20, q21, q22, q23, q24, q25, q26, q27, q28, q29] at t
              exact t
          have q49 : ρ 49 = (b2i (longE [e0, e1, e2, e3, e4, e5, e6, e7, e8, e9, e10, e11, e12, e13, e14])) := by
              have t := f49 0 (by decide)
              simp only [q30, q31, q32, q33, q34, q35, q36, q37, q38, q39, q40, q41, q42, q43, q44] at t
              exact t
          have q50 : ρ 50 = (b2i (goodE [a0, a1, a2, a3, a4, a5, a6, a7, a8, a9, a10, a11, a12, a13, a14])) := by
              have t := f50 0 (by decide)
              simp only [q0, q1, q2, q3, q4, q5, q6, q7, q8, q9, q10, q11, q12, q13, q14] at t
              exact t
          have q51 : ρ 51 = (b2i (!(goodE [a0, a1, a2, a3, a4, a5, a6, a7, a8, a9, a10, a11, a12, a13, a14]))) := b2i_not f51 q50
          refine ⟨?_, ?_⟩
          · simp only [G_nil, G_bin, G_cmp, G_not, G_conv, G_eqs, G_call, G_cond, G_need, G_idx, G_sel, G_upd, G_shv, G_beq, G_prim, G_byte, G_cut, G_cat, List.map_cons, List.map_nil, Ref.den]
            refine ⟨?_, ?_, ?_, ?_, ?_, ?_, ?_, ?_, ?_, ?_, trivial⟩
            · exact trivial
            · exact b2i_cond q46 (by simp only [Bool.not_true, decide_true, decide_false, Bool.and_true, Bool.true_and, Bool.and_false, Bool.false_and, Bool.or_true, Bool.true_or, Bool.or_false, Bool.false_or, Bool.not_true, Bool.not_false, if_true, if_false, Bool.false_eq_true])
            · exact trivial
            · exact b2i_cond q47 (by simp only [c1, decide_true, decide_false, Bool.and_true, Bool.true_and, Bool.and_false, Bool.false_and, Bool.or_true, Bool.true_or, Bool.or_false, Bool.false_or, Bool.not_true, Bool.not_false, if_true, if_false, Bool.false_eq_true])
            · exact trivial
            · exact b2i_cond q48 (by simp only [c3, decide_true, decide_false, Bool.and_true, Bool.true_and, Bool.and_false, Bool.false_and, Bool.or_true, Bool.true_or, Bool.or_false, Bool.false_or, Bool.not_true, Bool.not_false, if_true, if_false, Bool.false_eq_true])
            · exact trivial
            · exact b2i_cond q49 (by simp only [c5, decide_true, decide_false, Bool.and_true, Bool.true_and, Bool.and_false, Bool.false_and, Bool.or_true, Bool.true_or, Bool.or_false, Bool.false_or, Bool.not_true, Bool.not_false, if_true, if_false, Bool.false_eq_true])
            · exact by show (decZ (ρ 11)).length ≤ 1000 ∧ (decZ (ρ 12)).length ≤ 1000 ∧ (decZ (ρ 13)).length ≤ 1000; rw [q11, q12, q13]; exact m0
            · exact b2i_cond q51 (by simp only [c7, decide_true, decide_false, Bool.and_true, Bool.true_and, Bool.and_false, Bool.false_and, Bool.or_true, Bool.true_or, Bool.or_false, Bool.false_or, Bool.not_true, Bool.not_false, if_true, if_false, Bool.false_eq_true])
          · rfl
        · have k0 : overE [a0, a1, a2, a3, a4, a5, a6, a7, a8, a9, a10, a11, a12, a13, a14] [a0, a1, a2, a3, a4, a5, a6, a7, a8, a9, a10, a11, a12, a13, a14] = false := over_self c7
          have k1 : lessE [a0, a1, a2, a3, a4, a5, a6, a7, a8, a9, a10, a11, a12, a13, a14] [a0, a1, a2, a3, a4, a5, a6, a7, a8, a9, a10, a11, a12, a13, a14] = false := by rw [Bool.eq_false_iff, ne_eq, less_is]; omega
          cases c10 : lessE [a0, a1, a2, a3, a4, a5, a6, a7, a8, a9, a10, a11, a12, a13, a14] [b0, b1, b2, b3, b4, b5, b6, b7, b8, b9, b10, b11, b12, b13, b14]
          · refine Go.Sx.Way.of (dec := [false, false, false, false, false, false, false, false, true]) (fs := [.need 40 [], .call 45 40 [] 1, .not 46 (.v 45), .cond 46 false, .need 13 [[.v 0, .v 1, .v 2, .v 3, .v 4, .v 5, .v 6, .v 7, .v 8, .v 9, .v 10, .v 11, .v 12, .v 13, .v 14]], .call 47 13 [[.v 0, .v 1, .v 2, .v 3, .v 4, .v 5, .v 6, .v 7, .v 8, .v 9, .v 10, .v 11, .v 12, .v 13, .v 14]] 1, .cond 47 false, .need 13 [[.v 15, .v 16, .v 17, .v 18, .v 19, .v 20, .v 21, .v 22, .v 23, .v 24, .v 25, .v 26, .v 27, .v 28, .v 29]], .call 48 13 [[.v 15, .v 16, .v 17, .v 18, .v 19, .v 20, .v 21, .v 22, .v 23, .v 24, .v 25, .v 26, .v 27, .v 28, .v 29]] 1, .cond 48 false, .need 13 [[.v 30, .v 31, .v 32, .v 33, .v 34, .v 35, .v 36, .v 37, .v 38, .v 39, .v 40, .v 41, .v 42, .v 43, .v 44]], .call 49 13 [[.v 30, .v 31, .v 32, .v 33, .v 34, .v 35, .v 36, .v 37, .v 38, .v 39, .v 40, .v 41, .v 42, .v 43, .v 44]] 1, .cond 49 false, .need 10 [[.v 0, .v 1, .v 2, .v 3, .v 4, .v 5, .v 6, .v 7, .v 8, .v 9, .v 10, .v 11, .v 12, .v 13, .v 14]], .call 50 10 [[.v 0, .v 1, .v 2, .v 3, .v 4, .v 5, .v 6, .v 7, .v 8, .v 9, .v 10, .v 11, .v 12, .v 13, .v 14]] 1, .not 51 (.v 50), .cond 51 false, .need 11 [[.v 0, .v 1, .v 2, .v 3, .v 4, .v 5, .v 6, .v 7, .v 8, .v 9, .v 10, .v 11, .v 12, .v 13, .v 14], [.v 0, .v 1, .v 2, .v 3, .v 4, .v 5, .v 6, .v 7, .v 8, .v 9, .v 10, .v 11, .v 12, .v 13, .v 14]], .call 52 11 [[.v 0, .v 1, .v 2, .v 3, .v 4, .v 5, .v 6, .v 7, .v 8, .v 9, .v 10, .v 11, .v 12, .v 13, .v 14], [.v 0, .v 1, .v 2, .v 3, .v 4, .v 5, .v 6, .v 7, .v 8, .v 9, .v 10, .v 11, .v 12, .v 13, .v 14]] 1, .cond 52 false, .need 12 [[.v 0, .v 1, .v 2, .v 3, .v 4, .v 5, .v 6, .v 7, .v 8, .v 9, .v 10, .v 11, .v 12, .v 13, .v 14], [.v 0, .v 1, .v 2, .v 3, .v 4, .v 5, .v 6, .v 7, .v 8, .v 9, .v 10, .v 11, .v 12, .v 13, .v 14]], .call 53 12 [[.v 0, .v 1, .v 2, .v 3, .v 4, .v 5, .v 6, .v 7, .v 8, .v 9, .v 10, .v 11, .v 12, .v 13, .v 14], [.v 0, .v 1, .v 2, .v 3, .v 4, .v 5, .v 6, .v 7, .v 8, .v 9, .v 10, .v 11, .v 12, .v 13, .v 14]] 1, .cond 53 false, .need 12 [[.v 0, .v 1, .v 2, .v 3, .v 4, .v 5, .v 6, .v 7, .v 8, .v 9, .v 10, .v 11, .v 12, .v 13, .v 14], [.v 15, .v 16, .v 17, .v 18, .v 19, .v 20, .v 21, .v 22, .v 23, .v 24, .v 25, .v 26, .v 27, .v 28, .v 29]], .call 54 12 [[.v 0, .v 1, .v 2, .v 3, .v 4, .v 5, .v 6, .v 7, .v 8, .v 9, .v 10, .v 11, .v 12, .v 13, .v 14], [.v 15, .v 16, .v 17, .v 18, .v 19, .v 20, .v 21, .v 22, .v 23, .v 24, .v 25, .v 26, .v 27, .v 28, .v 29]] 1, .cond 54 false, .need 12 [[.v 0, .v 1, .v 2, .v 3, .v 4, .v 5, .v 6, .v 7, .v 8, .v 9, .v 10, .v 11, .v 12, .v 13, .v 14], [.v 15, .v 16, .v 17, .v 18, .v 19, .v 20, .v 21, .v 22, .v 23, .v 24, .v 25, .v 26, .v 27, .v 28, .v 29]], .call 55 12 [[.v 0, .v 1, .v 2, .v 3, .v 4, .v 5, .v 6, .v 7, .v 8, .v 9, .v 10, .v 11, .v 12, .v 13, .v 14], [.v 15, .v 16, .v 17, .v 18, .v 19, .v 20, .v 21, .v 22, .v 23, .v 24, .v 25, .v 26, .v 27, .v 28, .v 29]] 1, .not 56 (.v 55), .cond 56 true]) (refs := [.l 1]) (by kernel_rfl) fun ρ hρ hd => ?_
            simp only [D_nil, D_add, D_sub, D_mul, D_and, D_or, D_xor, D_shl, D_shr, D_andNot, D_quo, D_rem, D_add_i64, D_sub_i64, D_mul_i64, D_add_u32, D_sub_u32, D_mul_u32, D_add_u8, D_sub_u8, D_mul_u8, D_eql, D_neq, D_lss, D_leq, D_gtr, D_geq, D_not, D_conv, D_eqs, D_call, D_cond, D_need, D_idx, D_sel, D_upd, D_shv, D_beq, D_len, D_byte, D_cut, D_cat, D_must, List.map_cons, List.map_nil, Ref.den] at hd
            obtain ⟨f45, f46, f47, f48, f49, f50, f51, f52, f53, f54, f55, f56, -⟩ := hd
            have q0 : ρ 0 = a0 := hρ 0 (by decide)
            have q1 : ρ 1 = a1 := hρ 1 (by decide)
            have q2 : ρ 2 = a2 := hρ 2 (by decide)
            have q3 : ρ 3 = a3 := hρ 3 (by decide)
            have q4 : ρ 4 = a4 := hρ 4 (by decide)
            have q5 : ρ 5 = a5 := hρ 5 (by decide)
            have q6 : ρ 6 = a6 := hρ 6 (by decide)
            have q7 : ρ 7 = a7 := hρ 7 (by decide)
            have q8 : ρ 8 = a8 := hρ 8 (by decide)
            have q9 : ρ 9 = a9 := hρ 9 (by decide)
            have q10 : ρ 10 = a10 := hρ 10 (by decide)
            have q11 : ρ 11 = a11 := hρ 11 (by decide)
            have q12 : ρ 12 = a12 := hρ 12 (by decide)
            have q13 : ρ 13 = a13 := hρ 13 (by decide)
            have q14 : ρ 14 = a14 := hρ 14 (by decide)
            have q15 : ρ 15 = b0 := hρ 15 (by decide)
            have q16 : ρ 16 = b1 := hρ 16 (by decide)
            have q17 : ρ 17 = b2 := hρ 17 (by decide)
            have q18 : ρ 18 = b3 := hρ 18 (by decide)
            have q19 : ρ 19 = b4 := hρ 19 (by decide)
            have q20 : ρ 20 = b5 := hρ 20 (by decide)
            have q21 : ρ 21 = b6 := hρ 21 (by decide)
            have q22 : ρ 22 = b7 := hρ 22 (by decide)
            have q23 : ρ 23 = b8 := hρ 23 (by decide)
            have q24 : ρ 24 = b9 := hρ 24 (by decide)
            have q25 : ρ 25 = b10 := hρ 25 (by decide)
            have q26 : ρ 26 = b11 := hρ 26 (by decide)
            have q27 : ρ 27 = b12 := hρ 27 (by decide)
            have q28 : ρ 28 = b13 := hρ 28 (by decide)
            have q29 : ρ 29 = b14 := hρ 29 (by decide)
            have q30 : ρ 30 = e0 := hρ 30 (by decide)
            have q31 : ρ 31 = e1 := hρ 31 (by decide)
            have q32 : ρ 32 = e2 := hρ 32 (by decide)
            have q33 : ρ 33 = e3 := hρ 33 (by decide)
            have q34 : ρ 34 = e4 := hρ 34 (by decide)
            have q35 : ρ 35 = e5 := hρ 35 (by decide)
            have q36 : ρ 36 = e6 := hρ 36 (by decide)
            have q37 : ρ 37 = e7 := hρ 37 (by decide)
            have q38 : ρ 38 = e8 := hρ 38 (by decide)
            have q39 : ρ 39 = e9 := hρ 39 (by decide)
            have q40 : ρ 40 = e10 := hρ 40 (by decide)
            have q41 : ρ 41 = e11 := hρ 41 (by decide)
            have q42 : ρ 42 = e12 := hρ 42 (by decide)
            have q43 : ρ 43 = e13 := hρ 43 (by decide)
            have q44 : ρ 44 = e14 := hρ 44 (by decide)
            have q45 : ρ 45 = (b2i (true)) := by
                have t := f45 0 (by decide)
                exact t
            have q46 : ρ 46 = (b2i (!true)) := b2i_not f46 q45
            have q47 : ρ 47 = (b2i (longE [a0, a1, a2, a3, a4, a5, a6, a7, a8, a9, a10, a11, a12, a13, a14])) := by
                have t := f47 0 (by decide)
                simp only [q0, q1, q2, q3, q4, q5, q6, q7, q8, q9, q10, q11, q12, q13, q14] at t
                exact t
            have q48 : ρ 48 = (b2i (longE [b0, b1, b2, b3, b4, b5, b6, b7, b8, b9, b10, b11, b12, b13, b14])) := by
                have t := f48 0 (by decide)
                simp only [q15, q16, q17, q18, q19, q20, q21, q22, q23, q24, q25, q26, q27, q28, q29] at t
                exact t
            have q49 : ρ 49 = (b2i (longE [e0, e1, e2, e3, e4, e5, e6, e7, e8, e9, e10, e11, e12, e13, e14])) := by
                have t := f49 0 (by decide)
                simp only [q30, q31, q32, q33, q34, q35, q36, q37, q38, q39, q40, q41, q42, q43, q44] at t
                exact t
            have q50 : ρ 50 = (b2i (goodE [a0, a1, a2, a3, a4, a5, a6, a7, a8, a9, a10, a11, a12, a13, a14])) := by
                have t := f50 0 (by decide)
                simp only [q0, q1, q2, q3, q4, q5, q6, q7, q8, q9, q10, q11, q12, q13, q14] at t
                exact t
            have q51 : ρ 51 = (b2i (!(goodE [a0, a1, a2, a3, a4, a5, a6, a7, a8, a9, a10, a11, a12, a13, a14]))) := b2i_not f51 q50
            have q52 : ρ 52 = (b2i (overE [a0, a1, a2, a3, a4, a5, a6, a7, a8, a9, a10, a11, a12, a13, a14] [a0, a1, a2, a3, a4, a5, a6, a7, a8, a9, a10, a11, a12, a13, a14])) := by
                have t := f52 0 (by decide)
                simp only [q0, q1, q2, q3, q4, q5, q6, q7, q8, q9, q10, q11, q12, q13, q14] at t
                exact t
            have q53 : ρ 53 = (b2i (lessE [a0, a1, a2, a3, a4, a5, a6, a7, a8, a9, a10, a11, a12, a13, a14] [a0, a1, a2, a3, a4, a5, a6, a7, a8, a9, a10, a11, a12, a13, a14])) := by
                have t := f53 0 (by decide)
                simp only [q0, q1, q2, q3, q4, q5, q6, q7, q8, q9, q10, q11, q12, q13, q14] at t
                exact t
            have q54 : ρ 54 = (b2i (lessE [a0, a1, a2, a3, a4, a5, a6, a7, a8, a9, a10, a11, a12, a13, a14] [b0, b1, b2, b3, b4, b5, b6, b7, b8, b9, b10, b11, b12, b13, b14])) := by
                have t := f54 0 (by decide)
                simp only [q0, q1, q2, q3, q4, q5, q6, q7, q8, q9, q10, q11, q12, q13, q14, q15, q16, q17, q18, q19, q20, q21, q22, q23, q24, q25, q26, q27, q28, q29] at t
                exact t
            have q55 : ρ 55 = (b2i (lessE [a0, a1, a2, a3, a4, a5, a6, a7, a8, a9, a10, a11, a12, a13, a14] [b0, b1, b2, b3, b4, b5, b6, b7, b8, b9, b10, b11, b12, b13, b14])) := by
                have t := f55 0 (by decide)
                simp only [q0, q1, q2, q3, q4, q5, q6, q7, q8, q9, q10, q11, q12, q13, q14, q15, q16, q17, q18, q19, q20, q21, q22, q23, q24, q25, q26, q27, q28, q29] at t
                exact t
            have q56 : ρ 56 = (b2i (!(lessE [a0, a1, a2, a3, a4, a5, a6, a7, a8, a9, a10, a11, a12, a13, a14] [b0, b1, b2, b3, b4, b5, b6, b7, b8, b9, b10, b11, b12, b13, b14]))) := b2i_not f56 q55
            refine ⟨?_, ?_⟩
            · simp only [G_nil, G_bin, G_cmp, G_not, G_conv, G_eqs, G_call, G_cond, G_need, G_idx, G_sel, G_upd, G_shv, G_beq, G_prim, G_byte, G_cut, G_cat, List.map_cons, List.map_nil, Ref.den]
              refine ⟨?_, ?_, ?_, ?_, ?_, ?_, ?_, ?_, ?_, ?_, ?_, ?_, ?_, ?_, ?_, ?_, ?_, ?_, trivial⟩
              · exact trivial
              · exact b2i_cond q46 (by simp only [Bool.not_true, decide_true, decide_false, Bool.and_true, Bool.true_and, Bool.and_false, Bool.false_and, Bool.or_true, Bool.true_or, Bool.or_false, Bool.false_or, Bool.not_true, Bool.not_false, if_true, if_false, Bool.false_eq_true])
              · exact trivial
              · exact b2i_cond q47 (by simp only [c1, decide_true, decide_false, Bool.and_true, Bool.true_and, Bool.and_false, Bool.false_and, Bool.or_true, Bool.true_or, Bool.or_false, Bool.false_or, Bool.not_true, Bool.not_false, if_true, if_false, Bool.false_eq_true])
              · exact trivial
              · exact b2i_cond q48 (by simp only [c3, decide_true, decide_false, Bool.and_true, Bool.true_and, Bool.and_false, Bool.false_and, Bool.or_true, Bool.true_or, Bool.or_false, Bool.false_or, Bool.not_true, Bool.not_false, if_true, if_false, Bool.false_eq_true])
              · exact trivial
              · exact b2i_cond q49 (by simp only [c5, decide_true, decide_false, Bool.and_true, Bool.true_and, Bool.and_false, Bool.false_and, Bool.or_true, Bool.true_or, Bool.or_false, Bool.false_or, Bool.not_true, Bool.not_false, if_true, if_false, Bool.false_eq_true])
              · exact by show (decZ (ρ 11)).length ≤ 1000 ∧ (decZ (ρ 12)).length ≤ 1000 ∧ (decZ (ρ 13)).length ≤ 1000; rw [q11, q12, q13]; exact m0
              · exact b2i_cond q51 (by simp only [c7, decide_true, decide_false, Bool.and_true, Bool.true_and, Bool.and_false, Bool.false_and, Bool.or_true, Bool.true_or, Bool.or_false, Bool.false_or, Bool.not_true, Bool.not_false, if_true, if_false, Bool.false_eq_true])
              · exact trivial
              · exact b2i_cond q52 (by simp only [k0, decide_true, decide_false, Bool.and_true, Bool.true_and, Bool.and_false, Bool.false_and, Bool.or_true, Bool.true_or, Bool.or_false, Bool.false_or, Bool.not_true, Bool.not_false, if_true, if_false, Bool.false_eq_true])
              · exact trivial
              · exact b2i_cond q53 (by simp only [k1, decide_true, decide_false, Bool.and_true, Bool.true_and, Bool.and_false, Bool.false_and, Bool.or_true, Bool.true_or, Bool.or_false, Bool.false_or, Bool.not_true, Bool.not_false, if_true, if_false, Bool.false_eq_true])
              · exact trivial
              · exact b2i_cond q54 (by simp only [c10, decide_true, decide_false, Bool.and_true, Bool.true_and, Bool.and_false, Bool.false_and, Bool.or_true, Bool.true_or, Bool.or_false, Bool.false_or, Bool.not_true, Bool.not_false, if_true, if_false, Bool.false_eq_true])
              · exact trivial
              · exact b2i_cond q56 (by simp only [c10, decide_true, decide_false, Bool.and_true, Bool.true_and, Bool.and_false, Bool.false_and, Bool.or_true, Bool.true_or, Bool.or_false, Bool.false_or, Bool.not_true, Bool.not_false, if_true, if_false, Bool.false_eq_true])
            · rfl
          · have k2 : lessE [b0, b1, b2, b3, b4, b5, b6, b7, b8, b9, b10, b11, b12, b13, b14] [a0, a1, a2, a3, a4, a5, a6, a7, a8, a9, a10, a11, a12, a13, a14] = false := by have h := less_is.1 c10; rw [Bool.eq_false_iff, ne_eq, less_is]; omega
            cases c12 : lessE [b0, b1, b2, b3, b4, b5, b6, b7, b8, b9, b10, b11, b12, b13, b14] [e0, e1, e2, e3, e4, e5, e6, e7, e8, e9, e10, e11, e12, e13, e14]
            · refine Go.Sx.Way.of (dec := [false, false, false, false, false, false, false, true, false, false, true]) (fs := [.need 40 [], .call 45 40 [] 1, .not 46 (.v 45), .cond 46 false, .need 13 [[.v 0, .v 1, .v 2, .v 3, .v 4, .v 5, .v 6, .v 7, .v 8, .v 9, .v 10, .v 11, .v 12, .v 13, .v 14]], .call 47 13 [[.v 0, .v 1, .v 2, .v 3, .v 4, .v 5, .v 6, .v 7, .v 8, .v 9, .v 10, .v 11, .v 12, .v 13, .v 14]] 1, .cond 47 false, .need 13 [[.v 15, .v 16, .v 17, .v 18, .v 19, .v 20, .v 21, .v 22, .v 23, .v 24, .v 25, .v 26, .v 27, .v 28, .v 29]], .call 48 13 [[.v 15, .v 16, .v 17, .v 18, .v 19, .v 20, .v 21, .v 22, .v 23, .v 24, .v 25, .v 26, .v 27, .v 28, .v 29]] 1, .cond 48 false, .need 13 [[.v 30, .v 31, .v 32, .v 33, .v 34, .v 35, .v 36, .v 37, .v 38, .v 39, .v 40, .v 41, .v 42, .v 43, .v 44]], .call 49 13 [[.v 30, .v 31, .v 32, .v 33, .v 34, .v 35, .v 36, .v 37, .v 38, .v 39, .v 40, .v 41, .v 42, .v 43, .v 44]] 1, .cond 49 false, .need 10 [[.v 0, .v 1, .v 2, .v 3, .v 4, .v 5, .v 6, .v 7, .v 8, .v 9, .v 10, .v 11, .v 12, .v 13, .v 14]], .call 50 10 [[.v 0, .v 1, .v 2, .v 3, .v 4, .v 5, .v 6, .v 7, .v 8, .v 9, .v 10, .v 11, .v 12, .v 13, .v 14]] 1, .not 51 (.v 50), .cond 51 false, .need 11 [[.v 0, .v 1, .v 2, .v 3, .v 4, .v 5, .v 6, .v 7, .v 8, .v 9, .v 10, .v 11, .v 12, .v 13, .v 14], [.v 0, .v 1, .v 2, .v 3, .v 4, .v 5, .v 6, .v 7, .v 8, .v 9, .v 10, .v 11, .v 12, .v 13, .v 14]], .call 52 11 [[.v 0, .v 1, .v 2, .v 3, .v 4, .v 5, .v 6, .v 7, .v 8, .v 9, .v 10, .v 11, .v 12, .v 13, .v 14], [.v 0, .v 1, .v 2, .v 3, .v 4, .v 5, .v 6, .v 7, .v 8, .v 9, .v 10, .v 11, .v 12, .v 13, .v 14]] 1, .cond 52 false, .need 12 [[.v 0, .v 1, .v 2, .v 3, .v 4, .v 5, .v 6, .v 7, .v 8, .v 9, .v 10, .v 11, .v 12, .v 13, .v 14], [.v 0, .v 1, .v 2, .v 3, .v 4, .v 5, .v 6, .v 7, .v 8, .v 9, .v 10, .v 11, .v 12, .v 13, .v 14]], .call 53 12 [[.v 0, .v 1, .v 2, .v 3, .v 4, .v 5, .v 6, .v 7, .v 8, .v 9, .v 10, .v 11, .v 12, .v 13, .v 14], [.v 0, .v 1, .v 2, .v 3, .v 4, .v 5, .v 6, .v 7, .v 8, .v 9, .v 10, .v 11, .v 12, .v 13, .v 14]] 1, .cond 53 false, .need 12 [[.v 0, .v 1, .v 2, .v 3, .v 4, .v 5, .v 6, .v 7, .v 8, .v 9, .v 10, .v 11, .v 12, .v 13, .v 14], [.v 15, .v 16, .v 17, .v 18, .v 19, .v 20, .v 21, .v 22, .v 23, .v 24, .v 25, .v 26, .v 27, .v 28, .v 29]], .call 54 12 [[.v 0, .v 1, .v 2, .v 3, .v 4, .v 5, .v 6, .v 7, .v 8, .v 9, .v 10, .v 11, .v 12, .v 13, .v 14], [.v 15, .v 16, .v 17, .v 18, .v 19, .v 20, .v 21, .v 22, .v 23, .v 24, .v 25, .v 26, .v 27, .v 28, .v 29]] 1, .cond 54 true, .need 12 [[.v 15, .v 16, .v 17, .v 18, .v 19, .v 20, .v 21, .v 22, .v 23, .v 24, .v 25, .v 26, .v 27, .v 28, .v 29], [.v 0, .v 1, .v 2, .v 3, .v 4, .v 5, .v 6, .v 7, .v 8, .v 9, .v 10, .v 11, .v 12, .v 13, .v 14]], .call 55 12 [[.v 15, .v 16, .v 17, .v 18, .v 19, .v 20, .v 21, .v 22, .v 23, .v 24, .v 25, .v 26, .v 27, .v 28, .v 29], [.v 0, .v 1, .v 2, .v 3, .v 4, .v 5, .v 6, .v 7, .v 8, .v 9, .v 10, .v 11, .v 12, .v 13, .v 14]] 1, .cond 55 false, .need 12 [[.v 0, .v 1, .v 2, .v 3, .v 4, .v 5, .v 6, .v 7, .v 8, .v 9, .v 10, .v 11, .v 12, .v 13, .v 14], [.v 15, .v 16, .v 17, .v 18, .v 19, .v 20, .v 21, .v 22, .v 23, .v 24, .v 25, .v 26, .v 27, .v 28, .v 29]], .call 56 12 [[.v 0, .v 1, .v 2, .v 3, .v 4, .v 5, .v 6, .v 7, .v 8, .v 9, .v 10, .v 11, .v 12, .v 13, .v 14], [.v 15, .v 16, .v 17, .v 18, .v 19, .v 20, .v 21, .v 22, .v 23, .v 24, .v 25, .v 26, .v 27, .v 28, .v 29]] 1, .not 57 (.v 56), .cond 57 false, .need 12 [[.v 15, .v 16, .v 17, .v 18, .v 19, .v 20, .v 21, .v 22, .v 23, .v 24, .v 25, .v 26, .v 27, .v 28, .v 29], [.v 30, .v 31, .v 32, .v 33, .v 34, .v 35, .v 36, .v 37, .v 38, .v 39, .v 40, .v 41, .v 42, .v 43, .v 44]], .call 58 12 [[.v 15, .v 16, .v 17, .v 18, .v 19, .v 20, .v 21, .v 22, .v 23, .v 24, .v 25, .v 26, .v 27, .v 28, .v 29], [.v 30, .v 31, .v 32, .v 33, .v 34, .v 35, .v 36, .v 37, .v 38, .v 39, .v 40, .v 41, .v 42, .v 43, .v 44]] 1, .not 59 (.v 58), .cond 59 true]) (refs := [.l 1]) (by kernel_rfl) fun ρ hρ hd => ?_
              simp only [D_nil, D_add, D_sub, D_mul, D_and, D_or, D_xor, D_shl, D_shr, D_andNot, D_quo, D_rem, D_add_i64, D_sub_i64, D_mul_i64, D_add_u32, D_sub_u32, D_mul_u32, D_add_u8, D_sub_u8, D_mul_u8, D_eql, D_neq, D_lss, D_leq, D_gtr, D_geq, D_not, D_conv, D_eqs, D_call, D_cond, D_need, D_idx, D_sel, D_upd, D_shv, D_beq, D_len, D_byte, D_cut, D_cat, D_must, List.map_cons, List.map_nil, Ref.den] at hd
              obtain ⟨f45, f46, f47, f48, f49, f50, f51, f52, f53, f54, f55, f56, f57, f58, f59, -⟩ := hd
              have q0 : ρ 0 = a0 := hρ 0 (by decide)
              have q1 : ρ 1 = a1 := hρ 1 (by decide)
              have q2 : ρ 2 = a2 := hρ 2 (by decide)
              have q3 : ρ 3 = a3 := hρ 3 (by decide)
              have q4 : ρ 4 = a4 := hρ 4 (by decide)
              have q5 : ρ 5 = a5 := hρ 5 (by decide)
              have q6 : ρ 6 = a6 := hρ 6 (by decide)
              have q7 : ρ 7 = a7 := hρ 7 (by decide)
              have q8 : ρ 8 = a8 := hρ 8 (by decide)
              have q9 : ρ 9 = a9 := hρ 9 (by decide)
              have q10 : ρ 10 = a10 := hρ 10 (by decide)
              have q11 : ρ 11 = a11 := hρ 11 (by decide)
              have q12 : ρ 12 = a12 := hρ 12 (by decide)
              have q13 : ρ 13 = a13 := hρ 13 (by decide)
              have q14 : ρ 14 = a14 := hρ 14 (by decide)
              have q15 : ρ 15 = b0 := hρ 15 (by decide)
              have q16 : ρ 16 = b1 := hρ 16 (by decide)
              have q17 : ρ 17 = b2 := hρ 17 (by decide)
              have q18 : ρ 18 = b3 := hρ 18 (by decide)
              have q19 : ρ 19 = b4 := hρ 19 (by decide)
              have q20 : ρ 20 = b5 := hρ 20 (by decide)
              have q21 : ρ 21 = b6 := hρ 21 (by decide)
              have q22 : ρ 22 = b7 := hρ 22 (by decide)
              have q23 : ρ 23 = b8 := hρ 23 (by decide)
              have q24 : ρ 24 = b9 := hρ 24 (by decide)
              have q25 : ρ 25 = b10 := hρ 25 (by decide)
              have q26 : ρ 26 = b11 := hρ 26 (by decide)
              have q27 : ρ 27 = b12 := hρ 27 (by decide)
              have q28 : ρ 28 = b13 := hρ 28 (by decide)
              have q29 : ρ 29 = b14 := hρ 29 (by decide)
              have q30 : ρ 30 = e0 := hρ 30 (by decide)
              have q31 : ρ 31 = e1 := hρ 31 (by decide)
              have q32 : ρ 32 = e2 := hρ 32 (by decide)
              have q33 : ρ 33 = e3 := hρ 33 (by decide)
              have q34 : ρ 34 = e4 := hρ 34 (by decide)
              have q35 : ρ 35 = e5 := hρ 35 (by decide)
              have q36 : ρ 36 = e6 := hρ 36 (by decide)
              have q37 : ρ 37 = e7 := hρ 37 (by decide)
              have q38 : ρ 38 = e8 := hρ 38 (by decide)
              have q39 : ρ 39 = e9 := hρ 39 (by decide)
              have q40 : ρ 40 = e10 := hρ 40 (by decide)
              have q41 : ρ 41 = e11 := hρ 41 (by decide)
              have q42 : ρ 42 = e12 := hρ 42 (by decide)
              have q43 : ρ 43 = e13 := hρ 43 (by decide)
              have q44 : ρ 44 = e14 := hρ 44 (by decide)
              have q45 : ρ 45 = (b2i (true)) := by
                  have t := f45 0 (by decide)
                  exact t
              have q46 : ρ 46 = (b2i (!true)) := b2i_not f46 q45
              have q47 : ρ 47 = (b2i (longE [a0, a1, a2, a3, a4, a5, a6, a7, a8, a9, a10, a11, a12, a13, a14])) := by
                  have t := f47 0 (by decide)
                  simp only [q0, q1, q2, q3, q4, q5, q6, q7, q8, q9, q10, q11, q12, q13, q14] at t
                  exact t
              have q48 : ρ 48 = (b2i (longE [b0, b1, b2, b3, b4, b5, b6, b7, b8, b9, b10, b11, b12, b13, b14])) := by
                  have t := f48 0 (by decide)
                  simp only [q15, q16, q17, q18, q19, q20, q21, q22, q23, q24, q25, q26, q27, q28, q29] at t
                  exact t
              have q49 : ρ 49 = (b2i (longE [e0, e1, e2, e3, e4, e5, e6, e7, e8, e9, e10, e11, e12, e13, e14])) := by
                  have t := f49 0 (by decide)
                  simp only [q30, q31, q32, q33, q34, q35, q36, q37, q38, q39, q40, q41, q42, q43, q44] at t
                  exact t
              have q50 : ρ 50 = (b2i (goodE [a0, a1, a2, a3, a4, a5, a6, a7, a8, a9, a10, a11, a12, a13, a14])) := by
                  have t := f50 0 (by decide)
                  simp only [q0, q1, q2, q3, q4, q5, q6, q7, q8, q9, q10, q11, q12, q13, q14] at t
                  exact t
              have q51 : ρ 51 = (b2i (!(goodE [a0, a1, a2, a3, a4, a5, a6, a7, a8, a9, a10, a11, a12, a13, a14]))) := b2i_not f51 q50
              have q52 : ρ 52 = (b2i (overE [a0, a1, a2, a3, a4, a5, a6, a7, a8, a9, a10, a11, a12, a13, a14] [a0, a1, a2, a3, a4, a5, a6, a7, a8, a9, a10, a11, a12, a13, a14])) := by
                  have t := f52 0 (by decide)
                  simp only [q0, q1, q2, q3, q4, q5, q6, q7, q8, q9, q10, q11, q12, q13, q14] at t
                  exact t
              have q53 : ρ 53 = (b2i (lessE [a0, a1, a2, a3, a4, a5, a6, a7, a8, a9, a10, a11, a12, a13, a14] [a0, a1, a2, a3, a4, a5, a6, a7, a8, a9, a10, a11, a12, a13, a14])) := by
                  have t := f53 0 (by decide)
                  simp only [q0, q1, q2, q3, q4, q5, q6, q7, q8, q9, q10, q11, q12, q13, q14] at t
                  exact t
              have q54 : ρ 54 = (b2i (lessE [a0, a1, a2, a3, a4, a5, a6, a7, a8, a9, a10, a11, a12, a13, a14] [b0, b1, b2, b3, b4, b5, b6, b7, b8, b9, b10, b11, b12, b13, b14])) := by
                  have t := f54 0 (by decide)
                  simp only [q0, q1, q2, q3, q4, q5, q6, q7, q8, q9, q10, q11, q12, q13, q14, q15, q16, q17, q18, q19, q20, q21, q22, q23, q24, q25, q26, q27, q28, q29] at t
                  exact t
              have q55 : ρ 55 = (b2i (lessE [b0, b1, b2, b3, b4, b5, b6, b7, b8, b9, b10, b11, b12, b13, b14] [a0, a1, a2, a3, a4, a5, a6, a7, a8, a9, a10, a11, a12, a13, a14])) := by
                  have t := f55 0 (by decide)
                  simp only [q15, q16, q17, q18, q19, q20, q21, q22, q23, q24, q25, q26, q27, q28, q29, q0, q1, q2, q3, q4, q5, q6, q7, q8, q9, q10, q11, q12, q13, q14] at t
                  exact t
              have q56 : ρ 56 = (b2i (lessE [a0, a1, a2, a3, a4, a5, a6, a7, a8, a9, a10, a11, a12, a13, a14] [b0, b1, b2, b3, b4, b5, b6, b7, b8, b9, b10, b11, b12, b13, b14])) := by
                  have t := f56 0 (by decide)
                  simp only [q0, q1, q2, q3, q4, q5, q6, q7, q8, q9, q10, q11, q12, q13, q14, q15, q16, q17, q18, q19, q20, q21, q22, q23, q24, q25, q26, q27, q28, q29] at t
                  exact t
              have q57 : ρ 57 = (b2i (!(lessE [a0, a1, a2, a3, a4, a5, a6, a7, a8, a9, a10, a11, a12, a13, a14] [b0, b1, b2, b3, b4, b5, b6, b7, b8, b9, b10, b11, b12, b13, b14]))) := b2i_not f57 q56
              have q58 : ρ 58 = (b2i (lessE [b0, b1, b2, b3, b4, b5, b6, b7, b8, b9, b10, b11, b12, b13, b14] [e0, e1, e2, e3, e4, e5, e6, e7, e8, e9, e10, e11, e12, e13, e14])) := by
                  have t := f58 0 (by decide)
                  simp only [q15, q16, q17, q18, q19, q20, q21, q22, q23, q24, q25, q26, q27, q28, q29, q30, q31, q32, q33, q34, q35, q36, q37, q38, q39, q40, q41, q42, q43, q44] at t
                  exact t
              have q59 : ρ 59 = (b2i (!(lessE [b0, b1, b2, b3, b4, b5, b6, b7, b8, b9, b10, b11, b12, b13, b14] [e0, e1, e2, e3, e4, e5, e6, e7, e8, e9, e10, e11, e12, e13, e14]))) := b2i_not f59 q58
              refine ⟨?_, ?_⟩
              · simp only [G_nil, G_bin, G_cmp, G_not, G_conv, G_eqs, G_call, G_cond, G_need, G_idx, G_sel, G_upd, G_shv, G_beq, G_prim, G_byte, G_cut, G_cat, List.map_cons, List.map_nil, Ref.den]
                refine ⟨?_, ?_, ?_, ?_, ?_, ?_, ?_, ?_, ?_, ?_, ?_, ?_, ?_, ?_, ?_, ?_, ?_, ?_, ?_, ?_, ?_, ?_, trivial⟩
                · exact trivial
                · exact b2i_cond q46 (by simp only [Bool.not_true, decide_true, decide_false, Bool.and_true, Bool.true_and, Bool.and_false, Bool.false_and, Bool.or_true, Bool.true_or, Bool.or_false, Bool.false_or, Bool.not_true, Bool.not_false, if_true, if_false, Bool.false_eq_true])
                · exact trivial
                · exact b2i_cond q47 (by simp only [c1, decide_true, decide_false, Bool.and_true, Bool.true_and, Bool.and_false, Bool.false_and, Bool.or_true, Bool.true_or, Bool.or_false, Bool.false_or, Bool.not_true, Bool.not_false, if_true, if_false, Bool.false_eq_true])
                · exact trivial
                · exact b2i_cond q48 (by simp only [c3, decide_true, decide_false, Bool.and_true, Bool.true_and, Bool.and_false, Bool.false_and, Bool.or_true, Bool.true_or, Bool.or_false, Bool.false_or, Bool.not_true, Bool.not_false, if_true, if_false, Bool.false_eq_true])
                · exact trivial
                · exact b2i_cond q49 (by simp only [c5, decide_true, decide_false, Bool.and_true, Bool.true_and, Bool.and_false, Bool.false_and, Bool.or_true, Bool.true_or, Bool.or_false, Bool.false_or, Bool.not_true, Bool.not_false, if_true, if_false, Bool.false_eq_true])
                · exact by show (decZ (ρ 11)).length ≤ 1000 ∧ (decZ (ρ 12)).length ≤ 1000 ∧ (decZ (ρ 13)).length ≤ 1000; rw [q11, q12, q13]; exact m0
                · exact b2i_cond q51 (by simp only [c7, decide_true, decide_false, Bool.and_true, Bool.true_and, Bool.and_false, Bool.false_and, Bool.or_true, Bool.true_or, Bool.or_false, Bool.false_or, Bool.not_true, Bool.not_false, if_true, if_false, Bool.false_eq_true])
                · exact trivial
                · exact b2i_cond q52 (by simp only [k0, decide_true, decide_false, Bool.and_true, Bool.true_and, Bool.and_false, Bool.false_and, Bool.or_true, Bool.true_or, Bool.or_false, Bool.false_or, Bool.not_true, Bool.not_false, if_true, if_false, Bool.false_eq_true])
                · exact trivial
                · exact b2i_cond q53 (by simp only [k1, decide_true, decide_false, Bool.and_true, Bool.true_and, Bool.and_false, Bool.false_and, Bool.or_true, Bool.true_or, Bool.or_false, Bool.false_or, Bool.not_true, Bool.not_false, if_true, if_false, Bool.false_eq_true])
                · exact trivial
                · exact b2i_cond q54 (by simp only [c10, decide_true, decide_false, Bool.and_true, Bool.true_and, Bool.and_false, Bool.false_and, Bool.or_true, Bool.true_or, Bool.or_false, Bool.false_or, Bool.not_true, Bool.not_false, if_true, if_false, Bool.false_eq_true])
                · exact trivial
                · exact b2i_cond q55 (by simp only [k2, decide_true, decide_false, Bool.and_true, Bool.true_and, Bool.and_false, Bool.false_and, Bool.or_true, Bool.true_or, Bool.or_false, Bool.false_or, Bool.not_true, Bool.not_false, if_true, if_false, Bool.false_eq_true])
                · exact trivial
                · exact b2i_cond q57 (by simp only [c10, decide_true, decide_false, Bool.and_true, Bool.true_and, Bool.and_false, Bool.false_and, Bool.or_true, Bool.true_or, Bool.or_false, Bool.false_or, Bool.not_true, Bool.not_false, if_true, if_false, Bool.false_eq_true])
                · exact trivial
                · exact b2i_cond q59 (by simp only [c12, decide_true, decide_false, Bool.and_true, Bool.true_and, Bool.and_false, Bool.false_and, Bool.or_true, Bool.true_or, Bool.or_false, Bool.false_or, Bool.not_true, Bool.not_false, if_true, if_false, Bool.false_eq_true])
              · rfl
            · have k3 : lessE [a0, a1, a2, a3, a4, a5, a6, a7, a8, a9, a10, a11, a12, a13, a14] [e0, e1, e2, e3, e4, e5, e6, e7, e8, e9, e10, e11, e12, e13, e14] = true := by have h := less_is.1 c10; have h2 := less_is.1 c12; rw [less_is]; omega
              refine Go.Sx.Way.of (dec := [false, false, false, false, false, false, false, true, false, false, false]) (fs := [.need 40 [], .call 45 40 [] 1, .not 46 (.v 45), .cond 46 false, .need 13 [[.v 0, .v 1, .v 2, .v 3, .v 4, .v 5, .v 6, .v 7, .v 8, .v 9, .v 10, .v 11, .v 12, .v 13, .v 14]], .call 47 13 [[.v 0, .v 1, .v 2, .v 3, .v 4, .v 5, .v 6, .v 7, .v 8, .v 9, .v 10, .v 11, .v 12, .v 13, .v 14]] 1, .cond 47 false, .need 13 [[.v 15, .v 16, .v 17, .v 18, .v 19, .v 20, .v 21, .v 22, .v 23, .v 24, .v 25, .v 26, .v 27, .v 28, .v 29]], .call 48 13 [[.v 15, .v 16, .v 17, .v 18, .v 19, .v 20, .v 21, .v 22, .v 23, .v 24, .v 25, .v 26, .v 27, .v 28, .v 29]] 1, .cond 48 false, .need 13 [[.v 30, .v 31, .v 32, .v 33, .v 34, .v 35, .v 36, .v 37, .v 38, .v 39, .v 40, .v 41, .v 42, .v 43, .v 44]], .call 49 13 [[.v 30, .v 31, .v 32, .v 33, .v 34, .v 35, .v 36, .v 37, .v 38, .v 39, .v 40, .v 41, .v 42, .v 43, .v 44]] 1, .cond 49 false, .need 10 [[.v 0, .v 1, .v 2, .v 3, .v 4, .v 5, .v 6, .v 7, .v 8, .v 9, .v 10, .v 11, .v 12, .v 13, .v 14]], .call 50 10 [[.v 0, .v 1, .v 2, .v 3, .v 4, .v 5, .v 6, .v 7, .v 8, .v 9, .v 10, .v 11, .v 12, .v 13, .v 14]] 1, .not 51 (.v 50), .cond 51 false, .need 11 [[.v 0, .v 1, .v 2, .v 3, .v 4, .v 5, .v 6, .v 7, .v 8, .v 9, .v 10, .v 11, .v 12, .v 13, .v 14], [.v 0, .v 1, .v 2, .v 3, .v 4, .v 5, .v 6, .v 7, .v 8, .v 9, .v 10, .v 11, .v 12, .v 13, .v 14]], .call 52 11 [[.v 0, .v 1, .v 2, .v 3, .v 4, .v 5, .v 6, .v 7, .v 8, .v 9, .v 10, .v 11, .v 12, .v 13, .v 14], [.v 0, .v 1, .v 2, .v 3, .v 4, .v 5, .v 6, .v 7, .v 8, .v 9, .v 10, .v 11, .v 12, .v 13, .v 14]] 1, .cond 52 false, .need 12 [[.v 0, .v 1, .v 2, .v 3, .v 4, .v 5, .v 6, .v 7, .v 8, .v 9, .v 10, .v 11, .v 12, .v 13, .v 14], [.v 0, .v 1, .v 2, .v 3, .v 4, .v 5, .v 6, .v 7, .v 8, .v 9, .v 10, .v 11, .v 12, .v 13, .v 14]], .call 53 12 [[.v 0, .v 1, .v 2, .v 3, .v 4, .v 5, .v 6, .v 7, .v 8, .v 9, .v 10, .v 11, .v 12, .v 13, .v 14], [.v 0, .v 1, .v 2, .v 3, .v 4, .v 5, .v 6, .v 7, .v 8, .v 9, .v 10, .v 11, .v 12, .v 13, .v 14]] 1, .cond 53 false, .need 12 [[.v 0, .v 1, .v 2, .v 3, .v 4, .v 5, .v 6, .v 7, .v 8, .v 9, .v 10, .v 11, .v 12, .v 13, .v 14], [.v 15, .v 16, .v 17, .v 18, .v 19, .v 20, .v 21, .v 22, .v 23, .v 24, .v 25, .v 26, .v 27, .v 28, .v 29]], .call 54 12 [[.v 0, .v 1, .v 2, .v 3, .v 4, .v 5, .v 6, .v 7, .v 8, .v 9, .v 10, .v 11, .v 12, .v 13, .v 14], [.v 15, .v 16, .v 17, .v 18, .v 19, .v 20, .v 21, .v 22, .v 23, .v 24, .v 25, .v 26, .v 27, .v 28, .v 29]] 1, .cond 54 true, .need 12 [[.v 15, .v 16, .v 17, .v 18, .v 19, .v 20, .v 21, .v 22, .v 23, .v 24, .v 25, .v 26, .v 27, .v 28, .v 29], [.v 0, .v 1, .v 2, .v 3, .v 4, .v 5, .v 6, .v 7, .v 8, .v 9, .v 10, .v 11, .v 12, .v 13, .v 14]], .call 55 12 [[.v 15, .v 16, .v 17, .v 18, .v 19, .v 20, .v 21, .v 22, .v 23, .v 24, .v 25, .v 26, .v 27, .v 28, .v 29], [.v 0, .v 1, .v 2, .v 3, .v 4, .v 5, .v 6, .v 7, .v 8, .v 9, .v 10, .v 11, .v 12, .v 13, .v 14]] 1, .cond 55 false, .need 12 [[.v 0, .v 1, .v 2, .v 3, .v 4, .v 5, .v 6, .v 7, .v 8, .v 9, .v 10, .v 11, .v 12, .v 13, .v 14], [.v 15, .v 16, .v 17, .v 18, .v 19, .v 20, .v 21, .v 22, .v 23, .v 24, .v 25, .v 26, .v 27, .v 28, .v 29]], .call 56 12 [[.v 0, .v 1, .v 2, .v 3, .v 4, .v 5, .v 6, .v 7, .v 8, .v 9, .v 10, .v 11, .v 12, .v 13, .v 14], [.v 15, .v 16, .v 17, .v 18, .v 19, .v 20, .v 21, .v 22, .v 23, .v 24, .v 25, .v 26, .v 27, .v 28, .v 29]] 1, .not 57 (.v 56), .cond 57 false, .need 12 [[.v 15, .v 16, .v 17, .v 18, .v 19, .v 20, .v 21, .v 22, .v 23, .v 24, .v 25, .v 26, .v 27, .v 28, .v 29], [.v 30, .v 31, .v 32, .v 33, .v 34, .v 35, .v 36, .v 37, .v 38, .v 39, .v 40, .v 41, .v 42, .v 43, .v 44]], .call 58 12 [[.v 15, .v 16, .v 17, .v 18, .v 19, .v 20, .v 21, .v 22, .v 23, .v 24, .v 25, .v 26, .v 27, .v 28, .v 29], [.v 30, .v 31, .v 32, .v 33, .v 34, .v 35, .v 36, .v 37, .v 38, .v 39, .v 40, .v 41, .v 42, .v 43, .v 44]] 1, .not 59 (.v 58), .cond 59 false, .need 12 [[.v 0, .v 1, .v 2, .v 3, .v 4, .v 5, .v 6, .v 7, .v 8, .v 9, .v 10, .v 11, .v 12, .v 13, .v 14], [.v 30, .v 31, .v 32, .v 33, .v 34, .v 35, .v 36, .v 37, .v 38, .v 39, .v 40, .v 41, .v 42, .v 43, .v 44]], .call 60 12 [[.v 0, .v 1, .v 2, .v 3, .v 4, .v 5, .v 6, .v 7, .v 8, .v 9, .v 10, .v 11, .v 12, .v 13, .v 14], [.v 30, .v 31, .v 32, .v 33, .v 34, .v 35, .v 36, .v 37, .v 38, .v 39, .v 40, .v 41, .v 42, .v 43, .v 44]] 1]) (refs := [.v 60]) (by kernel_rfl) fun ρ hρ hd => ?_
              simp only [D_nil, D_add, D_sub, D_mul, D_and, D_or, D_xor, D_shl, D_shr, D_andNot, D_quo, D_rem, D_add_i64, D_sub_i64, D_mul_i64, D_add_u32, D_sub_u32, D_mul_u32, D_add_u8, D_sub_u8, D_mul_u8, D_eql, D_neq, D_lss, D_leq, D_gtr, D_geq, D_not, D_conv, D_eqs, D_call, D_cond, D_need, D_idx, D_sel, D_upd, D_shv, D_beq, D_len, D_byte, D_cut, D_cat, D_must, List.map_cons, List.map_nil, Ref.den] at hd
              obtain ⟨f45, f46, f47, f48, f49, f50, f51, f52, f53, f54, f55, f56, f57, f58, f59, f60, -⟩ := hd
              have q0 : ρ 0 = a0 := hρ 0 (by decide)
              have q1 : ρ 1 = a1 := hρ 1 (by decide)
              have q2 : ρ 2 = a2 := hρ 2 (by decide)
              have q3 : ρ 3 = a3 := hρ 3 (by decide)
              have q4 : ρ 4 = a4 := hρ 4 (by decide)
              have q5 : ρ 5 = a5 := hρ 5 (by decide)
              have q6 : ρ 6 = a6 := hρ 6 (by decide)
              have q7 : ρ 7 = a7 := hρ 7 (by decide)
              have q8 : ρ 8 = a8 := hρ 8 (by decide)
              have q9 : ρ 9 = a9 := hρ 9 (by decide)
              have q10 : ρ 10 = a10 := hρ 10 (by decide)
              have q11 : ρ 11 = a11 := hρ 11 (by decide)
              have q12 : ρ 12 = a12 := hρ 12 (by decide)
              have q13 : ρ 13 = a13 := hρ 13 (by decide)
              have q14 : ρ 14 = a14 := hρ 14 (by decide)
              have q15 : ρ 15 = b0 := hρ 15 (by decide)
              have q16 : ρ 16 = b1 := hρ 16 (by decide)
              have q17 : ρ 17 = b2 := hρ 17 (by decide)
              have q18 : ρ 18 = b3 := hρ 18 (by decide)
              have q19 : ρ 19 = b4 := hρ 19 (by decide)
              have q20 : ρ 20 = b5 := hρ 20 (by decide)
              have q21 : ρ 21 = b6 := hρ 21 (by decide)
              have q22 : ρ 22 = b7 := hρ 22 (by decide)
              have q23 : ρ 23 = b8 := hρ 23 (by decide)
              have q24 : ρ 24 = b9 := hρ 24 (by decide)
              have q25 : ρ 25 = b10 := hρ 25 (by decide)
              have q26 : ρ 26 = b11 := hρ 26 (by decide)
              have q27 : ρ 27 = b12 := hρ 27 (by decide)
              have q28 : ρ 28 = b13 := hρ 28 (by decide)
              have q29 : ρ 29 = b14 := hρ 29 (by decide)
              have q30 : ρ 30 = e0 := hρ 30 (by decide)
              have q31 : ρ 31 = e1 := hρ 31 (by decide)
              have q32 : ρ 32 = e2 := hρ 32 (by decide)
              have q33 : ρ 33 = e3 := hρ 33 (by decide)
              have q34 : ρ 34 = e4 := hρ 34 (by decide)
              have q35 : ρ 35 = e5 := hρ 35 (by decide)
              have q36 : ρ 36 = e6 := hρ 36 (by decide)
              have q37 : ρ 37 = e7 := hρ 37 (by decide)
              have q38 : ρ 38 = e8 := hρ 38 (by decide)
              have q39 : ρ 39 = e9 := hρ 39 (by decide)
              have q40 : ρ 40 = e10 := hρ 40 (by decide)
              have q41 : ρ 41 = e11 := hρ 41 (by decide)
              have q42 : ρ 42 = e12 := hρ 42 (by decide)
              have q43 : ρ 43 = e13 := hρ 43 (by decide)
              have q44 : ρ 44 = e14 := hρ 44 (by decide)
              have q45 : ρ 45 = (b2i (true)) := by
                  have t := f45 0 (by decide)
                  exact t
              have q46 : ρ 46 = (b2i (!true)) := b2i_not f46 q45
              have q47 : ρ 47 = (b2i (longE [a0, a1, a2, a3, a4, a5, a6, a7, a8, a9, a10, a11, a12, a13, a14])) := by
                  have t := f47 0 (by decide)
                  simp only [q0, q1, q2, q3, q4, q5, q6, q7, q8, q9, q10, q11, q12, q13, q14] at t
                  exact t
              have q48 : ρ 48 = (b2i (longE [b0, b1, b2, b3, b4, b5, b6, b7, b8, b9, b10, b11, b12, b13, b14])) := by
                  have t := f48 0 (by decide)
                  simp only [q15, q16, q17, q18, q19, q20, q21, q22, q23, q24, q25, q26, q27, q28, q29] at t
                  exact t
              have q49 : ρ 49 = (b2i (longE [e0, e1, e2, e3, e4, e5, e6, e7, e8, e9, e10, e11, e12, e13, e14])) := by
                  have t := f49 0 (by decide)
                  simp only [q30, q31, q32, q33, q34, q35, q36, q37, q38, q39, q40, q41, q42, q43, q44] at t
                  exact t
              have q50 : ρ 50 = (b2i (goodE [a0, a1, a2, a3, a4, a5, a6, a7, a8, a9, a10, a11, a12, a13, a14])) := by
                  have t := f50 0 (by decide)
                  simp only [q0, q1, q2, q3, q4, q5, q6, q7, q8, q9, q10, q11, q12, q13, q14] at t
                  exact t
              have q51 : ρ 51 = (b2i (!(goodE [a0, a1, a2, a3, a4, a5, a6, a7, a8, a9, a10, a11, a12, a13, a14]))) := b2i_not f51 q50
              have q52 : ρ 52 = (b2i (overE [a0, a1, a2, a3, a4, a5, a6, a7, a8, a9, a10, a11, a12, a13, a14] [a0, a1, a2, a3, a4, a5, a6, a7, a8, a9, a10, a11, a12, a13, a14])) := by
                  have t := f52 0 (by decide)
                  simp only [q0, q1, q2, q3, q4, q5, q6, q7, q8, q9, q10, q11, q12, q13, q14] at t
                  exact t
              have q53 : ρ 53 = (b2i (lessE [a0, a1, a2, a3, a4, a5, a6, a7, a8, a9, a10, a11, a12, a13, a14] [a0, a1, a2, a3, a4, a5, a6, a7, a8, a9, a10, a11, a12, a13, a14])) := by
                  have t := f53 0 (by decide)
                  simp only [q0, q1, q2, q3, q4, q5, q6, q7, q8, q9, q10, q11, q12, q13, q14] at t
                  exact t
              have q54 : ρ 54 = (b2i (lessE [a0, a1, a2, a3, a4, a5, a6, a7, a8, a9, a10, a11, a12, a13, a14] [b0, b1, b2, b3, b4, b5, b6, b7, b8, b9, b10, b11, b12, b13, b14])) := by
                  have t := f54 0 (by decide)
                  simp only [q0, q1, q2, q3, q4, q5, q6, q7, q8, q9, q10, q11, q12, q13, q14, q15, q16, q17, q18, q19, q20, q21, q22, q23, q24, q25, q26, q27, q28, q29] at t
                  exact t
              have q55 : ρ 55 = (b2i (lessE [b0, b1, b2, b3, b4, b5, b6, b7, b8, b9, b10, b11, b12, b13, b14] [a0, a1, a2, a3, a4, a5, a6, a7, a8, a9, a10, a11, a12, a13, a14])) := by
                  have t := f55 0 (by decide)
                  simp only [q15, q16, q17, q18, q19, q20, q21, q22, q23, q24, q25, q26, q27, q28, q29, q0, q1, q2, q3, q4, q5, q6, q7, q8, q9, q10, q11, q12, q13, q14] at t
                  exact t
              have q56 : ρ 56 = (b2i (lessE [a0, a1, a2, a3, a4, a5, a6, a7, a8, a9, a10, a11, a12, a13, a14] [b0, b1, b2, b3, b4, b5, b6, b7, b8, b9, b10, b11, b12, b13, b14])) := by
                  have t := f56 0 (by decide)
                  simp only [q0, q1, q2, q3, q4, q5, q6, q7, q8, q9, q10, q11, q12, q13, q14, q15, q16, q17, q18, q19, q20, q21, q22, q23, q24, q25, q26, q27, q28, q29] at t
                  exact t
              have q57 : ρ 57 = (b2i (!(lessE [a0, a1, a2, a3, a4, a5, a6, a7, a8, a9, a10, a11, a12, a13, a14] [b0, b1, b2, b3, b4, b5, b6, b7, b8, b9, b10, b11, b12, b13, b14]))) := b2i_not f57 q56
              have q58 : ρ 58 = (b2i (lessE [b0, b1, b2, b3, b4, b5, b6, b7, b8, b9, b10, b11, b12, b13, b14] [e0, e1, e2, e3, e4, e5, e6, e7, e8, e9, e10, e11, e12, e13, e14])) := by
                  have t := f58 0 (by decide)
                  simp only [q15, q16, q17, q18, q19, q20, q21, q22, q23, q24, q25, q26, q27, q28, q29, q30, q31, q32, q33, q34, q35, q36, q37, q38, q39, q40, q41, q42, q43, q44] at t
                  exact t
              have q59 : ρ 59 = (b2i (!(lessE [b0, b1, b2, b3, b4, b5, b6, b7, b8, b9, b10, b11, b12, b13, b14] [e0, e1, e2, e3, e4, e5, e6, e7, e8, e9, e10, e11, e12, e13, e14]))) := b2i_not f59 q58
              have q60 : ρ 60 = (b2i (lessE [a0, a1, a2, a3, a4, a5, a6, a7, a8, a9, a10, a11, a12, a13, a14] [e0, e1, e2, e3, e4, e5, e6, e7, e8, e9, e10, e11, e12, e13, e14])) := by
                  have t := f60 0 (by decide)
                  simp only [q0, q1, q2, q3, q4, q5, q6, q7, q8, q9, q10, q11, q12, q13, q14, q30, q31, q32, q33, q34, q35, q36, q37, q38, q39, q40, q41, q42, q43, q44] at t
                  exact t
              refine ⟨?_, ?_⟩
              · simp only [G_nil, G_bin, G_cmp, G_not, G_conv, G_eqs, G_call, G_cond, G_need, G_idx, G_sel, G_upd, G_shv, G_beq, G_prim, G_byte, G_cut, G_cat, List.map_cons, List.map_nil, Ref.den]
                refine ⟨?_, ?_, ?_, ?_, ?_, ?_, ?_, ?_, ?_, ?_, ?_, ?_, ?_, ?_, ?_, ?_, ?_, ?_, ?_, ?_, ?_, ?_, ?_, trivial⟩
                · exact trivial
                · exact b2i_cond q46 (by simp only [Bool.not_true, decide_true, decide_false, Bool.and_true, Bool.true_and, Bool.and_false, Bool.false_and, Bool.or_true, Bool.true_or, Bool.or_false, Bool.false_or, Bool.not_true, Bool.not_false, if_true, if_false, Bool.false_eq_true])
                · exact trivial
                · exact b2i_cond q47 (by simp only [c1, decide_true, decide_false, Bool.and_true, Bool.true_and, Bool.and_false, Bool.false_and, Bool.or_true, Bool.true_or, Bool.or_false, Bool.false_or, Bool.not_true, Bool.not_false, if_true, if_false, Bool.false_eq_true])
                · exact trivial
                · exact b2i_cond q48 (by simp only [c3, decide_true, decide_false, Bool.and_true, Bool.true_and, Bool.and_false, Bool.false_and, Bool.or_true, Bool.true_or, Bool.or_false, Bool.false_or, Bool.not_true, Bool.not_false, if_true, if_false, Bool.false_eq_true])
                · exact trivial
                · exact b2i_cond q49 (by simp only [c5, decide_true, decide_false, Bool.and_true, Bool.true_and, Bool.and_false, Bool.false_and, Bool.or_true, Bool.true_or, Bool.or_false, Bool.false_or, Bool.not_true, Bool.not_false, if_true, if_false, Bool.false_eq_true])
                · exact by show (decZ (ρ 11)).length ≤ 1000 ∧ (decZ (ρ 12)).length ≤ 1000 ∧ (decZ (ρ 13)).length ≤ 1000; rw [q11, q12, q13]; exact m0
                · exact b2i_cond q51 (by simp only [c7, decide_true, decide_false, Bool.and_true, Bool.true_and, Bool.and_false, Bool.false_and, Bool.or_true, Bool.true_or, Bool.or_false, Bool.false_or, Bool.not_true, Bool.not_false, if_true, if_false, Bool.false_eq_true])
                · exact trivial
                · exact b2i_cond q52 (by simp only [k0, decide_true, decide_false, Bool.and_true, Bool.true_and, Bool.and_false, Bool.false_and, Bool.or_true, Bool.true_or, Bool.or_false, Bool.false_or, Bool.not_true, Bool.not_false, if_true, if_false, Bool.false_eq_true])
                · exact trivial
                · exact b2i_cond q53 (by simp only [k1, decide_true, decide_false, Bool.and_true, Bool.true_and, Bool.and_false, Bool.false_and, Bool.or_true, Bool.true_or, Bool.or_false, Bool.false_or, Bool.not_true, Bool.not_false, if_true, if_false, Bool.false_eq_true])
                · exact trivial
                · exact b2i_cond q54 (by simp only [c10, decide_true, decide_false, Bool.and_true, Bool.true_and, Bool.and_false, Bool.false_and, Bool.or_true, Bool.true_or, Bool.or_false, Bool.false_or, Bool.not_true, Bool.not_false, if_true, if_false, Bool.false_eq_true])
                · exact trivial
                · exact b2i_cond q55 (by simp only [k2, decide_true, decide_false, Bool.and_true, Bool.true_and, Bool.and_false, Bool.false_and, Bool.or_true, Bool.true_or, Bool.or_false, Bool.false_or, Bool.not_true, Bool.not_false, if_true, if_false, Bool.false_eq_true])
                · exact trivial
                · exact b2i_cond q57 (by simp only [c10, decide_true, decide_false, Bool.and_true, Bool.true_and, Bool.and_false, Bool.false_and, Bool.or_true, Bool.true_or, Bool.or_false, Bool.false_or, Bool.not_true, Bool.not_false, if_true, if_false, Bool.false_eq_true])
                · exact trivial
                · exact b2i_cond q59 (by simp only [c12, decide_true, decide_false, Bool.and_true, Bool.true_and, Bool.and_false, Bool.false_and, Bool.or_true, Bool.true_or, Bool.or_false, Bool.false_or, Bool.not_true, Bool.not_false, if_true, if_false, Bool.false_eq_true])
                · exact trivial
              · show [ρ 60] = [1]
                rw [q60]
                exact congrArg (fun b => [b2i b]) (show (lessE [a0, a1, a2, a3, a4, a5, a6, a7, a8, a9, a10, a11, a12, a13, a14] [e0, e1, e2, e3, e4, e5, e6, e7, e8, e9, e10, e11, e12, e13, e14]) = true by simp only [k3] <;> rfl)
      · refine Go.Sx.Way.of (dec := [false, false, false, true]) (fs := [.need 40 [], .call 45 40 [] 1, .not 46 (.v 45), .cond 46 false, .need 13 [[.v 0, .v 1, .v 2, .v 3, .v 4, .v 5, .v 6, .v 7, .v 8, .v 9, .v 10, .v 11, .v 12, .v 13, .v 14]], .call 47 13 [[.v 0, .v 1, .v 2, .v 3, .v 4, .v 5, .v 6, .v 7, .v 8, .v 9, .v 10, .v 11, .v 12, .v 13, .v 14]] 1, .cond 47 false, .need 13 [[.v 15, .v 16, .v 17, .v 18, .v 19, .v 20, .v 21, .v 22, .v 23, .v 24, .v 25, .v 26, .v 27, .v 28, .v 29]], .call 48 13 [[.v 15, .v 16, .v 17, .v 18, .v 19, .v 20, .v 21, .v 22, .v 23, .v 24, .v 25, .v 26, .v 27, .v 28, .v 29]] 1, .cond 48 false, .need 13 [[.v 30, .v 31, .v 32, .v 33, .v 34, .v 35, .v 36, .v 37, .v 38, .v 39, .v 40, .v 41, .v 42, .v 43, .v 44]], .call 49 13 [[.v 30, .v 31, .v 32, .v 33, .v 34, .v 35, .v 36, .v 37, .v 38, .v 39, .v 40, .v 41, .v 42, .v 43, .v 44]] 1, .cond 49 true]) (refs := [.l 1]) (by kernel_rfl) fun ρ hρ hd => ?_
        simp only [D_nil, D_add, D_sub, D_mul, D_and, D_or, D_xor, D_shl, D_shr, D_andNot, D_quo, D_rem, D_add_i64, D_sub_i64, D_mul_i64, D_add_u32, D_sub_u32, D_mul_u32, D_add_u8, D_sub_u8, D_mul_u8, D_eql, D_neq, D_lss, D_leq, D_gtr, D_geq, D_not, D_conv, D_eqs, D_call, D_cond, D_need, D_idx, D_sel, D_upd, D_shv, D_beq, D_len, D_byte, D_cut, D_cat, D_must, List.map_cons, List.map_nil, Ref.den] at hd
        obtain ⟨f45, f46, f47, f48, f49, -⟩ := hd
        have q0 : ρ 0 = a0 := hρ 0 (by decide)
        have q1 : ρ 1 = a1 := hρ 1 (by decide)
        have q2 : ρ 2 = a2 := hρ 2 (by decide)
        have q3 : ρ 3 = a3 := hρ 3 (by decide)
        have q4 : ρ 4 = a4 := hρ 4 (by decide)
        have q5 : ρ 5 = a5 := hρ 5 (by decide)
        have q6 : ρ 6 = a6 := hρ 6 (by decide)
        have q7 : ρ 7 = a7 := hρ 7 (by decide)
        have q8 : ρ 8 = a8 := hρ 8 (by decide)
        have q9 : ρ 9 = a9 := hρ 9 (by decide)
        have q10 : ρ 10 = a10 := hρ 10 (by decide)
        have q11 : ρ 11 = a11 := hρ 11 (by decide)
        have q12 : ρ 12 = a12 := hρ 12 (by decide)
        have q13 : ρ 13 = a13 := hρ 13 (by decide)
        have q14 : ρ 14 = a14 := hρ 14 (by decide)
        have q15 : ρ 15 = b0 := hρ 15 (by decide)
        have q16 : ρ 16 = b1 := hρ 16 (by decide)
        have q17 : ρ 17 = b2 := hρ 17 (by decide)
        have q18 : ρ 18 = b3 := hρ 18 (by decide)
        have q19 : ρ 19 = b4 := hρ 19 (by decide)
        have q20 : ρ 20 = b5 := hρ 20 (by decide)
        have q21 : ρ 21 = b6 := hρ 21 (by decide)
        have q22 : ρ 22 = b7 := hρ 22 (by decide)
        have q23 : ρ 23 = b8 := hρ 23 (by decide)
        have q24 : ρ 24 = b9 := hρ 24 (by decide)
        have q25 : ρ 25 = b10 := hρ 25 (by decide)
        have q26 : ρ 26 = b11 := hρ 26 (by decide)
        have q27 : ρ 27 = b12 := hρ 27 (by decide)
        have q28 : ρ 28 = b13 := hρ 28 (by decide)
        have q29 : ρ 29 = b14 := hρ 29 (by decide)
        have q30 : ρ 30 = e0 := hρ 30 (by decide)
        have q31 : ρ 31 = e1 := hρ 31 (by decide)
        have q32 : ρ 32 = e2 := hρ 32 (by decide)
        have q33 : ρ 33 = e3 := hρ 33 (by decide)
        have q34 : ρ 34 = e4 := hρ 34 (by decide)
        have q35 : ρ 35 = e5 := hρ 35 (by decide)
        have q36 : ρ 36 = e6 := hρ 36 (by decide)
        have q37 : ρ 37 = e7 := hρ 37 (by decide)
        have q38 : ρ 38 = e8 := hρ 38 (by decide)
        have q39 : ρ 39 = e9 := hρ 39 (by decide)
        have q40 : ρ 40 = e10 := hρ 40 (by decide)
        have q41 : ρ 41 = e11 := hρ 41 (by decide)
        have q42 : ρ 42 = e12 := hρ 42 (by decide)
        have q43 : ρ 43 = e13 := hρ 43 (by decide)
        have q44 : ρ 44 = e14 := hρ 44 (by decide)
        have q45 : ρ 45 = (b2i (true)) := by
            have t := f45 0 (by decide)
            exact t
        have q46 : ρ 46 = (b2i (!true)) := b2i_not f46 q45
        have q47 : ρ 47 = (b2i (longE [a0, a1, a2, a3, a4, a5, a6, a7, a8, a9, a10, a11, a12, a13, a14])) := by
            have t := f47 0 (by decide)
            simp only [q0, q1, q2, q3, q4, q5, q6, q7, q8, q9, q10, q11, q12, q13, q14] at t
            exact t
        have q48 : ρ 48 = (b2i (longE [b0, b1, b2, b3, b4, b5, b6, b7, b8, b9, b10, b11, b12, b13, b14])) := by
            have t := f48 0 (by decide)
            simp only [q15, q16, q17, q18, q19, q20, q21, q22, q23, q24, q25, q26, q27, q28, q29] at t
            exact t
        have q49 : ρ 49 = (b2i (longE [e0, e1, e2, e3, e4, e5, e6, e7, e8, e9, e10, e11, e12, e13, e14])) := by
            have t := f49 0 (by decide)
            simp only [q30, q31, q32, q33, q34, q35, q36, q37, q38, q39, q40, q41, q42, q43, q44] at t
            exact t
        refine ⟨?_, ?_⟩
        · simp only [G_nil, G_bin, G_cmp, G_not, G_conv, G_eqs, G_call, G_cond, G_need, G_idx, G_sel, G_upd, G_shv, G_beq, G_prim, G_byte, G_cut, G_cat, List.map_cons, List.map_nil, Ref.den]
          refine ⟨?_, ?_, ?_, ?_, ?_, ?_, ?_, ?_, trivial⟩
          · exact trivial
          · exact b2i_cond q46 (by simp only [Bool.not_true, decide_true, decide_false, Bool.and_true, Bool.true_and, Bool.and_false, Bool.false_and, Bool.or_true, Bool.true_or, Bool.or_false, Bool.false_or, Bool.not_true, Bool.not_false, if_true, if_false, Bool.false_eq_true])
          · exact trivial
          · exact b2i_cond q47 (by simp only [c1, decide_true, decide_false, Bool.and_true, Bool.true_and, Bool.and_false, Bool.false_and, Bool.or_true, Bool.true_or, Bool.or_false, Bool.false_or, Bool.not_true, Bool.not_false, if_true, if_false, Bool.false_eq_true])
          · exact trivial
          · exact b2i_cond q48 (by simp only [c3, decide_true, decide_false, Bool.and_true, Bool.true_and, Bool.and_false, Bool.false_and, Bool.or_true, Bool.true_or, Bool.or_false, Bool.false_or, Bool.not_true, Bool.not_false, if_true, if_false, Bool.false_eq_true])
          · exact trivial
          · exact b2i_cond q49 (by simp only [c5, decide_true, decide_false, Bool.and_true, Bool.true_and, Bool.and_false, Bool.false_and, Bool.or_true, Bool.true_or, Bool.or_false, Bool.false_or, Bool.not_true, Bool.not_false, if_true, if_false, Bool.false_eq_true])
        · rfl
    · refine Go.Sx.Way.of (dec := [false, false, true]) (fs := [.need 40 [], .call 45 40 [] 1, .not 46 (.v 45), .cond 46 false, .need 13 [[.v 0, .v 1, .v 2, .v 3, .v 4, .v 5, .v 6, .v 7, .v 8, .v 9, .v 10, .v 11, .v 12, .v 13, .v 14]], .call 47 13 [[.v 0, .v 1, .v 2, .v 3, .v 4, .v 5, .v 6, .v 7, .v 8, .v 9, .v 10, .v 11, .v 12, .v 13, .v 14]] 1, .cond 47 false, .need 13 [[.v 15, .v 16, .v 17, .v 18, .v 19, .v 20, .v 21, .v 22, .v 23, .v 24, .v 25, .v 26, .v 27, .v 28, .v 29]], .call 48 13 [[.v 15, .v 16, .v 17, .v 18, .v 19, .v 20, .v 21, .v 22, .v 23, .v 24, .v 25, .v 26, .v 27, .v 28, .v 29]] 1, .cond 48 true]) (refs := [.l 1]) (by kernel_rfl) fun ρ hρ hd => ?_
      simp only [D_nil, D_add, D_sub, D_mul, D_and, D_or, D_xor, D_shl, D_shr, D_andNot, D_quo, D_rem, D_add_i64, D_sub_i64, D_mul_i64, D_add_u32, D_sub_u32, D_mul_u32, D_add_u8, D_sub_u8, D_mul_u8, D_eql, D_neq, D_lss, D_leq, D_gtr, D_geq, D_not, D_conv, D_eqs, D_call, D_cond, D_need, D_idx, D_sel, D_upd, D_shv, D_beq, D_len, D_byte, D_cut, D_cat, D_must, List.map_cons, List.map_nil, Ref.den] at hd
      obtain ⟨f45, f46, f47, f48, -⟩ := hd
      have q0 : ρ 0 = a0 := hρ 0 (by decide)
      have q1 : ρ 1 = a1 := hρ 1 (by decide)
      have q2 : ρ 2 = a2 := hρ 2 (by decide)
      have q3 : ρ 3 = a3 := hρ 3 (by decide)
      have q4 : ρ 4 = a4 := hρ 4 (by decide)
      have q5 : ρ 5 = a5 := hρ 5 (by decide)
      have q6 : ρ 6 = a6 := hρ 6 (by decide)
      have q7 : ρ 7 = a7 := hρ 7 (by decide)
      have q8 : ρ 8 = a8 := hρ 8 (by decide)
      have q9 : ρ 9 = a9 := hρ 9 (by decide)
      have q10 : ρ 10 = a10 := hρ 10 (by decide)
      have q11 : ρ 11 = a11 := hρ 11 (by decide)
      have q12 : ρ 12 = a12 := hρ 12 (by decide)
      have q13 : ρ 13 = a13 := hρ 13 (by decide)
      have q14 : ρ 14 = a14 := hρ 14 (by decide)
      have q15 : ρ 15 = b0 := hρ 15 (by decide)
      have q16 : ρ 16 = b1 := hρ 16 (by decide)
      have q17 : ρ 17 = b2 := hρ 17 (by decide)
      have q18 : ρ 18 = b3 := hρ 18 (by decide)
      have q19 : ρ 19 = b4 := hρ 19 (by decide)
      have q20 : ρ 20 = b5 := hρ 20 (by decide)
      have q21 : ρ 21 = b6 := hρ 21 (by decide)
      have q22 : ρ 22 = b7 := hρ 22 (by decide)
      have q23 : ρ 23 = b8 := hρ 23 (by decide)
      have q24 : ρ 24 = b9 := hρ 24 (by decide)
      have q25 : ρ 25 = b10 := hρ 25 (by decide)
      have q26 : ρ 26 = b11 := hρ 26 (by decide)
      have q27 : ρ 27 = b12 := hρ 27 (by decide)
      have q28 : ρ 28 = b13 := hρ 28 (by decide)
      have q29 : ρ 29 = b14 := hρ 29 (by decide)
      have q45 : ρ 45 = (b2i (true)) := by
          have t := f45 0 (by decide)
          exact t
      have q46 : ρ 46 = (b2i (!true)) := b2i_not f46 q45
      have q47 : ρ 47 = (b2i (longE [a0, a1, a2, a3, a4, a5, a6, a7, a8, a9, a10, a11, a12, a13, a14])) := by
          have t := f47 0 (by decide)
          simp only [q0, q1, q2, q3, q4, q5, q6, q7, q8, q9, q10, q11, q12, q13, q14] at t
          exact t
      have q48 : ρ 48 = (b2i (longE [b0, b1, b2, b3, b4, b5, b6, b7, b8, b9, b10, b11, b12, b13, b14])) := by
          have t := f48 0 (by decide)
          simp only [q15, q16, q17, q18, q19, q20, q21, q22, q23, q24, q25, q26, q27, q28, q29] at t
          exact t
      refine ⟨?_, ?_⟩
      · simp only [G_nil, G_bin, G_cmp, G_not, G_conv, G_eqs, G_call, G_cond, G_need, G_idx, G_sel, G_upd, G_shv, G_beq, G_prim, G_byte, G_cut, G_cat, List.map_cons, List.map_nil, Ref.den]
        refine ⟨?_, ?_, ?_, ?_, ?_, ?_, trivial⟩
        · exact trivial
        · exact b2i_cond q46 (by simp only [Bool.not_true, decide_true, decide_false, Bool.and_true, Bool.true_and, Bool.and_false, Bool.false_and, Bool.or_true, Bool.true_or, Bool.or_false, Bool.false_or, Bool.not_true, Bool.not_false, if_true, if_false, Bool.false_eq_true])
        · exact trivial
        · exact b2i_cond q47 (by simp only [c1, decide_true, decide_false, Bool.and_true, Bool.true_and, Bool.and_false, Bool.false_and, Bool.or_true, Bool.true_or, Bool.or_false, Bool.false_or, Bool.not_true, Bool.not_false, if_true, if_false, Bool.false_eq_true])
        · exact trivial
        · exact b2i_cond q48 (by simp only [c3, decide_true, decide_false, Bool.and_true, Bool.true_and, Bool.and_false, Bool.false_and, Bool.or_true, Bool.true_or, Bool.or_false, Bool.false_or, Bool.not_true, Bool.not_false, if_true, if_false, Bool.false_eq_true])
      · rfl
  · refine Go.Sx.Way.of (dec := [false, true]) (fs := [.need 40 [], .call 45 40 [] 1, .not 46 (.v 45), .cond 46 false, .need 13 [[.v 0, .v 1, .v 2, .v 3, .v 4, .v 5, .v 6, .v 7, .v 8, .v 9, .v 10, .v 11, .v 12, .v 13, .v 14]], .call 47 13 [[.v 0, .v 1, .v 2, .v 3, .v 4, .v 5, .v 6, .v 7, .v 8, .v 9, .v 10, .v 11, .v 12, .v 13, .v 14]] 1, .cond 47 true]) (refs := [.l 1]) (by kernel_rfl) fun ρ hρ hd => ?_
    simp only [D_nil, D_add, D_sub, D_mul, D_and, D_or, D_xor, D_shl, D_shr, D_andNot, D_quo, D_rem, D_add_i64, D_sub_i64, D_mul_i64, D_add_u32, D_sub_u32, D_mul_u32, D_add_u8, D_sub_u8, D_mul_u8, D_eql, D_neq, D_lss, D_leq, D_gtr, D_geq, D_not, D_conv, D_eqs, D_call, D_cond, D_need, D_idx, D_sel, D_upd, D_shv, D_beq, D_len, D_byte, D_cut, D_cat, D_must, List.map_cons, List.map_nil, Ref.den] at hd
    obtain ⟨f45, f46, f47, -⟩ := hd
    have q0 : ρ 0 = a0 := hρ 0 (by decide)
    have q1 : ρ 1 = a1 := hρ 1 (by decide)
    have q2 : ρ 2 = a2 := hρ 2 (by decide)
    have q3 : ρ 3 = a3 := hρ 3 (by decide)
    have q4 : ρ 4 = a4 := hρ 4 (by decide)
    have q5 : ρ 5 = a5 := hρ 5 (by decide)
    have q6 : ρ 6 = a6 := hρ 6 (by decide)
    have q7 : ρ 7 = a7 := hρ 7 (by decide)
    have q8 : ρ 8 = a8 := hρ 8 (by decide)
    have q9 : ρ 9 = a9 := hρ 9 (by decide)
    have q10 : ρ 10 = a10 := hρ 10 (by decide)
    have q11 : ρ 11 = a11 := hρ 11 (by decide)
    have q12 : ρ 12 = a12 := hρ 12 (by decide)
    have q13 : ρ 13 = a13 := hρ 13 (by decide)
    have q14 : ρ 14 = a14 := hρ 14 (by decide)
    have q45 : ρ 45 = (b2i (true)) := by
        have t := f45 0 (by decide)
        exact t
    have q46 : ρ 46 = (b2i (!true)) := b2i_not f46 q45
    have q47 : ρ 47 = (b2i (longE [a0, a1, a2, a3, a4, a5, a6, a7, a8, a9, a10, a11, a12, a13, a14])) := by
        have t := f47 0 (by decide)
        simp only [q0, q1, q2, q3, q4, q5, q6, q7, q8, q9, q10, q11, q12, q13, q14] at t
        exact t
    refine ⟨?_, ?_⟩
    · simp only [G_nil, G_bin, G_cmp, G_not, G_conv, G_eqs, G_call, G_cond, G_need, G_idx, G_sel, G_upd, G_shv, G_beq, G_prim, G_byte, G_cut, G_cat, List.map_cons, List.map_nil, Ref.den]
      refine ⟨?_, ?_, ?_, ?_, trivial⟩
      · exact trivial
      · exact b2i_cond q46 (by simp only [Bool.not_true, decide_true, decide_false, Bool.and_true, Bool.true_and, Bool.and_false, Bool.false_and, Bool.or_true, Bool.true_or, Bool.or_false, Bool.false_or, Bool.not_true, Bool.not_false, if_true, if_false, Bool.false_eq_true])
      · exact trivial
      · exact b2i_cond q47 (by simp only [c1, decide_true, decide_false, Bool.and_true, Bool.true_and, Bool.and_false, Bool.false_and, Bool.or_true, Bool.true_or, Bool.or_false, Bool.false_or, Bool.not_true, Bool.not_false, if_true, if_false, Bool.false_eq_true])
    · rfl
namespace opOver
theorem walk (W : World) (v0 : Value) (x0 : List Int) (h0 : ArgIs W ED v0 x0) (v1 : Value) (x1 : List Int) (h1 : ArgIs W ED v1 x1) (v2 : Value) (x2 : List Int) (h2 : ArgIs W ED v2 x2) : Calls Try.prog 6 #[v0, v1, v2] W fun e w' => e = .returned (.bool true) ∧ Below W.heap.size W w' :=
  okOpOver.calls (fn := Try.f6) (body := (Try.f6).body.getD .skip) (by kernel_rfl) (by kernel_rfl) (by kernel_rfl) rfl (xs := [x0, x1, x2]) rfl trivial (vs := [v0, v1, v2]) ⟨h0, h1, h2, trivial⟩
end opOver
end Go.Proofs.Ytbhflfdlkiihgaa
