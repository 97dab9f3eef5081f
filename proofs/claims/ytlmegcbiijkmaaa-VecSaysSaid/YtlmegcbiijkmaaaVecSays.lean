/- The statement VecSays: the law's walk, by the reckoning. No condition. -/
import Derived.Test.YtlmegcbiijkmaaaVk1
import Derived.Test.YtlmegcbiijkmaaaVk2
namespace Go.Proofs.Ytlmegcbiijkmaaa
open Go.RowKit Go.Bx Go.Sx
set_option linter.unusedSimpArgs false
set_option linter.unusedVariables false
def cVecSays : Ctr := ⟨10, 41, [V8, V8, .cells [.int .i64, .int .i64], .opq], [.bool]⟩
set_option maxHeartbeats 1600000 in
theorem okVecSays : CtrOK Try.prog ofns cVecSays := by
  refine CtrOK.of okVT mixed (lf := 300) (d := 5) rfl fun w vs xs ha hp => ?_
  obtain ⟨t0, t1, t2, t3, x, y, u, q, rfl, rfl, ⟨hl, rfl, hi⟩, ⟨hl2, rfl, hi2⟩, ⟨hl3, rfl, hg3⟩, ⟨z, rfl, hs, hstr⟩⟩ := open4 ha
  obtain ⟨a0, a1, a2, a3, a4, a5, a6, a7, rfl⟩ := eight hl
  obtain ⟨e0, e1, e2, e3, e4, e5, e6, e7, rfl⟩ := eight hl2
  obtain ⟨d, n, rfl⟩ : ∃ d n, u = [d, n] := by
    match u, hl3 with
    | [d, n], _ => exact ⟨d, n, rfl⟩
  obtain ⟨m0, m1, m2, m3, m4, m5, m6, m7, hM⟩ := eight (show (mergeL [a0, a1, a2, a3, a4, a5, a6, a7] [e0, e1, e2, e3, e4, e5, e6, e7]).length = 8 by simp [mergeL])
  have hGm : ofns.g 50 [[a0, a1, a2, a3, a4, a5, a6, a7], [e0, e1, e2, e3, e4, e5, e6, e7]] = [m0, m1, m2, m3, m4, m5, m6, m7] := hM
  obtain ⟨l8, hl8⟩ : ∃ l, l = rl (decZ z) 8 := ⟨_, rfl⟩
  obtain ⟨b8, hb8⟩ : ∃ b, b = rb (decZ z) false 8 := ⟨_, rfl⟩
  obtain ⟨P8, hP8⟩ : ∃ p, p = atV (dG z) 0 (decZ z) false 8 := ⟨_, rfl⟩
  obtain ⟨s0, s1, s2, s3, s4, s5, s6, s7, hv8⟩ := eight (getV_len (decZ z) false)
  have hG22 : ofns.g 22 [[z, 0]] = [codZ l8, b2i b8, s0, s1, s2, s3, s4, s5, s6, s7] := by
    have h : ofns.g 22 [[z, 0]] = codZ (rl (decZ z) 8) :: b2i (rb (decZ z) false 8) :: getV (decZ z) false := rfl
    rw [h, hl8, hb8, hv8]
  have hG32 : ofns.g 32 [[z, 0, 0]] = [z, (P8 : Int), b2i b8, s0, s1, s2, s3, s4, s5, s6, s7] := by
    have h := g32b (St7.start z)
    rw [hP8, hb8]
    refine Eq.trans (show ofns.g 32 [[z, 0, 0]] = ofns.g 32 [[z, ((0 : Nat) : Int), b2i false]] from rfl) ?_
    rw [h, hv8]
  have hS8 : St7 z l8 b8 P8 := by rw [hl8, hb8, hP8]; exact (St7.start z).vec 8
  cases c1 : decide (100 < ((decZ z).length : Int))
  · have hz := of_decide_eq_false c1
    cases c3 : b8
    · have kEnd : (((decide (((decZ (codZ l8)).length : Int) = 0)) == (decide ((P8 : Int) = ((decZ z).length : Int)))) != true) = false := by
        rw [c3] at hS8
        rw [← is_empty, hS8.end]; simp
      cases c5 : goodB [a0, a1, a2, a3, a4, a5, a6, a7]
      · have kS : (decide ((sumL [a0, a1, a2, a3, a4, a5, a6, a7]) = (-1))) = true := by simp only [sumL, c5, Bool.false_eq_true, if_false, decide_true]
        refine Go.Sx.Way.of (dec := [false, false, false, false, true, true, false, false, true, true, true, true, true, true]) (fs := [.need 40 [], .call 19 40 [] 1, .not 20 (.v 19), .cond 20 false, .prim 21 0 [.v 18], .cmp 22 .gtr (.v 21) (.l 100), .cond 22 false, .need 23 [[.v 18]], .call 23 23 [[.v 18]] 1, .need 22 [[.v 23, .l 0]], .call 24 22 [[.v 23, .l 0]] 10, .need 32 [[.v 18, .l 0, .l 0]], .call 34 32 [[.v 18, .l 0, .l 0]] 11, .eqs 45 [(.v 26, .v 37), (.v 27, .v 38), (.v 28, .v 39), (.v 29, .v 40), (.v 30, .v 41), (.v 31, .v 42), (.v 32, .v 43), (.v 33, .v 44)], .not 46 (.v 45), .cond 46 false, .beq 47 true (.v 25) (.v 36), .cond 47 false, .not 48 (.v 25), .cond 48 true, .prim 49 0 [.v 24], .cmp 50 .eql (.v 49) (.l 0), .not 51 (.v 36), .cond 51 true, .prim 52 0 [.v 34], .cmp 53 .eql (.v 35) (.v 52), .beq 54 true (.v 50) (.v 53), .cond 54 false, .need 4 [[.v 0, .v 1, .v 2, .v 3, .v 4, .v 5, .v 6, .v 7]], .call 55 4 [[.v 0, .v 1, .v 2, .v 3, .v 4, .v 5, .v 6, .v 7]] 1, .cond 55 false, .need 4 [[.v 0, .v 1, .v 2, .v 3, .v 4, .v 5, .v 6, .v 7]], .call 56 4 [[.v 0, .v 1, .v 2, .v 3, .v 4, .v 5, .v 6, .v 7]] 1, .need 4 [[.v 0, .v 1, .v 2, .v 3, .v 4, .v 5, .v 6, .v 7]], .call 57 4 [[.v 0, .v 1, .v 2, .v 3, .v 4, .v 5, .v 6, .v 7]] 1, .beq 58 false (.v 56) (.v 57), .cond 58 true, .need 6 [[.v 0, .v 1, .v 2, .v 3, .v 4, .v 5, .v 6, .v 7], [.v 16, .v 17]], .call 59 6 [[.v 0, .v 1, .v 2, .v 3, .v 4, .v 5, .v 6, .v 7], [.v 16, .v 17]] 1, .need 6 [[.v 0, .v 1, .v 2, .v 3, .v 4, .v 5, .v 6, .v 7], [.v 16, .v 17]], .call 60 6 [[.v 0, .v 1, .v 2, .v 3, .v 4, .v 5, .v 6, .v 7], [.v 16, .v 17]] 1, .beq 61 false (.v 59) (.v 60), .cond 61 true, .need 50 [[.v 0, .v 1, .v 2, .v 3, .v 4, .v 5, .v 6, .v 7], [.v 8, .v 9, .v 10, .v 11, .v 12, .v 13, .v 14, .v 15]], .call 62 50 [[.v 0, .v 1, .v 2, .v 3, .v 4, .v 5, .v 6, .v 7], [.v 8, .v 9, .v 10, .v 11, .v 12, .v 13, .v 14, .v 15]] 8, .need 50 [[.v 0, .v 1, .v 2, .v 3, .v 4, .v 5, .v 6, .v 7], [.v 8, .v 9, .v 10, .v 11, .v 12, .v 13, .v 14, .v 15]], .call 70 50 [[.v 0, .v 1, .v 2, .v 3, .v 4, .v 5, .v 6, .v 7], [.v 8, .v 9, .v 10, .v 11, .v 12, .v 13, .v 14, .v 15]] 8, .eqs 78 [(.v 62, .v 70), (.v 63, .v 71), (.v 64, .v 72), (.v 65, .v 73), (.v 66, .v 74), (.v 67, .v 75), (.v 68, .v 76), (.v 69, .v 77)], .cond 78 true, .need 51 [[.v 0, .v 1, .v 2, .v 3, .v 4, .v 5, .v 6, .v 7], [.v 8, .v 9, .v 10, .v 11, .v 12, .v 13, .v 14, .v 15]], .call 79 51 [[.v 0, .v 1, .v 2, .v 3, .v 4, .v 5, .v 6, .v 7], [.v 8, .v 9, .v 10, .v 11, .v 12, .v 13, .v 14, .v 15]] 1, .need 51 [[.v 0, .v 1, .v 2, .v 3, .v 4, .v 5, .v 6, .v 7], [.v 8, .v 9, .v 10, .v 11, .v 12, .v 13, .v 14, .v 15]], .call 80 51 [[.v 0, .v 1, .v 2, .v 3, .v 4, .v 5, .v 6, .v 7], [.v 8, .v 9, .v 10, .v 11, .v 12, .v 13, .v 14, .v 15]] 1, .beq 81 false (.v 79) (.v 80), .cond 81 true, .need 52 [[.v 0, .v 1, .v 2, .v 3, .v 4, .v 5, .v 6, .v 7], [.v 8, .v 9, .v 10, .v 11, .v 12, .v 13, .v 14, .v 15]], .call 82 52 [[.v 0, .v 1, .v 2, .v 3, .v 4, .v 5, .v 6, .v 7], [.v 8, .v 9, .v 10, .v 11, .v 12, .v 13, .v 14, .v 15]] 1, .need 52 [[.v 0, .v 1, .v 2, .v 3, .v 4, .v 5, .v 6, .v 7], [.v 8, .v 9, .v 10, .v 11, .v 12, .v 13, .v 14, .v 15]], .call 83 52 [[.v 0, .v 1, .v 2, .v 3, .v 4, .v 5, .v 6, .v 7], [.v 8, .v 9, .v 10, .v 11, .v 12, .v 13, .v 14, .v 15]] 1, .cmp 84 .eql (.v 82) (.v 83), .cond 84 true, .need 53 [[.v 0, .v 1, .v 2, .v 3, .v 4, .v 5, .v 6, .v 7]], .call 85 53 [[.v 0, .v 1, .v 2, .v 3, .v 4, .v 5, .v 6, .v 7]] 1, .cmp 86 .eql (.v 85) (.l (-1)), .cond 86 true, .need 3 [[.v 18], [.v 0, .v 1, .v 2, .v 3, .v 4, .v 5, .v 6, .v 7]], .call 87 3 [[.v 18], [.v 0, .v 1, .v 2, .v 3, .v 4, .v 5, .v 6, .v 7]] 1, .need 3 [[.v 18], [.v 0, .v 1, .v 2, .v 3, .v 4, .v 5, .v 6, .v 7]], .call 88 3 [[.v 18], [.v 0, .v 1, .v 2, .v 3, .v 4, .v 5, .v 6, .v 7]] 1, .cmp 89 .eql (.v 87) (.v 88)]) (refs := [.v 89]) (by kernel_rfl) fun ρ hρ hd => ?_
        simp only [D_nil, D_add, D_sub, D_mul, D_and, D_or, D_xor, D_shl, D_shr, D_andNot, D_quo, D_rem, D_add_i64, D_sub_i64, D_mul_i64, D_add_u32, D_sub_u32, D_mul_u32, D_add_u8, D_sub_u8, D_mul_u8, D_eql, D_neq, D_lss, D_leq, D_gtr, D_geq, D_not, D_conv, D_eqs, D_call, D_cond, D_need, D_idx, D_sel, D_upd, D_shv, D_beq, D_len, D_byte, D_cut, D_cat, D_must, List.map_cons, List.map_nil, Ref.den] at hd
        obtain ⟨f19, f20, f21, f22, f23, f24, f34, f45, f46, f47, f48, f49, f50, f51, f52, f53, f54, f55, f56, f57, f58, f59, f60, f61, f62, f70, f78, f79, f80, f81, f82, f83, f84, f85, f86, f87, f88, f89, -⟩ := hd
        have q0 : ρ 0 = a0 := hρ 0 (by decide)
        have q1 : ρ 1 = a1 := hρ 1 (by decide)
        have q2 : ρ 2 = a2 := hρ 2 (by decide)
        have q3 : ρ 3 = a3 := hρ 3 (by decide)
        have q4 : ρ 4 = a4 := hρ 4 (by decide)
        have q5 : ρ 5 = a5 := hρ 5 (by decide)
        have q6 : ρ 6 = a6 := hρ 6 (by decide)
        have q7 : ρ 7 = a7 := hρ 7 (by decide)
        have q8 : ρ 8 = e0 := hρ 8 (by decide)
        have q9 : ρ 9 = e1 := hρ 9 (by decide)
        have q10 : ρ 10 = e2 := hρ 10 (by decide)
        have q11 : ρ 11 = e3 := hρ 11 (by decide)
        have q12 : ρ 12 = e4 := hρ 12 (by decide)
        have q13 : ρ 13 = e5 := hρ 13 (by decide)
        have q14 : ρ 14 = e6 := hρ 14 (by decide)
        have q15 : ρ 15 = e7 := hρ 15 (by decide)
        have q16 : ρ 16 = d := hρ 16 (by decide)
        have q17 : ρ 17 = n := hρ 17 (by decide)
        have q18 : ρ 18 = z := hρ 18 (by decide)
        have q19 : ρ 19 = (b2i (true)) := by
            have t := f19 0 (by decide)
            exact t
        have q20 : ρ 20 = (b2i (!true)) := b2i_not f20 q19
        have q21 : ρ 21 = ((decZ z).length : Int) := by rw [f21, q18]
        have q22 : ρ 22 = (b2i (decide (100 < ((decZ z).length : Int)))) := b2i_dec f22 (by simp only [q21])
        have q23 : ρ 23 = z := by
            have t := f23 0 (by decide)
            simp only [q18] at t
            exact t
        have q24 : ρ 24 = (codZ l8) := by
            have t := f24 0 (by decide)
            simp only [q23, hG22] at t
            exact t
        have q25 : ρ 25 = (b2i (b8)) := by
            have t := f24 1 (by decide)
            simp only [q23, hG22] at t
            exact t
        have q26 : ρ 26 = s0 := by
            have t := f24 2 (by decide)
            simp only [q23, hG22] at t
            exact t
        have q27 : ρ 27 = s1 := by
            have t := f24 3 (by decide)
            simp only [q23, hG22] at t
            exact t
        have q28 : ρ 28 = s2 := by
            have t := f24 4 (by decide)
            simp only [q23, hG22] at t
            exact t
        have q29 : ρ 29 = s3 := by
            have t := f24 5 (by decide)
            simp only [q23, hG22] at t
            exact t
        have q30 : ρ 30 = s4 := by
            have t := f24 6 (by decide)
            simp only [q23, hG22] at t
            exact t
        have q31 : ρ 31 = s5 := by
            have t := f24 7 (by decide)
            simp only [q23, hG22] at t
            exact t
        have q32 : ρ 32 = s6 := by
            have t := f24 8 (by decide)
            simp only [q23, hG22] at t
            exact t
        have q33 : ρ 33 = s7 := by
            have t := f24 9 (by decide)
            simp only [q23, hG22] at t
            exact t
        have q34 : ρ 34 = z := by
            have t := f34 0 (by decide)
            simp only [q18, hG32] at t
            exact t
        have q35 : ρ 35 = (P8 : Int) := by
            have t := f34 1 (by decide)
            simp only [q18, hG32] at t
            exact t
        have q36 : ρ 36 = (b2i (b8)) := by
            have t := f34 2 (by decide)
            simp only [q18, hG32] at t
            exact t
        have q37 : ρ 37 = s0 := by
            have t := f34 3 (by decide)
            simp only [q18, hG32] at t
            exact t
        have q38 : ρ 38 = s1 := by
            have t := f34 4 (by decide)
            simp only [q18, hG32] at t
            exact t
        have q39 : ρ 39 = s2 := by
            have t := f34 5 (by decide)
            simp only [q18, hG32] at t
            exact t
        have q40 : ρ 40 = s3 := by
            have t := f34 6 (by decide)
            simp only [q18, hG32] at t
            exact t
        have q41 : ρ 41 = s4 := by
            have t := f34 7 (by decide)
            simp only [q18, hG32] at t
            exact t
        have q42 : ρ 42 = s5 := by
            have t := f34 8 (by decide)
            simp only [q18, hG32] at t
            exact t
        have q43 : ρ 43 = s6 := by
            have t := f34 9 (by decide)
            simp only [q18, hG32] at t
            exact t
        have q44 : ρ 44 = s7 := by
            have t := f34 10 (by decide)
            simp only [q18, hG32] at t
            exact t
        have q45 : ρ 45 = (b2i (decide ([s0, s1, s2, s3, s4, s5, s6, s7] = [s0, s1, s2, s3, s4, s5, s6, s7]))) := b2i_eqs (l := [s0, s1, s2, s3, s4, s5, s6, s7]) (m := [s0, s1, s2, s3, s4, s5, s6, s7]) f45 (by simp only [List.map_cons, List.map_nil, Ref.den, q26, q37, q27, q38, q28, q39, q29, q40, q30, q41, q31, q42, q32, q43, q33, q44]) (by simp only [List.map_cons, List.map_nil, Ref.den, q26, q37, q27, q38, q28, q39, q29, q40, q30, q41, q31, q42, q32, q43, q33, q44])
        have q46 : ρ 46 = (b2i (!(decide ([s0, s1, s2, s3, s4, s5, s6, s7] = [s0, s1, s2, s3, s4, s5, s6, s7])))) := b2i_not f46 q45
        have q47 : ρ 47 = (b2i ((b8 == b8) != true)) := b2i_beq f47 q25 q36
        have q48 : ρ 48 = (b2i (!b8)) := b2i_not f48 q25
        have q49 : ρ 49 = ((decZ (codZ l8)).length : Int) := by rw [f49, q24]
        have q50 : ρ 50 = (b2i (decide (((decZ (codZ l8)).length : Int) = 0))) := b2i_dec f50 (by simp only [q49])
        have q51 : ρ 51 = (b2i (!b8)) := b2i_not f51 q36
        have q52 : ρ 52 = ((decZ z).length : Int) := by rw [f52, q34]
        have q53 : ρ 53 = (b2i (decide ((P8 : Int) = ((decZ z).length : Int)))) := b2i_dec f53 (by simp only [q35, q52])
        have q54 : ρ 54 = (b2i (((decide (((decZ (codZ l8)).length : Int) = 0)) == (decide ((P8 : Int) = ((decZ z).length : Int)))) != true)) := b2i_beq f54 q50 q53
        have q55 : ρ 55 = (b2i (goodB [a0, a1, a2, a3, a4, a5, a6, a7])) := by
            have t := f55 0 (by decide)
            simp only [q0, q1, q2, q3, q4, q5, q6, q7] at t
            exact t
        have q56 : ρ 56 = (b2i (goodB [a0, a1, a2, a3, a4, a5, a6, a7])) := by
            have t := f56 0 (by decide)
            simp only [q0, q1, q2, q3, q4, q5, q6, q7] at t
            exact t
        have q57 : ρ 57 = (b2i (goodB [a0, a1, a2, a3, a4, a5, a6, a7])) := by
            have t := f57 0 (by decide)
            simp only [q0, q1, q2, q3, q4, q5, q6, q7] at t
            exact t
        have q58 : ρ 58 = (b2i (((goodB [a0, a1, a2, a3, a4, a5, a6, a7]) == (goodB [a0, a1, a2, a3, a4, a5, a6, a7])) != false)) := b2i_beq f58 q56 q57
        have q59 : ρ 59 = (b2i (hasB [a0, a1, a2, a3, a4, a5, a6, a7] d n)) := by
            have t := f59 0 (by decide)
            simp only [q0, q1, q2, q3, q4, q5, q6, q7, q16, q17] at t
            exact t
        have q60 : ρ 60 = (b2i (hasB [a0, a1, a2, a3, a4, a5, a6, a7] d n)) := by
            have t := f60 0 (by decide)
            simp only [q0, q1, q2, q3, q4, q5, q6, q7, q16, q17] at t
            exact t
        have q61 : ρ 61 = (b2i (((hasB [a0, a1, a2, a3, a4, a5, a6, a7] d n) == (hasB [a0, a1, a2, a3, a4, a5, a6, a7] d n)) != false)) := b2i_beq f61 q59 q60
        have q62 : ρ 62 = m0 := by
            have t := f62 0 (by decide)
            simp only [q0, q1, q2, q3, q4, q5, q6, q7, q8, q9, q10, q11, q12, q13, q14, q15, hGm] at t
            exact t
        have q63 : ρ 63 = m1 := by
            have t := f62 1 (by decide)
            simp only [q0, q1, q2, q3, q4, q5, q6, q7, q8, q9, q10, q11, q12, q13, q14, q15, hGm] at t
            exact t
        have q64 : ρ 64 = m2 := by
            have t := f62 2 (by decide)
            simp only [q0, q1, q2, q3, q4, q5, q6, q7, q8, q9, q10, q11, q12, q13, q14, q15, hGm] at t
            exact t
        have q65 : ρ 65 = m3 := by
            have t := f62 3 (by decide)
            simp only [q0, q1, q2, q3, q4, q5, q6, q7, q8, q9, q10, q11, q12, q13, q14, q15, hGm] at t
            exact t
        have q66 : ρ 66 = m4 := by
            have t := f62 4 (by decide)
            simp only [q0, q1, q2, q3, q4, q5, q6, q7, q8, q9, q10, q11, q12, q13, q14, q15, hGm] at t
            exact t
        have q67 : ρ 67 = m5 := by
            have t := f62 5 (by decide)
            simp only [q0, q1, q2, q3, q4, q5, q6, q7, q8, q9, q10, q11, q12, q13, q14, q15, hGm] at t
            exact t
        have q68 : ρ 68 = m6 := by
            have t := f62 6 (by decide)
            simp only [q0, q1, q2, q3, q4, q5, q6, q7, q8, q9, q10, q11, q12, q13, q14, q15, hGm] at t
            exact t
        have q69 : ρ 69 = m7 := by
            have t := f62 7 (by decide)
            simp only [q0, q1, q2, q3, q4, q5, q6, q7, q8, q9, q10, q11, q12, q13, q14, q15, hGm] at t
            exact t
        have q70 : ρ 70 = m0 := by
            have t := f70 0 (by decide)
            simp only [q0, q1, q2, q3, q4, q5, q6, q7, q8, q9, q10, q11, q12, q13, q14, q15, hGm] at t
            exact t
        have q71 : ρ 71 = m1 := by
            have t := f70 1 (by decide)
            simp only [q0, q1, q2, q3, q4, q5, q6, q7, q8, q9, q10, q11, q12, q13, q14, q15, hGm] at t
            exact t
        have q72 : ρ 72 = m2 := by
            have t := f70 2 (by decide)
            simp only [q0, q1, q2, q3, q4, q5, q6, q7, q8, q9, q10, q11, q12, q13, q14, q15, hGm] at t
            exact t
        have q73 : ρ 73 = m3 := by
            have t := f70 3 (by decide)
            simp only [q0, q1, q2, q3, q4, q5, q6, q7, q8, q9, q10, q11, q12, q13, q14, q15, hGm] at t
            exact t
        have q74 : ρ 74 = m4 := by
            have t := f70 4 (by decide)
            simp only [q0, q1, q2, q3, q4, q5, q6, q7, q8, q9, q10, q11, q12, q13, q14, q15, hGm] at t
            exact t
        have q75 : ρ 75 = m5 := by
            have t := f70 5 (by decide)
            simp only [q0, q1, q2, q3, q4, q5, q6, q7, q8, q9, q10, q11, q12, q13, q14, q15, hGm] at t
            exact t
        have q76 : ρ 76 = m6 := by
            have t := f70 6 (by decide)
            simp only [q0, q1, q2, q3, q4, q5, q6, q7, q8, q9, q10, q11, q12, q13, q14, q15, hGm] at t
            exact t
        have q77 : ρ 77 = m7 := by
            have t := f70 7 (by decide)
            simp only [q0, q1, q2, q3, q4, q5, q6, q7, q8, q9, q10, q11, q12, q13, q14, q15, hGm] at t
            exact t
        have q78 : ρ 78 = (b2i (decide ([m0, m1, m2, m3, m4, m5, m6, m7] = [m0, m1, m2, m3, m4, m5, m6, m7]))) := b2i_eqs (l := [m0, m1, m2, m3, m4, m5, m6, m7]) (m := [m0, m1, m2, m3, m4, m5, m6, m7]) f78 (by simp only [List.map_cons, List.map_nil, Ref.den, q62, q70, q63, q71, q64, q72, q65, q73, q66, q74, q67, q75, q68, q76, q69, q77]) (by simp only [List.map_cons, List.map_nil, Ref.den, q62, q70, q63, q71, q64, q72, q65, q73, q66, q74, q67, q75, q68, q76, q69, q77])
        have q79 : ρ 79 = (b2i (leB [a0, a1, a2, a3, a4, a5, a6, a7] [e0, e1, e2, e3, e4, e5, e6, e7])) := by
            have t := f79 0 (by decide)
            simp only [q0, q1, q2, q3, q4, q5, q6, q7, q8, q9, q10, q11, q12, q13, q14, q15] at t
            exact t
        have q80 : ρ 80 = (b2i (leB [a0, a1, a2, a3, a4, a5, a6, a7] [e0, e1, e2, e3, e4, e5, e6, e7])) := by
            have t := f80 0 (by decide)
            simp only [q0, q1, q2, q3, q4, q5, q6, q7, q8, q9, q10, q11, q12, q13, q14, q15] at t
            exact t
        have q81 : ρ 81 = (b2i (((leB [a0, a1, a2, a3, a4, a5, a6, a7] [e0, e1, e2, e3, e4, e5, e6, e7]) == (leB [a0, a1, a2, a3, a4, a5, a6, a7] [e0, e1, e2, e3, e4, e5, e6, e7])) != false)) := b2i_beq f81 q79 q80
        have q82 : ρ 82 = (cmpL [a0, a1, a2, a3, a4, a5, a6, a7] [e0, e1, e2, e3, e4, e5, e6, e7]) := by
            have t := f82 0 (by decide)
            simp only [q0, q1, q2, q3, q4, q5, q6, q7, q8, q9, q10, q11, q12, q13, q14, q15] at t
            exact t
        have q83 : ρ 83 = (cmpL [a0, a1, a2, a3, a4, a5, a6, a7] [e0, e1, e2, e3, e4, e5, e6, e7]) := by
            have t := f83 0 (by decide)
            simp only [q0, q1, q2, q3, q4, q5, q6, q7, q8, q9, q10, q11, q12, q13, q14, q15] at t
            exact t
        have q84 : ρ 84 = (b2i (decide ((cmpL [a0, a1, a2, a3, a4, a5, a6, a7] [e0, e1, e2, e3, e4, e5, e6, e7]) = (cmpL [a0, a1, a2, a3, a4, a5, a6, a7] [e0, e1, e2, e3, e4, e5, e6, e7])))) := b2i_dec f84 (by simp only [q82, q83])
        have q85 : ρ 85 = (sumL [a0, a1, a2, a3, a4, a5, a6, a7]) := by
            have t := f85 0 (by decide)
            simp only [q0, q1, q2, q3, q4, q5, q6, q7] at t
            exact t
        have q86 : ρ 86 = (b2i (decide ((sumL [a0, a1, a2, a3, a4, a5, a6, a7]) = (-1)))) := b2i_dec f86 (by simp only [q85])
        have q87 : ρ 87 = (codZ (putL (decZ z) [a0, a1, a2, a3, a4, a5, a6, a7])) := by
            have t := f87 0 (by decide)
            simp only [q18, q0, q1, q2, q3, q4, q5, q6, q7] at t
            exact t
        have q88 : ρ 88 = (codZ (putL (decZ z) [a0, a1, a2, a3, a4, a5, a6, a7])) := by
            have t := f88 0 (by decide)
            simp only [q18, q0, q1, q2, q3, q4, q5, q6, q7] at t
            exact t
        have q89 : ρ 89 = (b2i (decide ((codZ (putL (decZ z) [a0, a1, a2, a3, a4, a5, a6, a7])) = (codZ (putL (decZ z) [a0, a1, a2, a3, a4, a5, a6, a7]))))) := b2i_dec f89 (by simp only [q87, q88])
        refine ⟨?_, ?_⟩
        · simp only [G_nil, G_bin, G_cmp, G_not, G_conv, G_eqs, G_call, G_cond, G_need, G_idx, G_sel, G_upd, G_shv, G_beq, G_prim, G_byte, G_cut, G_cat, List.map_cons, List.map_nil, Ref.den]
          refine ⟨?_, ?_, ?_, ?_, ?_, ?_, ?_, ?_, ?_, ?_, ?_, ?_, ?_, ?_, ?_, ?_, ?_, ?_, ?_, ?_, ?_, ?_, ?_, ?_, ?_, ?_, ?_, ?_, ?_, ?_, ?_, ?_, trivial⟩
          · exact trivial
          · exact b2i_cond q20 (by simp only [Bool.not_true, decide_true, decide_false, Bool.and_true, Bool.true_and, Bool.and_false, Bool.false_and, Bool.or_true, Bool.true_or, Bool.or_false, Bool.false_or, Bool.not_true, Bool.not_false, if_true, if_false, Bool.false_eq_true])
          · exact b2i_cond q22 (by simp only [c1, decide_true, decide_false, Bool.and_true, Bool.true_and, Bool.and_false, Bool.false_and, Bool.or_true, Bool.true_or, Bool.or_false, Bool.false_or, Bool.not_true, Bool.not_false, if_true, if_false, Bool.false_eq_true])
          · exact by show (decZ (ρ 18)).length ≤ 1000000; rw [q18]; omega
          · exact by show (decZ (ρ 23)).length ≤ 1000000; rw [q23]; omega
          · exact by show ((0 : Int) ≤ 0 ∧ (0 : Int) ≤ ((decZ (ρ 18)).length : Int)) ∧ (decZ (ρ 18)).length ≤ 1000000; rw [q18]; exact ⟨⟨by omega, by omega⟩, by omega⟩
          · exact b2i_cond q46 (by simp)
          · exact b2i_cond q47 (by simp only [c3] <;> rfl)
          · exact b2i_cond q48 (by simp only [c3, decide_true, decide_false, Bool.and_true, Bool.true_and, Bool.and_false, Bool.false_and, Bool.or_true, Bool.true_or, Bool.or_false, Bool.false_or, Bool.not_true, Bool.not_false, if_true, if_false, Bool.false_eq_true])
          · exact b2i_cond q51 (by simp only [c3, decide_true, decide_false, Bool.and_true, Bool.true_and, Bool.and_false, Bool.false_and, Bool.or_true, Bool.true_or, Bool.or_false, Bool.false_or, Bool.not_true, Bool.not_false, if_true, if_false, Bool.false_eq_true])
          · exact b2i_cond q54 (by simp only [kEnd, decide_true, decide_false, Bool.and_true, Bool.true_and, Bool.and_false, Bool.false_and, Bool.or_true, Bool.true_or, Bool.or_false, Bool.false_or, Bool.not_true, Bool.not_false, if_true, if_false, Bool.false_eq_true])
          · exact trivial
          · exact b2i_cond q55 (by simp only [c5, decide_true, decide_false, Bool.and_true, Bool.true_and, Bool.and_false, Bool.false_and, Bool.or_true, Bool.true_or, Bool.or_false, Bool.false_or, Bool.not_true, Bool.not_false, if_true, if_false, Bool.false_eq_true])
          · exact trivial
          · exact trivial
          · exact b2i_cond q58 (by simp only [c5] <;> rfl)
          · exact trivial
          · exact trivial
          · exact b2i_cond q61 (by simp)
          · exact trivial
          · exact trivial
          · exact b2i_cond q78 (by simp)
          · exact trivial
          · exact trivial
          · exact b2i_cond q81 (by simp)
          · exact trivial
          · exact trivial
          · exact b2i_cond q84 (by simp)
          · exact trivial
          · exact b2i_cond q86 (by simp only [kS, decide_true, decide_false, Bool.and_true, Bool.true_and, Bool.and_false, Bool.false_and, Bool.or_true, Bool.true_or, Bool.or_false, Bool.false_or, Bool.not_true, Bool.not_false, if_true, if_false, Bool.false_eq_true])
          · exact by show (decZ (ρ 18)).length ≤ 1000000; rw [q18]; omega
          · exact by show (decZ (ρ 18)).length ≤ 1000000; rw [q18]; omega
        · show [ρ 89] = [1]
          rw [q89]
          exact congrArg (fun b => [b2i b]) (show (decide ((codZ (putL (decZ z) [a0, a1, a2, a3, a4, a5, a6, a7])) = (codZ (putL (decZ z) [a0, a1, a2, a3, a4, a5, a6, a7])))) = true by simp)
      · have hs := fun i => getD_le c5 i
        have u0 := hs 0
        have u1 := hs 1
        have u2 := hs 2
        have u3 := hs 3
        have u4 := hs 4
        have u5 := hs 5
        have u6 := hs 6
        have u7 := hs 7
        simp only [List.getD_cons_zero, List.getD_cons_succ, most] at u0 u1 u2 u3 u4 u5 u6 u7
        have w0 : IntKind.i64.wrap (0 + a0) = 0 + a0 := IntWalk.i64_in _ (by omega)
        have w1 : IntKind.i64.wrap ((0 + a0) + a1) = 0 + a0 + a1 := IntWalk.i64_in _ (by omega)
        have w2 : IntKind.i64.wrap ((0 + a0 + a1) + a2) = 0 + a0 + a1 + a2 := IntWalk.i64_in _ (by omega)
        have w3 : IntKind.i64.wrap ((0 + a0 + a1 + a2) + a3) = 0 + a0 + a1 + a2 + a3 := IntWalk.i64_in _ (by omega)
        have w4 : IntKind.i64.wrap ((0 + a0 + a1 + a2 + a3) + a4) = 0 + a0 + a1 + a2 + a3 + a4 := IntWalk.i64_in _ (by omega)
        have w5 : IntKind.i64.wrap ((0 + a0 + a1 + a2 + a3 + a4) + a5) = 0 + a0 + a1 + a2 + a3 + a4 + a5 := IntWalk.i64_in _ (by omega)
        have w6 : IntKind.i64.wrap ((0 + a0 + a1 + a2 + a3 + a4 + a5) + a6) = 0 + a0 + a1 + a2 + a3 + a4 + a5 + a6 := IntWalk.i64_in _ (by omega)
        have w7 : IntKind.i64.wrap ((0 + a0 + a1 + a2 + a3 + a4 + a5 + a6) + a7) = 0 + a0 + a1 + a2 + a3 + a4 + a5 + a6 + a7 := IntWalk.i64_in _ (by omega)
        have kS : (decide ((sumL [a0, a1, a2, a3, a4, a5, a6, a7]) = (IntKind.i64.wrap ((IntKind.i64.wrap ((IntKind.i64.wrap ((IntKind.i64.wrap ((IntKind.i64.wrap ((IntKind.i64.wrap ((IntKind.i64.wrap ((IntKind.i64.wrap (0 + a0)) + a1)) + a2)) + a3)) + a4)) + a5)) + a6)) + a7)))) = true := by
          rw [w0, w1, w2, w3, w4, w5, w6, w7]
          simp only [sumL, c5, if_true, List.sum_cons, List.sum_nil, decide_eq_true_eq]
          omega
        refine Go.Sx.Way.of (dec := [false, false, false, false, true, true, false, true, true, true, true, true, true, true]) (fs := [.need 40 [], .call 19 40 [] 1, .not 20 (.v 19), .cond 20 false, .prim 21 0 [.v 18], .cmp 22 .gtr (.v 21) (.l 100), .cond 22 false, .need 23 [[.v 18]], .call 23 23 [[.v 18]] 1, .need 22 [[.v 23, .l 0]], .call 24 22 [[.v 23, .l 0]] 10, .need 32 [[.v 18, .l 0, .l 0]], .call 34 32 [[.v 18, .l 0, .l 0]] 11, .eqs 45 [(.v 26, .v 37), (.v 27, .v 38), (.v 28, .v 39), (.v 29, .v 40), (.v 30, .v 41), (.v 31, .v 42), (.v 32, .v 43), (.v 33, .v 44)], .not 46 (.v 45), .cond 46 false, .beq 47 true (.v 25) (.v 36), .cond 47 false, .not 48 (.v 25), .cond 48 true, .prim 49 0 [.v 24], .cmp 50 .eql (.v 49) (.l 0), .not 51 (.v 36), .cond 51 true, .prim 52 0 [.v 34], .cmp 53 .eql (.v 35) (.v 52), .beq 54 true (.v 50) (.v 53), .cond 54 false, .need 4 [[.v 0, .v 1, .v 2, .v 3, .v 4, .v 5, .v 6, .v 7]], .call 55 4 [[.v 0, .v 1, .v 2, .v 3, .v 4, .v 5, .v 6, .v 7]] 1, .cond 55 true, .bin 56 .add .i64 (.l 0) (.v 0), .bin 57 .add .i64 (.v 56) (.v 1), .bin 58 .add .i64 (.v 57) (.v 2), .bin 59 .add .i64 (.v 58) (.v 3), .bin 60 .add .i64 (.v 59) (.v 4), .bin 61 .add .i64 (.v 60) (.v 5), .bin 62 .add .i64 (.v 61) (.v 6), .bin 63 .add .i64 (.v 62) (.v 7), .need 4 [[.v 0, .v 1, .v 2, .v 3, .v 4, .v 5, .v 6, .v 7]], .call 64 4 [[.v 0, .v 1, .v 2, .v 3, .v 4, .v 5, .v 6, .v 7]] 1, .need 4 [[.v 0, .v 1, .v 2, .v 3, .v 4, .v 5, .v 6, .v 7]], .call 65 4 [[.v 0, .v 1, .v 2, .v 3, .v 4, .v 5, .v 6, .v 7]] 1, .beq 66 false (.v 64) (.v 65), .cond 66 true, .need 6 [[.v 0, .v 1, .v 2, .v 3, .v 4, .v 5, .v 6, .v 7], [.v 16, .v 17]], .call 67 6 [[.v 0, .v 1, .v 2, .v 3, .v 4, .v 5, .v 6, .v 7], [.v 16, .v 17]] 1, .need 6 [[.v 0, .v 1, .v 2, .v 3, .v 4, .v 5, .v 6, .v 7], [.v 16, .v 17]], .call 68 6 [[.v 0, .v 1, .v 2, .v 3, .v 4, .v 5, .v 6, .v 7], [.v 16, .v 17]] 1, .beq 69 false (.v 67) (.v 68), .cond 69 true, .need 50 [[.v 0, .v 1, .v 2, .v 3, .v 4, .v 5, .v 6, .v 7], [.v 8, .v 9, .v 10, .v 11, .v 12, .v 13, .v 14, .v 15]], .call 70 50 [[.v 0, .v 1, .v 2, .v 3, .v 4, .v 5, .v 6, .v 7], [.v 8, .v 9, .v 10, .v 11, .v 12, .v 13, .v 14, .v 15]] 8, .need 50 [[.v 0, .v 1, .v 2, .v 3, .v 4, .v 5, .v 6, .v 7], [.v 8, .v 9, .v 10, .v 11, .v 12, .v 13, .v 14, .v 15]], .call 78 50 [[.v 0, .v 1, .v 2, .v 3, .v 4, .v 5, .v 6, .v 7], [.v 8, .v 9, .v 10, .v 11, .v 12, .v 13, .v 14, .v 15]] 8, .eqs 86 [(.v 70, .v 78), (.v 71, .v 79), (.v 72, .v 80), (.v 73, .v 81), (.v 74, .v 82), (.v 75, .v 83), (.v 76, .v 84), (.v 77, .v 85)], .cond 86 true, .need 51 [[.v 0, .v 1, .v 2, .v 3, .v 4, .v 5, .v 6, .v 7], [.v 8, .v 9, .v 10, .v 11, .v 12, .v 13, .v 14, .v 15]], .call 87 51 [[.v 0, .v 1, .v 2, .v 3, .v 4, .v 5, .v 6, .v 7], [.v 8, .v 9, .v 10, .v 11, .v 12, .v 13, .v 14, .v 15]] 1, .need 51 [[.v 0, .v 1, .v 2, .v 3, .v 4, .v 5, .v 6, .v 7], [.v 8, .v 9, .v 10, .v 11, .v 12, .v 13, .v 14, .v 15]], .call 88 51 [[.v 0, .v 1, .v 2, .v 3, .v 4, .v 5, .v 6, .v 7], [.v 8, .v 9, .v 10, .v 11, .v 12, .v 13, .v 14, .v 15]] 1, .beq 89 false (.v 87) (.v 88), .cond 89 true, .need 52 [[.v 0, .v 1, .v 2, .v 3, .v 4, .v 5, .v 6, .v 7], [.v 8, .v 9, .v 10, .v 11, .v 12, .v 13, .v 14, .v 15]], .call 90 52 [[.v 0, .v 1, .v 2, .v 3, .v 4, .v 5, .v 6, .v 7], [.v 8, .v 9, .v 10, .v 11, .v 12, .v 13, .v 14, .v 15]] 1, .need 52 [[.v 0, .v 1, .v 2, .v 3, .v 4, .v 5, .v 6, .v 7], [.v 8, .v 9, .v 10, .v 11, .v 12, .v 13, .v 14, .v 15]], .call 91 52 [[.v 0, .v 1, .v 2, .v 3, .v 4, .v 5, .v 6, .v 7], [.v 8, .v 9, .v 10, .v 11, .v 12, .v 13, .v 14, .v 15]] 1, .cmp 92 .eql (.v 90) (.v 91), .cond 92 true, .need 53 [[.v 0, .v 1, .v 2, .v 3, .v 4, .v 5, .v 6, .v 7]], .call 93 53 [[.v 0, .v 1, .v 2, .v 3, .v 4, .v 5, .v 6, .v 7]] 1, .cmp 94 .eql (.v 93) (.v 63), .cond 94 true, .need 3 [[.v 18], [.v 0, .v 1, .v 2, .v 3, .v 4, .v 5, .v 6, .v 7]], .call 95 3 [[.v 18], [.v 0, .v 1, .v 2, .v 3, .v 4, .v 5, .v 6, .v 7]] 1, .need 3 [[.v 18], [.v 0, .v 1, .v 2, .v 3, .v 4, .v 5, .v 6, .v 7]], .call 96 3 [[.v 18], [.v 0, .v 1, .v 2, .v 3, .v 4, .v 5, .v 6, .v 7]] 1, .cmp 97 .eql (.v 95) (.v 96)]) (refs := [.v 97]) (by kernel_rfl) fun ρ hρ hd => ?_
        simp only [D_nil, D_add, D_sub, D_mul, D_and, D_or, D_xor, D_shl, D_shr, D_andNot, D_quo, D_rem, D_add_i64, D_sub_i64, D_mul_i64, D_add_u32, D_sub_u32, D_mul_u32, D_add_u8, D_sub_u8, D_mul_u8, D_eql, D_neq, D_lss, D_leq, D_gtr, D_geq, D_not, D_conv, D_eqs, D_call, D_cond, D_need, D_idx, D_sel, D_upd, D_shv, D_beq, D_len, D_byte, D_cut, D_cat, D_must, List.map_cons, List.map_nil, Ref.den] at hd
        obtain ⟨f19, f20, f21, f22, f23, f24, f34, f45, f46, f47, f48, f49, f50, f51, f52, f53, f54, f55, f56, f57, f58, f59, f60, f61, f62, f63, f64, f65, f66, f67, f68, f69, f70, f78, f86, f87, f88, f89, f90, f91, f92, f93, f94, f95, f96, f97, -⟩ := hd
        have q0 : ρ 0 = a0 := hρ 0 (by decide)
        have q1 : ρ 1 = a1 := hρ 1 (by decide)
        have q2 : ρ 2 = a2 := hρ 2 (by decide)
        have q3 : ρ 3 = a3 := hρ 3 (by decide)
        have q4 : ρ 4 = a4 := hρ 4 (by decide)
        have q5 : ρ 5 = a5 := hρ 5 (by decide)
        have q6 : ρ 6 = a6 := hρ 6 (by decide)
        have q7 : ρ 7 = a7 := hρ 7 (by decide)
        have q8 : ρ 8 = e0 := hρ 8 (by decide)
        have q9 : ρ 9 = e1 := hρ 9 (by decide)
        have q10 : ρ 10 = e2 := hρ 10 (by decide)
        have q11 : ρ 11 = e3 := hρ 11 (by decide)
        have q12 : ρ 12 = e4 := hρ 12 (by decide)
        have q13 : ρ 13 = e5 := hρ 13 (by decide)
        have q14 : ρ 14 = e6 := hρ 14 (by decide)
        have q15 : ρ 15 = e7 := hρ 15 (by decide)
        have q16 : ρ 16 = d := hρ 16 (by decide)
        have q17 : ρ 17 = n := hρ 17 (by decide)
        have q18 : ρ 18 = z := hρ 18 (by decide)
        have q19 : ρ 19 = (b2i (true)) := by
            have t := f19 0 (by decide)
            exact t
        have q20 : ρ 20 = (b2i (!true)) := b2i_not f20 q19
        have q21 : ρ 21 = ((decZ z).length : Int) := by rw [f21, q18]
        have q22 : ρ 22 = (b2i (decide (100 < ((decZ z).length : Int)))) := b2i_dec f22 (by simp only [q21])
        have q23 : ρ 23 = z := by
            have t := f23 0 (by decide)
            simp only [q18] at t
            exact t
        have q24 : ρ 24 = (codZ l8) := by
            have t := f24 0 (by decide)
            simp only [q23, hG22] at t
            exact t
        have q25 : ρ 25 = (b2i (b8)) := by
            have t := f24 1 (by decide)
            simp only [q23, hG22] at t
            exact t
        have q26 : ρ 26 = s0 := by
            have t := f24 2 (by decide)
            simp only [q23, hG22] at t
            exact t
        have q27 : ρ 27 = s1 := by
            have t := f24 3 (by decide)
            simp only [q23, hG22] at t
            exact t
        have q28 : ρ 28 = s2 := by
            have t := f24 4 (by decide)
            simp only [q23, hG22] at t
            exact t
        have q29 : ρ 29 = s3 := by
            have t := f24 5 (by decide)
            simp only [q23, hG22] at t
            exact t
        have q30 : ρ 30 = s4 := by
            have t := f24 6 (by decide)
            simp only [q23, hG22] at t
            exact t
        have q31 : ρ 31 = s5 := by
            have t := f24 7 (by decide)
            simp only [q23, hG22] at t
            exact t
        have q32 : ρ 32 = s6 := by
            have t := f24 8 (by decide)
            simp only [q23, hG22] at t
            exact t
        have q33 : ρ 33 = s7 := by
            have t := f24 9 (by decide)
            simp only [q23, hG22] at t
            exact t
        have q34 : ρ 34 = z := by
            have t := f34 0 (by decide)
            simp only [q18, hG32] at t
            exact t
        have q35 : ρ 35 = (P8 : Int) := by
            have t := f34 1 (by decide)
            simp only [q18, hG32] at t
            exact t
        have q36 : ρ 36 = (b2i (b8)) := by
            have t := f34 2 (by decide)
            simp only [q18, hG32] at t
            exact t
        have q37 : ρ 37 = s0 := by
            have t := f34 3 (by decide)
            simp only [q18, hG32] at t
            exact t
        have q38 : ρ 38 = s1 := by
            have t := f34 4 (by decide)
            simp only [q18, hG32] at t
            exact t
        have q39 : ρ 39 = s2 := by
            have t := f34 5 (by decide)
            simp only [q18, hG32] at t
            exact t
        have q40 : ρ 40 = s3 := by
            have t := f34 6 (by decide)
            simp only [q18, hG32] at t
            exact t
        have q41 : ρ 41 = s4 := by
            have t := f34 7 (by decide)
            simp only [q18, hG32] at t
            exact t
        have q42 : ρ 42 = s5 := by
            have t := f34 8 (by decide)
            simp only [q18, hG32] at t
            exact t
        have q43 : ρ 43 = s6 := by
            have t := f34 9 (by decide)
            simp only [q18, hG32] at t
            exact t
        have q44 : ρ 44 = s7 := by
            have t := f34 10 (by decide)
            simp only [q18, hG32] at t
            exact t
        have q45 : ρ 45 = (b2i (decide ([s0, s1, s2, s3, s4, s5, s6, s7] = [s0, s1, s2, s3, s4, s5, s6, s7]))) := b2i_eqs (l := [s0, s1, s2, s3, s4, s5, s6, s7]) (m := [s0, s1, s2, s3, s4, s5, s6, s7]) f45 (by simp only [List.map_cons, List.map_nil, Ref.den, q26, q37, q27, q38, q28, q39, q29, q40, q30, q41, q31, q42, q32, q43, q33, q44]) (by simp only [List.map_cons, List.map_nil, Ref.den, q26, q37, q27, q38, q28, q39, q29, q40, q30, q41, q31, q42, q32, q43, q33, q44])
        have q46 : ρ 46 = (b2i (!(decide ([s0, s1, s2, s3, s4, s5, s6, s7] = [s0, s1, s2, s3, s4, s5, s6, s7])))) := b2i_not f46 q45
        have q47 : ρ 47 = (b2i ((b8 == b8) != true)) := b2i_beq f47 q25 q36
        have q48 : ρ 48 = (b2i (!b8)) := b2i_not f48 q25
        have q49 : ρ 49 = ((decZ (codZ l8)).length : Int) := by rw [f49, q24]
        have q50 : ρ 50 = (b2i (decide (((decZ (codZ l8)).length : Int) = 0))) := b2i_dec f50 (by simp only [q49])
        have q51 : ρ 51 = (b2i (!b8)) := b2i_not f51 q36
        have q52 : ρ 52 = ((decZ z).length : Int) := by rw [f52, q34]
        have q53 : ρ 53 = (b2i (decide ((P8 : Int) = ((decZ z).length : Int)))) := b2i_dec f53 (by simp only [q35, q52])
        have q54 : ρ 54 = (b2i (((decide (((decZ (codZ l8)).length : Int) = 0)) == (decide ((P8 : Int) = ((decZ z).length : Int)))) != true)) := b2i_beq f54 q50 q53
        have q55 : ρ 55 = (b2i (goodB [a0, a1, a2, a3, a4, a5, a6, a7])) := by
            have t := f55 0 (by decide)
            simp only [q0, q1, q2, q3, q4, q5, q6, q7] at t
            exact t
        have q56 : ρ 56 = (IntKind.i64.wrap (0 + a0)) := by rw [f56, q0]
        have q57 : ρ 57 = (IntKind.i64.wrap ((IntKind.i64.wrap (0 + a0)) + a1)) := by rw [f57, q56, q1]
        have q58 : ρ 58 = (IntKind.i64.wrap ((IntKind.i64.wrap ((IntKind.i64.wrap (0 + a0)) + a1)) + a2)) := by rw [f58, q57, q2]
        have q59 : ρ 59 = (IntKind.i64.wrap ((IntKind.i64.wrap ((IntKind.i64.wrap ((IntKind.i64.wrap (0 + a0)) + a1)) + a2)) + a3)) := by rw [f59, q58, q3]
        have q60 : ρ 60 = (IntKind.i64.wrap ((IntKind.i64.wrap ((IntKind.i64.wrap ((IntKind.i64.wrap ((IntKind.i64.wrap (0 + a0)) + a1)) + a2)) + a3)) + a4)) := by rw [f60, q59, q4]
        have q61 : ρ 61 = (IntKind.i64.wrap ((IntKind.i64.wrap ((IntKind.i64.wrap ((IntKind.i64.wrap ((IntKind.i64.wrap ((IntKind.i64.wrap (0 + a0)) + a1)) + a2)) + a3)) + a4)) + a5)) := by rw [f61, q60, q5]
        have q62 : ρ 62 = (IntKind.i64.wrap ((IntKind.i64.wrap ((IntKind.i64.wrap ((IntKind.i64.wrap ((IntKind.i64.wrap ((IntKind.i64.wrap ((IntKind.i64.wrap (0 + a0)) + a1)) + a2)) + a3)) + a4)) + a5)) + a6)) := by rw [f62, q61, q6]
        have q63 : ρ 63 = (IntKind.i64.wrap ((IntKind.i64.wrap ((IntKind.i64.wrap ((IntKind.i64.wrap ((IntKind.i64.wrap ((IntKind.i64.wrap ((IntKind.i64.wrap ((IntKind.i64.wrap (0 + a0)) + a1)) + a2)) + a3)) + a4)) + a5)) + a6)) + a7)) := by rw [f63, q62, q7]
        have q64 : ρ 64 = (b2i (goodB [a0, a1, a2, a3, a4, a5, a6, a7])) := by
            have t := f64 0 (by decide)
            simp only [q0, q1, q2, q3, q4, q5, q6, q7] at t
            exact t
        have q65 : ρ 65 = (b2i (goodB [a0, a1, a2, a3, a4, a5, a6, a7])) := by
            have t := f65 0 (by decide)
            simp only [q0, q1, q2, q3, q4, q5, q6, q7] at t
            exact t
        have q66 : ρ 66 = (b2i (((goodB [a0, a1, a2, a3, a4, a5, a6, a7]) == (goodB [a0, a1, a2, a3, a4, a5, a6, a7])) != false)) := b2i_beq f66 q64 q65
        have q67 : ρ 67 = (b2i (hasB [a0, a1, a2, a3, a4, a5, a6, a7] d n)) := by
            have t := f67 0 (by decide)
            simp only [q0, q1, q2, q3, q4, q5, q6, q7, q16, q17] at t
            exact t
        have q68 : ρ 68 = (b2i (hasB [a0, a1, a2, a3, a4, a5, a6, a7] d n)) := by
            have t := f68 0 (by decide)
            simp only [q0, q1, q2, q3, q4, q5, q6, q7, q16, q17] at t
            exact t
        have q69 : ρ 69 = (b2i (((hasB [a0, a1, a2, a3, a4, a5, a6, a7] d n) == (hasB [a0, a1, a2, a3, a4, a5, a6, a7] d n)) != false)) := b2i_beq f69 q67 q68
        have q70 : ρ 70 = m0 := by
            have t := f70 0 (by decide)
            simp only [q0, q1, q2, q3, q4, q5, q6, q7, q8, q9, q10, q11, q12, q13, q14, q15, hGm] at t
            exact t
        have q71 : ρ 71 = m1 := by
            have t := f70 1 (by decide)
            simp only [q0, q1, q2, q3, q4, q5, q6, q7, q8, q9, q10, q11, q12, q13, q14, q15, hGm] at t
            exact t
        have q72 : ρ 72 = m2 := by
            have t := f70 2 (by decide)
            simp only [q0, q1, q2, q3, q4, q5, q6, q7, q8, q9, q10, q11, q12, q13, q14, q15, hGm] at t
            exact t
        have q73 : ρ 73 = m3 := by
            have t := f70 3 (by decide)
            simp only [q0, q1, q2, q3, q4, q5, q6, q7, q8, q9, q10, q11, q12, q13, q14, q15, hGm] at t
            exact t
        have q74 : ρ 74 = m4 := by
            have t := f70 4 (by decide)
            simp only [q0, q1, q2, q3, q4, q5, q6, q7, q8, q9, q10, q11, q12, q13, q14, q15, hGm] at t
            exact t
        have q75 : ρ 75 = m5 := by
            have t := f70 5 (by decide)
            simp only [q0, q1, q2, q3, q4, q5, q6, q7, q8, q9, q10, q11, q12, q13, q14, q15, hGm] at t
            exact t
        have q76 : ρ 76 = m6 := by
            have t := f70 6 (by decide)
            simp only [q0, q1, q2, q3, q4, q5, q6, q7, q8, q9, q10, q11, q12, q13, q14, q15, hGm] at t
            exact t
        have q77 : ρ 77 = m7 := by
            have t := f70 7 (by decide)
            simp only [q0, q1, q2, q3, q4, q5, q6, q7, q8, q9, q10, q11, q12, q13, q14, q15, hGm] at t
            exact t
        have q78 : ρ 78 = m0 := by
            have t := f78 0 (by decide)
            simp only [q0, q1, q2, q3, q4, q5, q6, q7, q8, q9, q10, q11, q12, q13, q14, q15, hGm] at t
            exact t
        have q79 : ρ 79 = m1 := by
            have t := f78 1 (by decide)
            simp only [q0, q1, q2, q3, q4, q5, q6, q7, q8, q9, q10, q11, q12, q13, q14, q15, hGm] at t
            exact t
        have q80 : ρ 80 = m2 := by
            have t := f78 2 (by decide)
            simp only [q0, q1, q2, q3, q4, q5, q6, q7, q8, q9, q10, q11, q12, q13, q14, q15, hGm] at t
            exact t
        have q81 : ρ 81 = m3 := by
            have t := f78 3 (by decide)
            simp only [q0, q1, q2, q3, q4, q5, q6, q7, q8, q9, q10, q11, q12, q13, q14, q15, hGm] at t
            exact t
        have q82 : ρ 82 = m4 := by
            have t := f78 4 (by decide)
            simp only [q0, q1, q2, q3, q4, q5, q6, q7, q8, q9, q10, q11, q12, q13, q14, q15, hGm] at t
            exact t
        have q83 : ρ 83 = m5 := by
            have t := f78 5 (by decide)
            simp only [q0, q1, q2, q3, q4, q5, q6, q7, q8, q9, q10, q11, q12, q13, q14, q15, hGm] at t
            exact t
        have q84 : ρ 84 = m6 := by
            have t := f78 6 (by decide)
            simp only [q0, q1, q2, q3, q4, q5, q6, q7, q8, q9, q10, q11, q12, q13, q14, q15, hGm] at t
            exact t
        have q85 : ρ 85 = m7 := by
            have t := f78 7 (by decide)
            simp only [q0, q1, q2, q3, q4, q5, q6, q7, q8, q9, q10, q11, q12, q13, q14, q15, hGm] at t
            exact t
        have q86 : ρ 86 = (b2i (decide ([m0, m1, m2, m3, m4, m5, m6, m7] = [m0, m1, m2, m3, m4, m5, m6, m7]))) := b2i_eqs (l := [m0, m1, m2, m3, m4, m5, m6, m7]) (m := [m0, m1, m2, m3, m4, m5, m6, m7]) f86 (by simp only [List.map_cons, List.map_nil, Ref.den, q70, q78, q71, q79, q72, q80, q73, q81, q74, q82, q75, q83, q76, q84, q77, q85]) (by simp only [List.map_cons, List.map_nil, Ref.den, q70, q78, q71, q79, q72, q80, q73, q81, q74, q82, q75, q83, q76, q84, q77, q85])
        have q87 : ρ 87 = (b2i (leB [a0, a1, a2, a3, a4, a5, a6, a7] [e0, e1, e2, e3, e4, e5, e6, e7])) := by
            have t := f87 0 (by decide)
            simp only [q0, q1, q2, q3, q4, q5, q6, q7, q8, q9, q10, q11, q12, q13, q14, q15] at t
            exact t
        have q88 : ρ 88 = (b2i (leB [a0, a1, a2, a3, a4, a5, a6, a7] [e0, e1, e2, e3, e4, e5, e6, e7])) := by
            have t := f88 0 (by decide)
            simp only [q0, q1, q2, q3, q4, q5, q6, q7, q8, q9, q10, q11, q12, q13, q14, q15] at t
            exact t
        have q89 : ρ 89 = (b2i (((leB [a0, a1, a2, a3, a4, a5, a6, a7] [e0, e1, e2, e3, e4, e5, e6, e7]) == (leB [a0, a1, a2, a3, a4, a5, a6, a7] [e0, e1, e2, e3, e4, e5, e6, e7])) != false)) := b2i_beq f89 q87 q88
        have q90 : ρ 90 = (cmpL [a0, a1, a2, a3, a4, a5, a6, a7] [e0, e1, e2, e3, e4, e5, e6, e7]) := by
            have t := f90 0 (by decide)
            simp only [q0, q1, q2, q3, q4, q5, q6, q7, q8, q9, q10, q11, q12, q13, q14, q15] at t
            exact t
        have q91 : ρ 91 = (cmpL [a0, a1, a2, a3, a4, a5, a6, a7] [e0, e1, e2, e3, e4, e5, e6, e7]) := by
            have t := f91 0 (by decide)
            simp only [q0, q1, q2, q3, q4, q5, q6, q7, q8, q9, q10, q11, q12, q13, q14, q15] at t
            exact t
        have q92 : ρ 92 = (b2i (decide ((cmpL [a0, a1, a2, a3, a4, a5, a6, a7] [e0, e1, e2, e3, e4, e5, e6, e7]) = (cmpL [a0, a1, a2, a3, a4, a5, a6, a7] [e0, e1, e2, e3, e4, e5, e6, e7])))) := b2i_dec f92 (by simp only [q90, q91])
        have q93 : ρ 93 = (sumL [a0, a1, a2, a3, a4, a5, a6, a7]) := by
            have t := f93 0 (by decide)
            simp only [q0, q1, q2, q3, q4, q5, q6, q7] at t
            exact t
        have q94 : ρ 94 = (b2i (decide ((sumL [a0, a1, a2, a3, a4, a5, a6, a7]) = (IntKind.i64.wrap ((IntKind.i64.wrap ((IntKind.i64.wrap ((IntKind.i64.wrap ((IntKind.i64.wrap ((IntKind.i64.wrap ((IntKind.i64.wrap ((IntKind.i64.wrap (0 + a0)) + a1)) + a2)) + a3)) + a4)) + a5)) + a6)) + a7))))) := b2i_dec f94 (by simp only [q93, q63])
        have q95 : ρ 95 = (codZ (putL (decZ z) [a0, a1, a2, a3, a4, a5, a6, a7])) := by
            have t := f95 0 (by decide)
            simp only [q18, q0, q1, q2, q3, q4, q5, q6, q7] at t
            exact t
        have q96 : ρ 96 = (codZ (putL (decZ z) [a0, a1, a2, a3, a4, a5, a6, a7])) := by
            have t := f96 0 (by decide)
            simp only [q18, q0, q1, q2, q3, q4, q5, q6, q7] at t
            exact t
        have q97 : ρ 97 = (b2i (decide ((codZ (putL (decZ z) [a0, a1, a2, a3, a4, a5, a6, a7])) = (codZ (putL (decZ z) [a0, a1, a2, a3, a4, a5, a6, a7]))))) := b2i_dec f97 (by simp only [q95, q96])
        refine ⟨?_, ?_⟩
        · simp only [G_nil, G_bin, G_cmp, G_not, G_conv, G_eqs, G_call, G_cond, G_need, G_idx, G_sel, G_upd, G_shv, G_beq, G_prim, G_byte, G_cut, G_cat, List.map_cons, List.map_nil, Ref.den]
          refine ⟨?_, ?_, ?_, ?_, ?_, ?_, ?_, ?_, ?_, ?_, ?_, ?_, ?_, ?_, ?_, ?_, ?_, ?_, ?_, ?_, ?_, ?_, ?_, ?_, ?_, ?_, ?_, ?_, ?_, ?_, ?_, ?_, trivial⟩
          · exact trivial
          · exact b2i_cond q20 (by simp only [Bool.not_true, decide_true, decide_false, Bool.and_true, Bool.true_and, Bool.and_false, Bool.false_and, Bool.or_true, Bool.true_or, Bool.or_false, Bool.false_or, Bool.not_true, Bool.not_false, if_true, if_false, Bool.false_eq_true])
          · exact b2i_cond q22 (by simp only [c1, decide_true, decide_false, Bool.and_true, Bool.true_and, Bool.and_false, Bool.false_and, Bool.or_true, Bool.true_or, Bool.or_false, Bool.false_or, Bool.not_true, Bool.not_false, if_true, if_false, Bool.false_eq_true])
          · exact by show (decZ (ρ 18)).length ≤ 1000000; rw [q18]; omega
          · exact by show (decZ (ρ 23)).length ≤ 1000000; rw [q23]; omega
          · exact by show ((0 : Int) ≤ 0 ∧ (0 : Int) ≤ ((decZ (ρ 18)).length : Int)) ∧ (decZ (ρ 18)).length ≤ 1000000; rw [q18]; exact ⟨⟨by omega, by omega⟩, by omega⟩
          · exact b2i_cond q46 (by simp)
          · exact b2i_cond q47 (by simp only [c3] <;> rfl)
          · exact b2i_cond q48 (by simp only [c3, decide_true, decide_false, Bool.and_true, Bool.true_and, Bool.and_false, Bool.false_and, Bool.or_true, Bool.true_or, Bool.or_false, Bool.false_or, Bool.not_true, Bool.not_false, if_true, if_false, Bool.false_eq_true])
          · exact b2i_cond q51 (by simp only [c3, decide_true, decide_false, Bool.and_true, Bool.true_and, Bool.and_false, Bool.false_and, Bool.or_true, Bool.true_or, Bool.or_false, Bool.false_or, Bool.not_true, Bool.not_false, if_true, if_false, Bool.false_eq_true])
          · exact b2i_cond q54 (by simp only [kEnd, decide_true, decide_false, Bool.and_true, Bool.true_and, Bool.and_false, Bool.false_and, Bool.or_true, Bool.true_or, Bool.or_false, Bool.false_or, Bool.not_true, Bool.not_false, if_true, if_false, Bool.false_eq_true])
          · exact trivial
          · exact b2i_cond q55 (by simp only [c5, decide_true, decide_false, Bool.and_true, Bool.true_and, Bool.and_false, Bool.false_and, Bool.or_true, Bool.true_or, Bool.or_false, Bool.false_or, Bool.not_true, Bool.not_false, if_true, if_false, Bool.false_eq_true])
          · exact trivial
          · exact trivial
          · exact b2i_cond q66 (by simp only [c5] <;> rfl)
          · exact trivial
          · exact trivial
          · exact b2i_cond q69 (by simp)
          · exact trivial
          · exact trivial
          · exact b2i_cond q86 (by simp)
          · exact trivial
          · exact trivial
          · exact b2i_cond q89 (by simp)
          · exact trivial
          · exact trivial
          · exact b2i_cond q92 (by simp)
          · exact trivial
          · exact b2i_cond q94 (by simp only [kS, decide_true, decide_false, Bool.and_true, Bool.true_and, Bool.and_false, Bool.false_and, Bool.or_true, Bool.true_or, Bool.or_false, Bool.false_or, Bool.not_true, Bool.not_false, if_true, if_false, Bool.false_eq_true])
          · exact by show (decZ (ρ 18)).length ≤ 1000000; rw [q18]; omega
          · exact by show (decZ (ρ 18)).length ≤ 1000000; rw [q18]; omega
        · show [ρ 97] = [1]
          rw [q97]
          exact congrArg (fun b => [b2i b]) (show (decide ((codZ (putL (decZ z) [a0, a1, a2, a3, a4, a5, a6, a7])) = (codZ (putL (decZ z) [a0, a1, a2, a3, a4, a5, a6, a7])))) = true by simp)
    · cases c4 : goodB [a0, a1, a2, a3, a4, a5, a6, a7]
      · have kS : (decide ((sumL [a0, a1, a2, a3, a4, a5, a6, a7]) = (-1))) = true := by simp only [sumL, c4, Bool.false_eq_true, if_false, decide_true]
        refine Go.Sx.Way.of (dec := [false, false, false, false, false, false, false, false, true, true, true, true, true, true]) (fs := [.need 40 [], .call 19 40 [] 1, .not 20 (.v 19), .cond 20 false, .prim 21 0 [.v 18], .cmp 22 .gtr (.v 21) (.l 100), .cond 22 false, .need 23 [[.v 18]], .call 23 23 [[.v 18]] 1, .need 22 [[.v 23, .l 0]], .call 24 22 [[.v 23, .l 0]] 10, .need 32 [[.v 18, .l 0, .l 0]], .call 34 32 [[.v 18, .l 0, .l 0]] 11, .eqs 45 [(.v 26, .v 37), (.v 27, .v 38), (.v 28, .v 39), (.v 29, .v 40), (.v 30, .v 41), (.v 31, .v 42), (.v 32, .v 43), (.v 33, .v 44)], .not 46 (.v 45), .cond 46 false, .beq 47 true (.v 25) (.v 36), .cond 47 false, .not 48 (.v 25), .cond 48 false, .not 49 (.v 36), .cond 49 false, .beq 50 true (.l 0) (.l 0), .cond 50 false, .need 4 [[.v 0, .v 1, .v 2, .v 3, .v 4, .v 5, .v 6, .v 7]], .call 51 4 [[.v 0, .v 1, .v 2, .v 3, .v 4, .v 5, .v 6, .v 7]] 1, .cond 51 false, .need 4 [[.v 0, .v 1, .v 2, .v 3, .v 4, .v 5, .v 6, .v 7]], .call 52 4 [[.v 0, .v 1, .v 2, .v 3, .v 4, .v 5, .v 6, .v 7]] 1, .need 4 [[.v 0, .v 1, .v 2, .v 3, .v 4, .v 5, .v 6, .v 7]], .call 53 4 [[.v 0, .v 1, .v 2, .v 3, .v 4, .v 5, .v 6, .v 7]] 1, .beq 54 false (.v 52) (.v 53), .cond 54 true, .need 6 [[.v 0, .v 1, .v 2, .v 3, .v 4, .v 5, .v 6, .v 7], [.v 16, .v 17]], .call 55 6 [[.v 0, .v 1, .v 2, .v 3, .v 4, .v 5, .v 6, .v 7], [.v 16, .v 17]] 1, .need 6 [[.v 0, .v 1, .v 2, .v 3, .v 4, .v 5, .v 6, .v 7], [.v 16, .v 17]], .call 56 6 [[.v 0, .v 1, .v 2, .v 3, .v 4, .v 5, .v 6, .v 7], [.v 16, .v 17]] 1, .beq 57 false (.v 55) (.v 56), .cond 57 true, .need 50 [[.v 0, .v 1, .v 2, .v 3, .v 4, .v 5, .v 6, .v 7], [.v 8, .v 9, .v 10, .v 11, .v 12, .v 13, .v 14, .v 15]], .call 58 50 [[.v 0, .v 1, .v 2, .v 3, .v 4, .v 5, .v 6, .v 7], [.v 8, .v 9, .v 10, .v 11, .v 12, .v 13, .v 14, .v 15]] 8, .need 50 [[.v 0, .v 1, .v 2, .v 3, .v 4, .v 5, .v 6, .v 7], [.v 8, .v 9, .v 10, .v 11, .v 12, .v 13, .v 14, .v 15]], .call 66 50 [[.v 0, .v 1, .v 2, .v 3, .v 4, .v 5, .v 6, .v 7], [.v 8, .v 9, .v 10, .v 11, .v 12, .v 13, .v 14, .v 15]] 8, .eqs 74 [(.v 58, .v 66), (.v 59, .v 67), (.v 60, .v 68), (.v 61, .v 69), (.v 62, .v 70), (.v 63, .v 71), (.v 64, .v 72), (.v 65, .v 73)], .cond 74 true, .need 51 [[.v 0, .v 1, .v 2, .v 3, .v 4, .v 5, .v 6, .v 7], [.v 8, .v 9, .v 10, .v 11, .v 12, .v 13, .v 14, .v 15]], .call 75 51 [[.v 0, .v 1, .v 2, .v 3, .v 4, .v 5, .v 6, .v 7], [.v 8, .v 9, .v 10, .v 11, .v 12, .v 13, .v 14, .v 15]] 1, .need 51 [[.v 0, .v 1, .v 2, .v 3, .v 4, .v 5, .v 6, .v 7], [.v 8, .v 9, .v 10, .v 11, .v 12, .v 13, .v 14, .v 15]], .call 76 51 [[.v 0, .v 1, .v 2, .v 3, .v 4, .v 5, .v 6, .v 7], [.v 8, .v 9, .v 10, .v 11, .v 12, .v 13, .v 14, .v 15]] 1, .beq 77 false (.v 75) (.v 76), .cond 77 true, .need 52 [[.v 0, .v 1, .v 2, .v 3, .v 4, .v 5, .v 6, .v 7], [.v 8, .v 9, .v 10, .v 11, .v 12, .v 13, .v 14, .v 15]], .call 78 52 [[.v 0, .v 1, .v 2, .v 3, .v 4, .v 5, .v 6, .v 7], [.v 8, .v 9, .v 10, .v 11, .v 12, .v 13, .v 14, .v 15]] 1, .need 52 [[.v 0, .v 1, .v 2, .v 3, .v 4, .v 5, .v 6, .v 7], [.v 8, .v 9, .v 10, .v 11, .v 12, .v 13, .v 14, .v 15]], .call 79 52 [[.v 0, .v 1, .v 2, .v 3, .v 4, .v 5, .v 6, .v 7], [.v 8, .v 9, .v 10, .v 11, .v 12, .v 13, .v 14, .v 15]] 1, .cmp 80 .eql (.v 78) (.v 79), .cond 80 true, .need 53 [[.v 0, .v 1, .v 2, .v 3, .v 4, .v 5, .v 6, .v 7]], .call 81 53 [[.v 0, .v 1, .v 2, .v 3, .v 4, .v 5, .v 6, .v 7]] 1, .cmp 82 .eql (.v 81) (.l (-1)), .cond 82 true, .need 3 [[.v 18], [.v 0, .v 1, .v 2, .v 3, .v 4, .v 5, .v 6, .v 7]], .call 83 3 [[.v 18], [.v 0, .v 1, .v 2, .v 3, .v 4, .v 5, .v 6, .v 7]] 1, .need 3 [[.v 18], [.v 0, .v 1, .v 2, .v 3, .v 4, .v 5, .v 6, .v 7]], .call 84 3 [[.v 18], [.v 0, .v 1, .v 2, .v 3, .v 4, .v 5, .v 6, .v 7]] 1, .cmp 85 .eql (.v 83) (.v 84)]) (refs := [.v 85]) (by kernel_rfl) fun ρ hρ hd => ?_
        simp only [D_nil, D_add, D_sub, D_mul, D_and, D_or, D_xor, D_shl, D_shr, D_andNot, D_quo, D_rem, D_add_i64, D_sub_i64, D_mul_i64, D_add_u32, D_sub_u32, D_mul_u32, D_add_u8, D_sub_u8, D_mul_u8, D_eql, D_neq, D_lss, D_leq, D_gtr, D_geq, D_not, D_conv, D_eqs, D_call, D_cond, D_need, D_idx, D_sel, D_upd, D_shv, D_beq, D_len, D_byte, D_cut, D_cat, D_must, List.map_cons, List.map_nil, Ref.den] at hd
        obtain ⟨f19, f20, f21, f22, f23, f24, f34, f45, f46, f47, f48, f49, f50, f51, f52, f53, f54, f55, f56, f57, f58, f66, f74, f75, f76, f77, f78, f79, f80, f81, f82, f83, f84, f85, -⟩ := hd
        have q0 : ρ 0 = a0 := hρ 0 (by decide)
        have q1 : ρ 1 = a1 := hρ 1 (by decide)
        have q2 : ρ 2 = a2 := hρ 2 (by decide)
        have q3 : ρ 3 = a3 := hρ 3 (by decide)
        have q4 : ρ 4 = a4 := hρ 4 (by decide)
        have q5 : ρ 5 = a5 := hρ 5 (by decide)
        have q6 : ρ 6 = a6 := hρ 6 (by decide)
        have q7 : ρ 7 = a7 := hρ 7 (by decide)
        have q8 : ρ 8 = e0 := hρ 8 (by decide)
        have q9 : ρ 9 = e1 := hρ 9 (by decide)
        have q10 : ρ 10 = e2 := hρ 10 (by decide)
        have q11 : ρ 11 = e3 := hρ 11 (by decide)
        have q12 : ρ 12 = e4 := hρ 12 (by decide)
        have q13 : ρ 13 = e5 := hρ 13 (by decide)
        have q14 : ρ 14 = e6 := hρ 14 (by decide)
        have q15 : ρ 15 = e7 := hρ 15 (by decide)
        have q16 : ρ 16 = d := hρ 16 (by decide)
        have q17 : ρ 17 = n := hρ 17 (by decide)
        have q18 : ρ 18 = z := hρ 18 (by decide)
        have q19 : ρ 19 = (b2i (true)) := by
            have t := f19 0 (by decide)
            exact t
        have q20 : ρ 20 = (b2i (!true)) := b2i_not f20 q19
        have q21 : ρ 21 = ((decZ z).length : Int) := by rw [f21, q18]
        have q22 : ρ 22 = (b2i (decide (100 < ((decZ z).length : Int)))) := b2i_dec f22 (by simp only [q21])
        have q23 : ρ 23 = z := by
            have t := f23 0 (by decide)
            simp only [q18] at t
            exact t
        have q24 : ρ 24 = (codZ l8) := by
            have t := f24 0 (by decide)
            simp only [q23, hG22] at t
            exact t
        have q25 : ρ 25 = (b2i (b8)) := by
            have t := f24 1 (by decide)
            simp only [q23, hG22] at t
            exact t
        have q26 : ρ 26 = s0 := by
            have t := f24 2 (by decide)
            simp only [q23, hG22] at t
            exact t
        have q27 : ρ 27 = s1 := by
            have t := f24 3 (by decide)
            simp only [q23, hG22] at t
            exact t
        have q28 : ρ 28 = s2 := by
            have t := f24 4 (by decide)
            simp only [q23, hG22] at t
            exact t
        have q29 : ρ 29 = s3 := by
            have t := f24 5 (by decide)
            simp only [q23, hG22] at t
            exact t
        have q30 : ρ 30 = s4 := by
            have t := f24 6 (by decide)
            simp only [q23, hG22] at t
            exact t
        have q31 : ρ 31 = s5 := by
            have t := f24 7 (by decide)
            simp only [q23, hG22] at t
            exact t
        have q32 : ρ 32 = s6 := by
            have t := f24 8 (by decide)
            simp only [q23, hG22] at t
            exact t
        have q33 : ρ 33 = s7 := by
            have t := f24 9 (by decide)
            simp only [q23, hG22] at t
            exact t
        have q34 : ρ 34 = z := by
            have t := f34 0 (by decide)
            simp only [q18, hG32] at t
            exact t
        have q35 : ρ 35 = (P8 : Int) := by
            have t := f34 1 (by decide)
            simp only [q18, hG32] at t
            exact t
        have q36 : ρ 36 = (b2i (b8)) := by
            have t := f34 2 (by decide)
            simp only [q18, hG32] at t
            exact t
        have q37 : ρ 37 = s0 := by
            have t := f34 3 (by decide)
            simp only [q18, hG32] at t
            exact t
        have q38 : ρ 38 = s1 := by
            have t := f34 4 (by decide)
            simp only [q18, hG32] at t
            exact t
        have q39 : ρ 39 = s2 := by
            have t := f34 5 (by decide)
            simp only [q18, hG32] at t
            exact t
        have q40 : ρ 40 = s3 := by
            have t := f34 6 (by decide)
            simp only [q18, hG32] at t
            exact t
        have q41 : ρ 41 = s4 := by
            have t := f34 7 (by decide)
            simp only [q18, hG32] at t
            exact t
        have q42 : ρ 42 = s5 := by
            have t := f34 8 (by decide)
            simp only [q18, hG32] at t
            exact t
        have q43 : ρ 43 = s6 := by
            have t := f34 9 (by decide)
            simp only [q18, hG32] at t
            exact t
        have q44 : ρ 44 = s7 := by
            have t := f34 10 (by decide)
            simp only [q18, hG32] at t
            exact t
        have q45 : ρ 45 = (b2i (decide ([s0, s1, s2, s3, s4, s5, s6, s7] = [s0, s1, s2, s3, s4, s5, s6, s7]))) := b2i_eqs (l := [s0, s1, s2, s3, s4, s5, s6, s7]) (m := [s0, s1, s2, s3, s4, s5, s6, s7]) f45 (by simp only [List.map_cons, List.map_nil, Ref.den, q26, q37, q27, q38, q28, q39, q29, q40, q30, q41, q31, q42, q32, q43, q33, q44]) (by simp only [List.map_cons, List.map_nil, Ref.den, q26, q37, q27, q38, q28, q39, q29, q40, q30, q41, q31, q42, q32, q43, q33, q44])
        have q46 : ρ 46 = (b2i (!(decide ([s0, s1, s2, s3, s4, s5, s6, s7] = [s0, s1, s2, s3, s4, s5, s6, s7])))) := b2i_not f46 q45
        have q47 : ρ 47 = (b2i ((b8 == b8) != true)) := b2i_beq f47 q25 q36
        have q48 : ρ 48 = (b2i (!b8)) := b2i_not f48 q25
        have q49 : ρ 49 = (b2i (!b8)) := b2i_not f49 q36
        have q50 : ρ 50 = (b2i ((false == false) != true)) := b2i_beq f50 (show (0 : Int) = b2i false from rfl) (show (0 : Int) = b2i false from rfl)
        have q51 : ρ 51 = (b2i (goodB [a0, a1, a2, a3, a4, a5, a6, a7])) := by
            have t := f51 0 (by decide)
            simp only [q0, q1, q2, q3, q4, q5, q6, q7] at t
            exact t
        have q52 : ρ 52 = (b2i (goodB [a0, a1, a2, a3, a4, a5, a6, a7])) := by
            have t := f52 0 (by decide)
            simp only [q0, q1, q2, q3, q4, q5, q6, q7] at t
            exact t
        have q53 : ρ 53 = (b2i (goodB [a0, a1, a2, a3, a4, a5, a6, a7])) := by
            have t := f53 0 (by decide)
            simp only [q0, q1, q2, q3, q4, q5, q6, q7] at t
            exact t
        have q54 : ρ 54 = (b2i (((goodB [a0, a1, a2, a3, a4, a5, a6, a7]) == (goodB [a0, a1, a2, a3, a4, a5, a6, a7])) != false)) := b2i_beq f54 q52 q53
        have q55 : ρ 55 = (b2i (hasB [a0, a1, a2, a3, a4, a5, a6, a7] d n)) := by
            have t := f55 0 (by decide)
            simp only [q0, q1, q2, q3, q4, q5, q6, q7, q16, q17] at t
            exact t
        have q56 : ρ 56 = (b2i (hasB [a0, a1, a2, a3, a4, a5, a6, a7] d n)) := by
            have t := f56 0 (by decide)
            simp only [q0, q1, q2, q3, q4, q5, q6, q7, q16, q17] at t
            exact t
        have q57 : ρ 57 = (b2i (((hasB [a0, a1, a2, a3, a4, a5, a6, a7] d n) == (hasB [a0, a1, a2, a3, a4, a5, a6, a7] d n)) != false)) := b2i_beq f57 q55 q56
        have q58 : ρ 58 = m0 := by
            have t := f58 0 (by decide)
            simp only [q0, q1, q2, q3, q4, q5, q6, q7, q8, q9, q10, q11, q12, q13, q14, q15, hGm] at t
            exact t
        have q59 : ρ 59 = m1 := by
            have t := f58 1 (by decide)
            simp only [q0, q1, q2, q3, q4, q5, q6, q7, q8, q9, q10, q11, q12, q13, q14, q15, hGm] at t
            exact t
        have q60 : ρ 60 = m2 := by
            have t := f58 2 (by decide)
            simp only [q0, q1, q2, q3, q4, q5, q6, q7, q8, q9, q10, q11, q12, q13, q14, q15, hGm] at t
            exact t
        have q61 : ρ 61 = m3 := by
            have t := f58 3 (by decide)
            simp only [q0, q1, q2, q3, q4, q5, q6, q7, q8, q9, q10, q11, q12, q13, q14, q15, hGm] at t
            exact t
        have q62 : ρ 62 = m4 := by
            have t := f58 4 (by decide)
            simp only [q0, q1, q2, q3, q4, q5, q6, q7, q8, q9, q10, q11, q12, q13, q14, q15, hGm] at t
            exact t
        have q63 : ρ 63 = m5 := by
            have t := f58 5 (by decide)
            simp only [q0, q1, q2, q3, q4, q5, q6, q7, q8, q9, q10, q11, q12, q13, q14, q15, hGm] at t
            exact t
        have q64 : ρ 64 = m6 := by
            have t := f58 6 (by decide)
            simp only [q0, q1, q2, q3, q4, q5, q6, q7, q8, q9, q10, q11, q12, q13, q14, q15, hGm] at t
            exact t
        have q65 : ρ 65 = m7 := by
            have t := f58 7 (by decide)
            simp only [q0, q1, q2, q3, q4, q5, q6, q7, q8, q9, q10, q11, q12, q13, q14, q15, hGm] at t
            exact t
        have q66 : ρ 66 = m0 := by
            have t := f66 0 (by decide)
            simp only [q0, q1, q2, q3, q4, q5, q6, q7, q8, q9, q10, q11, q12, q13, q14, q15, hGm] at t
            exact t
        have q67 : ρ 67 = m1 := by
            have t := f66 1 (by decide)
            simp only [q0, q1, q2, q3, q4, q5, q6, q7, q8, q9, q10, q11, q12, q13, q14, q15, hGm] at t
            exact t
        have q68 : ρ 68 = m2 := by
            have t := f66 2 (by decide)
            simp only [q0, q1, q2, q3, q4, q5, q6, q7, q8, q9, q10, q11, q12, q13, q14, q15, hGm] at t
            exact t
        have q69 : ρ 69 = m3 := by
            have t := f66 3 (by decide)
            simp only [q0, q1, q2, q3, q4, q5, q6, q7, q8, q9, q10, q11, q12, q13, q14, q15, hGm] at t
            exact t
        have q70 : ρ 70 = m4 := by
            have t := f66 4 (by decide)
            simp only [q0, q1, q2, q3, q4, q5, q6, q7, q8, q9, q10, q11, q12, q13, q14, q15, hGm] at t
            exact t
        have q71 : ρ 71 = m5 := by
            have t := f66 5 (by decide)
            simp only [q0, q1, q2, q3, q4, q5, q6, q7, q8, q9, q10, q11, q12, q13, q14, q15, hGm] at t
            exact t
        have q72 : ρ 72 = m6 := by
            have t := f66 6 (by decide)
            simp only [q0, q1, q2, q3, q4, q5, q6, q7, q8, q9, q10, q11, q12, q13, q14, q15, hGm] at t
            exact t
        have q73 : ρ 73 = m7 := by
            have t := f66 7 (by decide)
            simp only [q0, q1, q2, q3, q4, q5, q6, q7, q8, q9, q10, q11, q12, q13, q14, q15, hGm] at t
            exact t
        have q74 : ρ 74 = (b2i (decide ([m0, m1, m2, m3, m4, m5, m6, m7] = [m0, m1, m2, m3, m4, m5, m6, m7]))) := b2i_eqs (l := [m0, m1, m2, m3, m4, m5, m6, m7]) (m := [m0, m1, m2, m3, m4, m5, m6, m7]) f74 (by simp only [List.map_cons, List.map_nil, Ref.den, q58, q66, q59, q67, q60, q68, q61, q69, q62, q70, q63, q71, q64, q72, q65, q73]) (by simp only [List.map_cons, List.map_nil, Ref.den, q58, q66, q59, q67, q60, q68, q61, q69, q62, q70, q63, q71, q64, q72, q65, q73])
        have q75 : ρ 75 = (b2i (leB [a0, a1, a2, a3, a4, a5, a6, a7] [e0, e1, e2, e3, e4, e5, e6, e7])) := by
            have t := f75 0 (by decide)
            simp only [q0, q1, q2, q3, q4, q5, q6, q7, q8, q9, q10, q11, q12, q13, q14, q15] at t
            exact t
        have q76 : ρ 76 = (b2i (leB [a0, a1, a2, a3, a4, a5, a6, a7] [e0, e1, e2, e3, e4, e5, e6, e7])) := by
            have t := f76 0 (by decide)
            simp only [q0, q1, q2, q3, q4, q5, q6, q7, q8, q9, q10, q11, q12, q13, q14, q15] at t
            exact t
        have q77 : ρ 77 = (b2i (((leB [a0, a1, a2, a3, a4, a5, a6, a7] [e0, e1, e2, e3, e4, e5, e6, e7]) == (leB [a0, a1, a2, a3, a4, a5, a6, a7] [e0, e1, e2, e3, e4, e5, e6, e7])) != false)) := b2i_beq f77 q75 q76
        have q78 : ρ 78 = (cmpL [a0, a1, a2, a3, a4, a5, a6, a7] [e0, e1, e2, e3, e4, e5, e6, e7]) := by
            have t := f78 0 (by decide)
            simp only [q0, q1, q2, q3, q4, q5, q6, q7, q8, q9, q10, q11, q12, q13, q14, q15] at t
            exact t
        have q79 : ρ 79 = (cmpL [a0, a1, a2, a3, a4, a5, a6, a7] [e0, e1, e2, e3, e4, e5, e6, e7]) := by
            have t := f79 0 (by decide)
            simp only [q0, q1, q2, q3, q4, q5, q6, q7, q8, q9, q10, q11, q12, q13, q14, q15] at t
            exact t
        have q80 : ρ 80 = (b2i (decide ((cmpL [a0, a1, a2, a3, a4, a5, a6, a7] [e0, e1, e2, e3, e4, e5, e6, e7]) = (cmpL [a0, a1, a2, a3, a4, a5, a6, a7] [e0, e1, e2, e3, e4, e5, e6, e7])))) := b2i_dec f80 (by simp only [q78, q79])
        have q81 : ρ 81 = (sumL [a0, a1, a2, a3, a4, a5, a6, a7]) := by
            have t := f81 0 (by decide)
            simp only [q0, q1, q2, q3, q4, q5, q6, q7] at t
            exact t
        have q82 : ρ 82 = (b2i (decide ((sumL [a0, a1, a2, a3, a4, a5, a6, a7]) = (-1)))) := b2i_dec f82 (by simp only [q81])
        have q83 : ρ 83 = (codZ (putL (decZ z) [a0, a1, a2, a3, a4, a5, a6, a7])) := by
            have t := f83 0 (by decide)
            simp only [q18, q0, q1, q2, q3, q4, q5, q6, q7] at t
            exact t
        have q84 : ρ 84 = (codZ (putL (decZ z) [a0, a1, a2, a3, a4, a5, a6, a7])) := by
            have t := f84 0 (by decide)
            simp only [q18, q0, q1, q2, q3, q4, q5, q6, q7] at t
            exact t
        have q85 : ρ 85 = (b2i (decide ((codZ (putL (decZ z) [a0, a1, a2, a3, a4, a5, a6, a7])) = (codZ (putL (decZ z) [a0, a1, a2, a3, a4, a5, a6, a7]))))) := b2i_dec f85 (by simp only [q83, q84])
        refine ⟨?_, ?_⟩
        · simp only [G_nil, G_bin, G_cmp, G_not, G_conv, G_eqs, G_call, G_cond, G_need, G_idx, G_sel, G_upd, G_shv, G_beq, G_prim, G_byte, G_cut, G_cat, List.map_cons, List.map_nil, Ref.den]
          refine ⟨?_, ?_, ?_, ?_, ?_, ?_, ?_, ?_, ?_, ?_, ?_, ?_, ?_, ?_, ?_, ?_, ?_, ?_, ?_, ?_, ?_, ?_, ?_, ?_, ?_, ?_, ?_, ?_, ?_, ?_, ?_, ?_, trivial⟩
          · exact trivial
          · exact b2i_cond q20 (by simp only [Bool.not_true, decide_true, decide_false, Bool.and_true, Bool.true_and, Bool.and_false, Bool.false_and, Bool.or_true, Bool.true_or, Bool.or_false, Bool.false_or, Bool.not_true, Bool.not_false, if_true, if_false, Bool.false_eq_true])
          · exact b2i_cond q22 (by simp only [c1, decide_true, decide_false, Bool.and_true, Bool.true_and, Bool.and_false, Bool.false_and, Bool.or_true, Bool.true_or, Bool.or_false, Bool.false_or, Bool.not_true, Bool.not_false, if_true, if_false, Bool.false_eq_true])
          · exact by show (decZ (ρ 18)).length ≤ 1000000; rw [q18]; omega
          · exact by show (decZ (ρ 23)).length ≤ 1000000; rw [q23]; omega
          · exact by show ((0 : Int) ≤ 0 ∧ (0 : Int) ≤ ((decZ (ρ 18)).length : Int)) ∧ (decZ (ρ 18)).length ≤ 1000000; rw [q18]; exact ⟨⟨by omega, by omega⟩, by omega⟩
          · exact b2i_cond q46 (by simp)
          · exact b2i_cond q47 (by simp only [c3] <;> rfl)
          · exact b2i_cond q48 (by simp only [c3, decide_true, decide_false, Bool.and_true, Bool.true_and, Bool.and_false, Bool.false_and, Bool.or_true, Bool.true_or, Bool.or_false, Bool.false_or, Bool.not_true, Bool.not_false, if_true, if_false, Bool.false_eq_true])
          · exact b2i_cond q49 (by simp only [c3, decide_true, decide_false, Bool.and_true, Bool.true_and, Bool.and_false, Bool.false_and, Bool.or_true, Bool.true_or, Bool.or_false, Bool.false_or, Bool.not_true, Bool.not_false, if_true, if_false, Bool.false_eq_true])
          · exact b2i_cond q50 (by simp)
          · exact trivial
          · exact b2i_cond q51 (by simp only [c4, decide_true, decide_false, Bool.and_true, Bool.true_and, Bool.and_false, Bool.false_and, Bool.or_true, Bool.true_or, Bool.or_false, Bool.false_or, Bool.not_true, Bool.not_false, if_true, if_false, Bool.false_eq_true])
          · exact trivial
          · exact trivial
          · exact b2i_cond q54 (by simp only [c4] <;> rfl)
          · exact trivial
          · exact trivial
          · exact b2i_cond q57 (by simp)
          · exact trivial
          · exact trivial
          · exact b2i_cond q74 (by simp)
          · exact trivial
          · exact trivial
          · exact b2i_cond q77 (by simp)
          · exact trivial
          · exact trivial
          · exact b2i_cond q80 (by simp)
          · exact trivial
          · exact b2i_cond q82 (by simp only [kS, decide_true, decide_false, Bool.and_true, Bool.true_and, Bool.and_false, Bool.false_and, Bool.or_true, Bool.true_or, Bool.or_false, Bool.false_or, Bool.not_true, Bool.not_false, if_true, if_false, Bool.false_eq_true])
          · exact by show (decZ (ρ 18)).length ≤ 1000000; rw [q18]; omega
          · exact by show (decZ (ρ 18)).length ≤ 1000000; rw [q18]; omega
        · show [ρ 85] = [1]
          rw [q85]
          exact congrArg (fun b => [b2i b]) (show (decide ((codZ (putL (decZ z) [a0, a1, a2, a3, a4, a5, a6, a7])) = (codZ (putL (decZ z) [a0, a1, a2, a3, a4, a5, a6, a7])))) = true by simp)
      · have hs := fun i => getD_le c4 i
        have u0 := hs 0
        have u1 := hs 1
        have u2 := hs 2
        have u3 := hs 3
        have u4 := hs 4
        have u5 := hs 5
        have u6 := hs 6
        have u7 := hs 7
        simp only [List.getD_cons_zero, List.getD_cons_succ, most] at u0 u1 u2 u3 u4 u5 u6 u7
        have w0 : IntKind.i64.wrap (0 + a0) = 0 + a0 := IntWalk.i64_in _ (by omega)
        have w1 : IntKind.i64.wrap ((0 + a0) + a1) = 0 + a0 + a1 := IntWalk.i64_in _ (by omega)
        have w2 : IntKind.i64.wrap ((0 + a0 + a1) + a2) = 0 + a0 + a1 + a2 := IntWalk.i64_in _ (by omega)
        have w3 : IntKind.i64.wrap ((0 + a0 + a1 + a2) + a3) = 0 + a0 + a1 + a2 + a3 := IntWalk.i64_in _ (by omega)
        have w4 : IntKind.i64.wrap ((0 + a0 + a1 + a2 + a3) + a4) = 0 + a0 + a1 + a2 + a3 + a4 := IntWalk.i64_in _ (by omega)
        have w5 : IntKind.i64.wrap ((0 + a0 + a1 + a2 + a3 + a4) + a5) = 0 + a0 + a1 + a2 + a3 + a4 + a5 := IntWalk.i64_in _ (by omega)
        have w6 : IntKind.i64.wrap ((0 + a0 + a1 + a2 + a3 + a4 + a5) + a6) = 0 + a0 + a1 + a2 + a3 + a4 + a5 + a6 := IntWalk.i64_in _ (by omega)
        have w7 : IntKind.i64.wrap ((0 + a0 + a1 + a2 + a3 + a4 + a5 + a6) + a7) = 0 + a0 + a1 + a2 + a3 + a4 + a5 + a6 + a7 := IntWalk.i64_in _ (by omega)
        have kS : (decide ((sumL [a0, a1, a2, a3, a4, a5, a6, a7]) = (IntKind.i64.wrap ((IntKind.i64.wrap ((IntKind.i64.wrap ((IntKind.i64.wrap ((IntKind.i64.wrap ((IntKind.i64.wrap ((IntKind.i64.wrap ((IntKind.i64.wrap (0 + a0)) + a1)) + a2)) + a3)) + a4)) + a5)) + a6)) + a7)))) = true := by
          rw [w0, w1, w2, w3, w4, w5, w6, w7]
          simp only [sumL, c4, if_true, List.sum_cons, List.sum_nil, decide_eq_true_eq]
          omega
        refine Go.Sx.Way.of (dec := [false, false, false, false, false, false, false, true, true, true, true, true, true, true]) (fs := [.need 40 [], .call 19 40 [] 1, .not 20 (.v 19), .cond 20 false, .prim 21 0 [.v 18], .cmp 22 .gtr (.v 21) (.l 100), .cond 22 false, .need 23 [[.v 18]], .call 23 23 [[.v 18]] 1, .need 22 [[.v 23, .l 0]], .call 24 22 [[.v 23, .l 0]] 10, .need 32 [[.v 18, .l 0, .l 0]], .call 34 32 [[.v 18, .l 0, .l 0]] 11, .eqs 45 [(.v 26, .v 37), (.v 27, .v 38), (.v 28, .v 39), (.v 29, .v 40), (.v 30, .v 41), (.v 31, .v 42), (.v 32, .v 43), (.v 33, .v 44)], .not 46 (.v 45), .cond 46 false, .beq 47 true (.v 25) (.v 36), .cond 47 false, .not 48 (.v 25), .cond 48 false, .not 49 (.v 36), .cond 49 false, .beq 50 true (.l 0) (.l 0), .cond 50 false, .need 4 [[.v 0, .v 1, .v 2, .v 3, .v 4, .v 5, .v 6, .v 7]], .call 51 4 [[.v 0, .v 1, .v 2, .v 3, .v 4, .v 5, .v 6, .v 7]] 1, .cond 51 true, .bin 52 .add .i64 (.l 0) (.v 0), .bin 53 .add .i64 (.v 52) (.v 1), .bin 54 .add .i64 (.v 53) (.v 2), .bin 55 .add .i64 (.v 54) (.v 3), .bin 56 .add .i64 (.v 55) (.v 4), .bin 57 .add .i64 (.v 56) (.v 5), .bin 58 .add .i64 (.v 57) (.v 6), .bin 59 .add .i64 (.v 58) (.v 7), .need 4 [[.v 0, .v 1, .v 2, .v 3, .v 4, .v 5, .v 6, .v 7]], .call 60 4 [[.v 0, .v 1, .v 2, .v 3, .v 4, .v 5, .v 6, .v 7]] 1, .need 4 [[.v 0, .v 1, .v 2, .v 3, .v 4, .v 5, .v 6, .v 7]], .call 61 4 [[.v 0, .v 1, .v 2, .v 3, .v 4, .v 5, .v 6, .v 7]] 1, .beq 62 false (.v 60) (.v 61), .cond 62 true, .need 6 [[.v 0, .v 1, .v 2, .v 3, .v 4, .v 5, .v 6, .v 7], [.v 16, .v 17]], .call 63 6 [[.v 0, .v 1, .v 2, .v 3, .v 4, .v 5, .v 6, .v 7], [.v 16, .v 17]] 1, .need 6 [[.v 0, .v 1, .v 2, .v 3, .v 4, .v 5, .v 6, .v 7], [.v 16, .v 17]], .call 64 6 [[.v 0, .v 1, .v 2, .v 3, .v 4, .v 5, .v 6, .v 7], [.v 16, .v 17]] 1, .beq 65 false (.v 63) (.v 64), .cond 65 true, .need 50 [[.v 0, .v 1, .v 2, .v 3, .v 4, .v 5, .v 6, .v 7], [.v 8, .v 9, .v 10, .v 11, .v 12, .v 13, .v 14, .v 15]], .call 66 50 [[.v 0, .v 1, .v 2, .v 3, .v 4, .v 5, .v 6, .v 7], [.v 8, .v 9, .v 10, .v 11, .v 12, .v 13, .v 14, .v 15]] 8, .need 50 [[.v 0, .v 1, .v 2, .v 3, .v 4, .v 5, .v 6, .v 7], [.v 8, .v 9, .v 10, .v 11, .v 12, .v 13, .v 14, .v 15]], .call 74 50 [[.v 0, .v 1, .v 2, .v 3, .v 4, .v 5, .v 6, .v 7], [.v 8, .v 9, .v 10, .v 11, .v 12, .v 13, .v 14, .v 15]] 8, .eqs 82 [(.v 66, .v 74), (.v 67, .v 75), (.v 68, .v 76), (.v 69, .v 77), (.v 70, .v 78), (.v 71, .v 79), (.v 72, .v 80), (.v 73, .v 81)], .cond 82 true, .need 51 [[.v 0, .v 1, .v 2, .v 3, .v 4, .v 5, .v 6, .v 7], [.v 8, .v 9, .v 10, .v 11, .v 12, .v 13, .v 14, .v 15]], .call 83 51 [[.v 0, .v 1, .v 2, .v 3, .v 4, .v 5, .v 6, .v 7], [.v 8, .v 9, .v 10, .v 11, .v 12, .v 13, .v 14, .v 15]] 1, .need 51 [[.v 0, .v 1, .v 2, .v 3, .v 4, .v 5, .v 6, .v 7], [.v 8, .v 9, .v 10, .v 11, .v 12, .v 13, .v 14, .v 15]], .call 84 51 [[.v 0, .v 1, .v 2, .v 3, .v 4, .v 5, .v 6, .v 7], [.v 8, .v 9, .v 10, .v 11, .v 12, .v 13, .v 14, .v 15]] 1, .beq 85 false (.v 83) (.v 84), .cond 85 true, .need 52 [[.v 0, .v 1, .v 2, .v 3, .v 4, .v 5, .v 6, .v 7], [.v 8, .v 9, .v 10, .v 11, .v 12, .v 13, .v 14, .v 15]], .call 86 52 [[.v 0, .v 1, .v 2, .v 3, .v 4, .v 5, .v 6, .v 7], [.v 8, .v 9, .v 10, .v 11, .v 12, .v 13, .v 14, .v 15]] 1, .need 52 [[.v 0, .v 1, .v 2, .v 3, .v 4, .v 5, .v 6, .v 7], [.v 8, .v 9, .v 10, .v 11, .v 12, .v 13, .v 14, .v 15]], .call 87 52 [[.v 0, .v 1, .v 2, .v 3, .v 4, .v 5, .v 6, .v 7], [.v 8, .v 9, .v 10, .v 11, .v 12, .v 13, .v 14, .v 15]] 1, .cmp 88 .eql (.v 86) (.v 87), .cond 88 true, .need 53 [[.v 0, .v 1, .v 2, .v 3, .v 4, .v 5, .v 6, .v 7]], .call 89 53 [[.v 0, .v 1, .v 2, .v 3, .v 4, .v 5, .v 6, .v 7]] 1, .cmp 90 .eql (.v 89) (.v 59), .cond 90 true, .need 3 [[.v 18], [.v 0, .v 1, .v 2, .v 3, .v 4, .v 5, .v 6, .v 7]], .call 91 3 [[.v 18], [.v 0, .v 1, .v 2, .v 3, .v 4, .v 5, .v 6, .v 7]] 1, .need 3 [[.v 18], [.v 0, .v 1, .v 2, .v 3, .v 4, .v 5, .v 6, .v 7]], .call 92 3 [[.v 18], [.v 0, .v 1, .v 2, .v 3, .v 4, .v 5, .v 6, .v 7]] 1, .cmp 93 .eql (.v 91) (.v 92)]) (refs := [.v 93]) (by kernel_rfl) fun ρ hρ hd => ?_
        simp only [D_nil, D_add, D_sub, D_mul, D_and, D_or, D_xor, D_shl, D_shr, D_andNot, D_quo, D_rem, D_add_i64, D_sub_i64, D_mul_i64, D_add_u32, D_sub_u32, D_mul_u32, D_add_u8, D_sub_u8, D_mul_u8, D_eql, D_neq, D_lss, D_leq, D_gtr, D_geq, D_not, D_conv, D_eqs, D_call, D_cond, D_need, D_idx, D_sel, D_upd, D_shv, D_beq, D_len, D_byte, D_cut, D_cat, D_must, List.map_cons, List.map_nil, Ref.den] at hd
        obtain ⟨f19, f20, f21, f22, f23, f24, f34, f45, f46, f47, f48, f49, f50, f51, f52, f53, f54, f55, f56, f57, f58, f59, f60, f61, f62, f63, f64, f65, f66, f74, f82, f83, f84, f85, f86, f87, f88, f89, f90, f91, f92, f93, -⟩ := hd
        have q0 : ρ 0 = a0 := hρ 0 (by decide)
        have q1 : ρ 1 = a1 := hρ 1 (by decide)
        have q2 : ρ 2 = a2 := hρ 2 (by decide)
        have q3 : ρ 3 = a3 := hρ 3 (by decide)
        have q4 : ρ 4 = a4 := hρ 4 (by decide)
        have q5 : ρ 5 = a5 := hρ 5 (by decide)
        have q6 : ρ 6 = a6 := hρ 6 (by decide)
        have q7 : ρ 7 = a7 := hρ 7 (by decide)
        have q8 : ρ 8 = e0 := hρ 8 (by decide)
        have q9 : ρ 9 = e1 := hρ 9 (by decide)
        have q10 : ρ 10 = e2 := hρ 10 (by decide)
        have q11 : ρ 11 = e3 := hρ 11 (by decide)
        have q12 : ρ 12 = e4 := hρ 12 (by decide)
        have q13 : ρ 13 = e5 := hρ 13 (by decide)
        have q14 : ρ 14 = e6 := hρ 14 (by decide)
        have q15 : ρ 15 = e7 := hρ 15 (by decide)
        have q16 : ρ 16 = d := hρ 16 (by decide)
        have q17 : ρ 17 = n := hρ 17 (by decide)
        have q18 : ρ 18 = z := hρ 18 (by decide)
        have q19 : ρ 19 = (b2i (true)) := by
            have t := f19 0 (by decide)
            exact t
        have q20 : ρ 20 = (b2i (!true)) := b2i_not f20 q19
        have q21 : ρ 21 = ((decZ z).length : Int) := by rw [f21, q18]
        have q22 : ρ 22 = (b2i (decide (100 < ((decZ z).length : Int)))) := b2i_dec f22 (by simp only [q21])
        have q23 : ρ 23 = z := by
            have t := f23 0 (by decide)
            simp only [q18] at t
            exact t
        have q24 : ρ 24 = (codZ l8) := by
            have t := f24 0 (by decide)
            simp only [q23, hG22] at t
            exact t
        have q25 : ρ 25 = (b2i (b8)) := by
            have t := f24 1 (by decide)
            simp only [q23, hG22] at t
            exact t
        have q26 : ρ 26 = s0 := by
            have t := f24 2 (by decide)
            simp only [q23, hG22] at t
            exact t
        have q27 : ρ 27 = s1 := by
            have t := f24 3 (by decide)
            simp only [q23, hG22] at t
            exact t
        have q28 : ρ 28 = s2 := by
            have t := f24 4 (by decide)
            simp only [q23, hG22] at t
            exact t
        have q29 : ρ 29 = s3 := by
            have t := f24 5 (by decide)
            simp only [q23, hG22] at t
            exact t
        have q30 : ρ 30 = s4 := by
            have t := f24 6 (by decide)
            simp only [q23, hG22] at t
            exact t
        have q31 : ρ 31 = s5 := by
            have t := f24 7 (by decide)
            simp only [q23, hG22] at t
            exact t
        have q32 : ρ 32 = s6 := by
            have t := f24 8 (by decide)
            simp only [q23, hG22] at t
            exact t
        have q33 : ρ 33 = s7 := by
            have t := f24 9 (by decide)
            simp only [q23, hG22] at t
            exact t
        have q34 : ρ 34 = z := by
            have t := f34 0 (by decide)
            simp only [q18, hG32] at t
            exact t
        have q35 : ρ 35 = (P8 : Int) := by
            have t := f34 1 (by decide)
            simp only [q18, hG32] at t
            exact t
        have q36 : ρ 36 = (b2i (b8)) := by
            have t := f34 2 (by decide)
            simp only [q18, hG32] at t
            exact t
        have q37 : ρ 37 = s0 := by
            have t := f34 3 (by decide)
            simp only [q18, hG32] at t
            exact t
        have q38 : ρ 38 = s1 := by
            have t := f34 4 (by decide)
            simp only [q18, hG32] at t
            exact t
        have q39 : ρ 39 = s2 := by
            have t := f34 5 (by decide)
            simp only [q18, hG32] at t
            exact t
        have q40 : ρ 40 = s3 := by
            have t := f34 6 (by decide)
            simp only [q18, hG32] at t
            exact t
        have q41 : ρ 41 = s4 := by
            have t := f34 7 (by decide)
            simp only [q18, hG32] at t
            exact t
        have q42 : ρ 42 = s5 := by
            have t := f34 8 (by decide)
            simp only [q18, hG32] at t
            exact t
        have q43 : ρ 43 = s6 := by
            have t := f34 9 (by decide)
            simp only [q18, hG32] at t
            exact t
        have q44 : ρ 44 = s7 := by
            have t := f34 10 (by decide)
            simp only [q18, hG32] at t
            exact t
        have q45 : ρ 45 = (b2i (decide ([s0, s1, s2, s3, s4, s5, s6, s7] = [s0, s1, s2, s3, s4, s5, s6, s7]))) := b2i_eqs (l := [s0, s1, s2, s3, s4, s5, s6, s7]) (m := [s0, s1, s2, s3, s4, s5, s6, s7]) f45 (by simp only [List.map_cons, List.map_nil, Ref.den, q26, q37, q27, q38, q28, q39, q29, q40, q30, q41, q31, q42, q32, q43, q33, q44]) (by simp only [List.map_cons, List.map_nil, Ref.den, q26, q37, q27, q38, q28, q39, q29, q40, q30, q41, q31, q42, q32, q43, q33, q44])
        have q46 : ρ 46 = (b2i (!(decide ([s0, s1, s2, s3, s4, s5, s6, s7] = [s0, s1, s2, s3, s4, s5, s6, s7])))) := b2i_not f46 q45
        have q47 : ρ 47 = (b2i ((b8 == b8) != true)) := b2i_beq f47 q25 q36
        have q48 : ρ 48 = (b2i (!b8)) := b2i_not f48 q25
        have q49 : ρ 49 = (b2i (!b8)) := b2i_not f49 q36
        have q50 : ρ 50 = (b2i ((false == false) != true)) := b2i_beq f50 (show (0 : Int) = b2i false from rfl) (show (0 : Int) = b2i false from rfl)
        have q51 : ρ 51 = (b2i (goodB [a0, a1, a2, a3, a4, a5, a6, a7])) := by
            have t := f51 0 (by decide)
            simp only [q0, q1, q2, q3, q4, q5, q6, q7] at t
            exact t
        have q52 : ρ 52 = (IntKind.i64.wrap (0 + a0)) := by rw [f52, q0]
        have q53 : ρ 53 = (IntKind.i64.wrap ((IntKind.i64.wrap (0 + a0)) + a1)) := by rw [f53, q52, q1]
        have q54 : ρ 54 = (IntKind.i64.wrap ((IntKind.i64.wrap ((IntKind.i64.wrap (0 + a0)) + a1)) + a2)) := by rw [f54, q53, q2]
        have q55 : ρ 55 = (IntKind.i64.wrap ((IntKind.i64.wrap ((IntKind.i64.wrap ((IntKind.i64.wrap (0 + a0)) + a1)) + a2)) + a3)) := by rw [f55, q54, q3]
        have q56 : ρ 56 = (IntKind.i64.wrap ((IntKind.i64.wrap ((IntKind.i64.wrap ((IntKind.i64.wrap ((IntKind.i64.wrap (0 + a0)) + a1)) + a2)) + a3)) + a4)) := by rw [f56, q55, q4]
        have q57 : ρ 57 = (IntKind.i64.wrap ((IntKind.i64.wrap ((IntKind.i64.wrap ((IntKind.i64.wrap ((IntKind.i64.wrap ((IntKind.i64.wrap (0 + a0)) + a1)) + a2)) + a3)) + a4)) + a5)) := by rw [f57, q56, q5]
        have q58 : ρ 58 = (IntKind.i64.wrap ((IntKind.i64.wrap ((IntKind.i64.wrap ((IntKind.i64.wrap ((IntKind.i64.wrap ((IntKind.i64.wrap ((IntKind.i64.wrap (0 + a0)) + a1)) + a2)) + a3)) + a4)) + a5)) + a6)) := by rw [f58, q57, q6]
        have q59 : ρ 59 = (IntKind.i64.wrap ((IntKind.i64.wrap ((IntKind.i64.wrap ((IntKind.i64.wrap ((IntKind.i64.wrap ((IntKind.i64.wrap ((IntKind.i64.wrap ((IntKind.i64.wrap (0 + a0)) + a1)) + a2)) + a3)) + a4)) + a5)) + a6)) + a7)) := by rw [f59, q58, q7]
        have q60 : ρ 60 = (b2i (goodB [a0, a1, a2, a3, a4, a5, a6, a7])) := by
            have t := f60 0 (by decide)
            simp only [q0, q1, q2, q3, q4, q5, q6, q7] at t
            exact t
        have q61 : ρ 61 = (b2i (goodB [a0, a1, a2, a3, a4, a5, a6, a7])) := by
            have t := f61 0 (by decide)
            simp only [q0, q1, q2, q3, q4, q5, q6, q7] at t
            exact t
        have q62 : ρ 62 = (b2i (((goodB [a0, a1, a2, a3, a4, a5, a6, a7]) == (goodB [a0, a1, a2, a3, a4, a5, a6, a7])) != false)) := b2i_beq f62 q60 q61
        have q63 : ρ 63 = (b2i (hasB [a0, a1, a2, a3, a4, a5, a6, a7] d n)) := by
            have t := f63 0 (by decide)
            simp only [q0, q1, q2, q3, q4, q5, q6, q7, q16, q17] at t
            exact t
        have q64 : ρ 64 = (b2i (hasB [a0, a1, a2, a3, a4, a5, a6, a7] d n)) := by
            have t := f64 0 (by decide)
            simp only [q0, q1, q2, q3, q4, q5, q6, q7, q16, q17] at t
            exact t
        have q65 : ρ 65 = (b2i (((hasB [a0, a1, a2, a3, a4, a5, a6, a7] d n) == (hasB [a0, a1, a2, a3, a4, a5, a6, a7] d n)) != false)) := b2i_beq f65 q63 q64
        have q66 : ρ 66 = m0 := by
            have t := f66 0 (by decide)
            simp only [q0, q1, q2, q3, q4, q5, q6, q7, q8, q9, q10, q11, q12, q13, q14, q15, hGm] at t
            exact t
        have q67 : ρ 67 = m1 := by
            have t := f66 1 (by decide)
            simp only [q0, q1, q2, q3, q4, q5, q6, q7, q8, q9, q10, q11, q12, q13, q14, q15, hGm] at t
            exact t
        have q68 : ρ 68 = m2 := by
            have t := f66 2 (by decide)
            simp only [q0, q1, q2, q3, q4, q5, q6, q7, q8, q9, q10, q11, q12, q13, q14, q15, hGm] at t
            exact t
        have q69 : ρ 69 = m3 := by
            have t := f66 3 (by decide)
            simp only [q0, q1, q2, q3, q4, q5, q6, q7, q8, q9, q10, q11, q12, q13, q14, q15, hGm] at t
            exact t
        have q70 : ρ 70 = m4 := by
            have t := f66 4 (by decide)
            simp only [q0, q1, q2, q3, q4, q5, q6, q7, q8, q9, q10, q11, q12, q13, q14, q15, hGm] at t
            exact t
        have q71 : ρ 71 = m5 := by
            have t := f66 5 (by decide)
            simp only [q0, q1, q2, q3, q4, q5, q6, q7, q8, q9, q10, q11, q12, q13, q14, q15, hGm] at t
            exact t
        have q72 : ρ 72 = m6 := by
            have t := f66 6 (by decide)
            simp only [q0, q1, q2, q3, q4, q5, q6, q7, q8, q9, q10, q11, q12, q13, q14, q15, hGm] at t
            exact t
        have q73 : ρ 73 = m7 := by
            have t := f66 7 (by decide)
            simp only [q0, q1, q2, q3, q4, q5, q6, q7, q8, q9, q10, q11, q12, q13, q14, q15, hGm] at t
            exact t
        have q74 : ρ 74 = m0 := by
            have t := f74 0 (by decide)
            simp only [q0, q1, q2, q3, q4, q5, q6, q7, q8, q9, q10, q11, q12, q13, q14, q15, hGm] at t
            exact t
        have q75 : ρ 75 = m1 := by
            have t := f74 1 (by decide)
            simp only [q0, q1, q2, q3, q4, q5, q6, q7, q8, q9, q10, q11, q12, q13, q14, q15, hGm] at t
            exact t
        have q76 : ρ 76 = m2 := by
            have t := f74 2 (by decide)
            simp only [q0, q1, q2, q3, q4, q5, q6, q7, q8, q9, q10, q11, q12, q13, q14, q15, hGm] at t
            exact t
        have q77 : ρ 77 = m3 := by
            have t := f74 3 (by decide)
            simp only [q0, q1, q2, q3, q4, q5, q6, q7, q8, q9, q10, q11, q12, q13, q14, q15, hGm] at t
            exact t
        have q78 : ρ 78 = m4 := by
            have t := f74 4 (by decide)
            simp only [q0, q1, q2, q3, q4, q5, q6, q7, q8, q9, q10, q11, q12, q13, q14, q15, hGm] at t
            exact t
        have q79 : ρ 79 = m5 := by
            have t := f74 5 (by decide)
            simp only [q0, q1, q2, q3, q4, q5, q6, q7, q8, q9, q10, q11, q12, q13, q14, q15, hGm] at t
            exact t
        have q80 : ρ 80 = m6 := by
            have t := f74 6 (by decide)
            simp only [q0, q1, q2, q3, q4, q5, q6, q7, q8, q9, q10, q11, q12, q13, q14, q15, hGm] at t
            exact t
        have q81 : ρ 81 = m7 := by
            have t := f74 7 (by decide)
            simp only [q0, q1, q2, q3, q4, q5, q6, q7, q8, q9, q10, q11, q12, q13, q14, q15, hGm] at t
            exact t
        have q82 : ρ 82 = (b2i (decide ([m0, m1, m2, m3, m4, m5, m6, m7] = [m0, m1, m2, m3, m4, m5, m6, m7]))) := b2i_eqs (l := [m0, m1, m2, m3, m4, m5, m6, m7]) (m := [m0, m1, m2, m3, m4, m5, m6, m7]) f82 (by simp only [List.map_cons, List.map_nil, Ref.den, q66, q74, q67, q75, q68, q76, q69, q77, q70, q78, q71, q79, q72, q80, q73, q81]) (by simp only [List.map_cons, List.map_nil, Ref.den, q66, q74, q67, q75, q68, q76, q69, q77, q70, q78, q71, q79, q72, q80, q73, q81])
        have q83 : ρ 83 = (b2i (leB [a0, a1, a2, a3, a4, a5, a6, a7] [e0, e1, e2, e3, e4, e5, e6, e7])) := by
            have t := f83 0 (by decide)
            simp only [q0, q1, q2, q3, q4, q5, q6, q7, q8, q9, q10, q11, q12, q13, q14, q15] at t
            exact t
        have q84 : ρ 84 = (b2i (leB [a0, a1, a2, a3, a4, a5, a6, a7] [e0, e1, e2, e3, e4, e5, e6, e7])) := by
            have t := f84 0 (by decide)
            simp only [q0, q1, q2, q3, q4, q5, q6, q7, q8, q9, q10, q11, q12, q13, q14, q15] at t
            exact t
        have q85 : ρ 85 = (b2i (((leB [a0, a1, a2, a3, a4, a5, a6, a7] [e0, e1, e2, e3, e4, e5, e6, e7]) == (leB [a0, a1, a2, a3, a4, a5, a6, a7] [e0, e1, e2, e3, e4, e5, e6, e7])) != false)) := b2i_beq f85 q83 q84
        have q86 : ρ 86 = (cmpL [a0, a1, a2, a3, a4, a5, a6, a7] [e0, e1, e2, e3, e4, e5, e6, e7]) := by
            have t := f86 0 (by decide)
            simp only [q0, q1, q2, q3, q4, q5, q6, q7, q8, q9, q10, q11, q12, q13, q14, q15] at t
            exact t
        have q87 : ρ 87 = (cmpL [a0, a1, a2, a3, a4, a5, a6, a7] [e0, e1, e2, e3, e4, e5, e6, e7]) := by
            have t := f87 0 (by decide)
            simp only [q0, q1, q2, q3, q4, q5, q6, q7, q8, q9, q10, q11, q12, q13, q14, q15] at t
            exact t
        have q88 : ρ 88 = (b2i (decide ((cmpL [a0, a1, a2, a3, a4, a5, a6, a7] [e0, e1, e2, e3, e4, e5, e6, e7]) = (cmpL [a0, a1, a2, a3, a4, a5, a6, a7] [e0, e1, e2, e3, e4, e5, e6, e7])))) := b2i_dec f88 (by simp only [q86, q87])
        have q89 : ρ 89 = (sumL [a0, a1, a2, a3, a4, a5, a6, a7]) := by
            have t := f89 0 (by decide)
            simp only [q0, q1, q2, q3, q4, q5, q6, q7] at t
            exact t
        have q90 : ρ 90 = (b2i (decide ((sumL [a0, a1, a2, a3, a4, a5, a6, a7]) = (IntKind.i64.wrap ((IntKind.i64.wrap ((IntKind.i64.wrap ((IntKind.i64.wrap ((IntKind.i64.wrap ((IntKind.i64.wrap ((IntKind.i64.wrap ((IntKind.i64.wrap (0 + a0)) + a1)) + a2)) + a3)) + a4)) + a5)) + a6)) + a7))))) := b2i_dec f90 (by simp only [q89, q59])
        have q91 : ρ 91 = (codZ (putL (decZ z) [a0, a1, a2, a3, a4, a5, a6, a7])) := by
            have t := f91 0 (by decide)
            simp only [q18, q0, q1, q2, q3, q4, q5, q6, q7] at t
            exact t
        have q92 : ρ 92 = (codZ (putL (decZ z) [a0, a1, a2, a3, a4, a5, a6, a7])) := by
            have t := f92 0 (by decide)
            simp only [q18, q0, q1, q2, q3, q4, q5, q6, q7] at t
            exact t
        have q93 : ρ 93 = (b2i (decide ((codZ (putL (decZ z) [a0, a1, a2, a3, a4, a5, a6, a7])) = (codZ (putL (decZ z) [a0, a1, a2, a3, a4, a5, a6, a7]))))) := b2i_dec f93 (by simp only [q91, q92])
        refine ⟨?_, ?_⟩
        · simp only [G_nil, G_bin, G_cmp, G_not, G_conv, G_eqs, G_call, G_cond, G_need, G_idx, G_sel, G_upd, G_shv, G_beq, G_prim, G_byte, G_cut, G_cat, List.map_cons, List.map_nil, Ref.den]
          refine ⟨?_, ?_, ?_, ?_, ?_, ?_, ?_, ?_, ?_, ?_, ?_, ?_, ?_, ?_, ?_, ?_, ?_, ?_, ?_, ?_, ?_, ?_, ?_, ?_, ?_, ?_, ?_, ?_, ?_, ?_, ?_, ?_, trivial⟩
          · exact trivial
          · exact b2i_cond q20 (by simp only [Bool.not_true, decide_true, decide_false, Bool.and_true, Bool.true_and, Bool.and_false, Bool.false_and, Bool.or_true, Bool.true_or, Bool.or_false, Bool.false_or, Bool.not_true, Bool.not_false, if_true, if_false, Bool.false_eq_true])
          · exact b2i_cond q22 (by simp only [c1, decide_true, decide_false, Bool.and_true, Bool.true_and, Bool.and_false, Bool.false_and, Bool.or_true, Bool.true_or, Bool.or_false, Bool.false_or, Bool.not_true, Bool.not_false, if_true, if_false, Bool.false_eq_true])
          · exact by show (decZ (ρ 18)).length ≤ 1000000; rw [q18]; omega
          · exact by show (decZ (ρ 23)).length ≤ 1000000; rw [q23]; omega
          · exact by show ((0 : Int) ≤ 0 ∧ (0 : Int) ≤ ((decZ (ρ 18)).length : Int)) ∧ (decZ (ρ 18)).length ≤ 1000000; rw [q18]; exact ⟨⟨by omega, by omega⟩, by omega⟩
          · exact b2i_cond q46 (by simp)
          · exact b2i_cond q47 (by simp only [c3] <;> rfl)
          · exact b2i_cond q48 (by simp only [c3, decide_true, decide_false, Bool.and_true, Bool.true_and, Bool.and_false, Bool.false_and, Bool.or_true, Bool.true_or, Bool.or_false, Bool.false_or, Bool.not_true, Bool.not_false, if_true, if_false, Bool.false_eq_true])
          · exact b2i_cond q49 (by simp only [c3, decide_true, decide_false, Bool.and_true, Bool.true_and, Bool.and_false, Bool.false_and, Bool.or_true, Bool.true_or, Bool.or_false, Bool.false_or, Bool.not_true, Bool.not_false, if_true, if_false, Bool.false_eq_true])
          · exact b2i_cond q50 (by simp)
          · exact trivial
          · exact b2i_cond q51 (by simp only [c4, decide_true, decide_false, Bool.and_true, Bool.true_and, Bool.and_false, Bool.false_and, Bool.or_true, Bool.true_or, Bool.or_false, Bool.false_or, Bool.not_true, Bool.not_false, if_true, if_false, Bool.false_eq_true])
          · exact trivial
          · exact trivial
          · exact b2i_cond q62 (by simp only [c4] <;> rfl)
          · exact trivial
          · exact trivial
          · exact b2i_cond q65 (by simp)
          · exact trivial
          · exact trivial
          · exact b2i_cond q82 (by simp)
          · exact trivial
          · exact trivial
          · exact b2i_cond q85 (by simp)
          · exact trivial
          · exact trivial
          · exact b2i_cond q88 (by simp)
          · exact trivial
          · exact b2i_cond q90 (by simp only [kS, decide_true, decide_false, Bool.and_true, Bool.true_and, Bool.and_false, Bool.false_and, Bool.or_true, Bool.true_or, Bool.or_false, Bool.false_or, Bool.not_true, Bool.not_false, if_true, if_false, Bool.false_eq_true])
          · exact by show (decZ (ρ 18)).length ≤ 1000000; rw [q18]; omega
          · exact by show (decZ (ρ 18)).length ≤ 1000000; rw [q18]; omega
        · show [ρ 93] = [1]
          rw [q93]
          exact congrArg (fun b => [b2i b]) (show (decide ((codZ (putL (decZ z) [a0, a1, a2, a3, a4, a5, a6, a7])) = (codZ (putL (decZ z) [a0, a1, a2, a3, a4, a5, a6, a7])))) = true by simp)
  · refine Go.Sx.Way.of (dec := [false, true]) (fs := [.need 40 [], .call 19 40 [] 1, .not 20 (.v 19), .cond 20 false, .prim 21 0 [.v 18], .cmp 22 .gtr (.v 21) (.l 100), .cond 22 true]) (refs := [.l 1]) (by kernel_rfl) fun ρ hρ hd => ?_
    simp only [D_nil, D_add, D_sub, D_mul, D_and, D_or, D_xor, D_shl, D_shr, D_andNot, D_quo, D_rem, D_add_i64, D_sub_i64, D_mul_i64, D_add_u32, D_sub_u32, D_mul_u32, D_add_u8, D_sub_u8, D_mul_u8, D_eql, D_neq, D_lss, D_leq, D_gtr, D_geq, D_not, D_conv, D_eqs, D_call, D_cond, D_need, D_idx, D_sel, D_upd, D_shv, D_beq, D_len, D_byte, D_cut, D_cat, D_must, List.map_cons, List.map_nil, Ref.den] at hd
    obtain ⟨f19, f20, f21, f22, -⟩ := hd
    have q18 : ρ 18 = z := hρ 18 (by decide)
    have q19 : ρ 19 = (b2i (true)) := by
        have t := f19 0 (by decide)
        exact t
    have q20 : ρ 20 = (b2i (!true)) := b2i_not f20 q19
    have q21 : ρ 21 = ((decZ z).length : Int) := by rw [f21, q18]
    have q22 : ρ 22 = (b2i (decide (100 < ((decZ z).length : Int)))) := b2i_dec f22 (by simp only [q21])
    refine ⟨?_, ?_⟩
    · simp only [G_nil, G_bin, G_cmp, G_not, G_conv, G_eqs, G_call, G_cond, G_need, G_idx, G_sel, G_upd, G_shv, G_beq, G_prim, G_byte, G_cut, G_cat, List.map_cons, List.map_nil, Ref.den]
      refine ⟨?_, ?_, ?_, trivial⟩
      · exact trivial
      · exact b2i_cond q20 (by simp only [Bool.not_true, decide_true, decide_false, Bool.and_true, Bool.true_and, Bool.and_false, Bool.false_and, Bool.or_true, Bool.true_or, Bool.or_false, Bool.false_or, Bool.not_true, Bool.not_false, if_true, if_false, Bool.false_eq_true])
      · exact b2i_cond q22 (by simp only [c1, decide_true, decide_false, Bool.and_true, Bool.true_and, Bool.and_false, Bool.false_and, Bool.or_true, Bool.true_or, Bool.or_false, Bool.false_or, Bool.not_true, Bool.not_false, if_true, if_false, Bool.false_eq_true])
    · rfl
namespace vecSays
theorem walk (W : World) (l0 : List Int) (n0 : l0.length = 8) (i0 : ∀ x ∈ l0, I64 x) (l1 : List Int) (n1 : l1.length = 8) (i1 : ∀ x ∈ l1, I64 x) (a2 b2 : Int) (w2 : I64 a2) (x2 : I64 b2) (v3 : Value) (l3 : List UInt8) (s3 : Sl W 1 v3 l3.length (bvs l3)) :
    Calls Try.prog 10 #[.agg (l0.map (Value.int .i64)).toArray, .agg (l1.map (Value.int .i64)).toArray, .agg #[.int .i64 a2, .int .i64 b2], v3] W fun e w' => e = .returned (.bool true) ∧ Below W.heap.size W w' := by
  have hm : l3.length ≤ maxLen := by
    obtain ⟨_, a, cap, _, h1, h2, _⟩ := s3
    omega
  exact okVecSays.calls (fn := Try.f10) (body := (Try.f10).body.getD .skip) (by kernel_rfl) (by kernel_rfl) (by kernel_rfl) rfl (xs := [l0, l1, [a2, b2], [codZ l3]]) rfl trivial (vs := [_, _, _, v3])
    ⟨⟨n0, rfl, fun z hz => ⟨(i0 z hz).lo, (i0 z hz).hi⟩⟩, ⟨n1, rfl, fun z hz => ⟨(i1 z hz).lo, (i1 z hz).hi⟩⟩, ⟨rfl, rfl, ⟨⟨w2.lo, w2.hi⟩, ⟨x2.lo, x2.hi⟩, trivial⟩⟩, ⟨codZ l3, rfl, by rw [decZ_codZ]; exact s3, Str.cod hm⟩, trivial⟩
end vecSays
end Go.Proofs.Ytlmegcbiijkmaaa
