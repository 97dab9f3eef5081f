/- Edits: whether one may be, ends another one, stands ahead of it. No condition. -/
import Derived.Test.YtbhflfdlkiihgaaOk1
namespace Go.Proofs.Ytbhflfdlkiihgaa
open Go.RowKit Go.Bx Go.Sx
set_option linter.unusedSimpArgs false
set_option linter.unusedVariables false
def cLong : Ctr := ⟨13, 13, [ED], [.bool]⟩
def cOver : Ctr := ⟨12, 11, [ED, ED], [.bool]⟩
def cGood : Ctr := ⟨11, 10, [ED], [.bool]⟩
theorem okLong : CtrOK Try.prog ofns cLong := by
  refine CtrOK.of (T := []) (fun _ h => by cases h) mixed (lf := 300) (d := 5) rfl fun w vs xs ha hp => ?_
  obtain ⟨v, x, rfl, rfl, ⟨hl, rfl, hg⟩⟩ := open1 ha
  obtain ⟨a0, a1, a2, a3, a4, a5, a6, a7, a8, a9, a10, a11, a12, a13, a14, rfl⟩ := len15 hl
  cases c0 : decide (60 < ((decZ a11).length : Int))
  · cases c1 : decide (60 < ((decZ a12).length : Int))
    · refine Go.Sx.Way.of (dec := [false, false]) (fs := [.prim 15 0 [.v 11], .cmp 16 .gtr (.v 15) (.l 60), .cond 16 false, .prim 17 0 [.v 12], .cmp 18 .gtr (.v 17) (.l 60), .cond 18 false, .prim 19 0 [.v 13], .cmp 20 .gtr (.v 19) (.l 250)]) (refs := [.v 20]) (by kernel_rfl) fun ρ hρ hd => ?_
      simp only [D_nil, D_add, D_sub, D_mul, D_and, D_or, D_xor, D_shl, D_shr, D_andNot, D_quo, D_rem, D_add_i64, D_sub_i64, D_mul_i64, D_add_u32, D_sub_u32, D_mul_u32, D_add_u8, D_sub_u8, D_mul_u8, D_eql, D_neq, D_lss, D_leq, D_gtr, D_geq, D_not, D_conv, D_eqs, D_call, D_cond, D_need, D_idx, D_sel, D_upd, D_shv, D_beq, D_len, D_byte, D_cut, D_cat, D_must, List.map_cons, List.map_nil, Ref.den] at hd
      obtain ⟨f15, f16, f17, f18, f19, f20, -⟩ := hd
      have q11 : ρ 11 = a11 := hρ 11 (by decide)
      have q12 : ρ 12 = a12 := hρ 12 (by decide)
      have q13 : ρ 13 = a13 := hρ 13 (by decide)
      have q15 : ρ 15 = ((decZ a11).length : Int) := by rw [f15, q11]
      have q16 : ρ 16 = (b2i (decide (60 < ((decZ a11).length : Int)))) := b2i_dec f16 (by simp only [q15])
      have q17 : ρ 17 = ((decZ a12).length : Int) := by rw [f17, q12]
      have q18 : ρ 18 = (b2i (decide (60 < ((decZ a12).length : Int)))) := b2i_dec f18 (by simp only [q17])
      have q19 : ρ 19 = ((decZ a13).length : Int) := by rw [f19, q13]
      have q20 : ρ 20 = (b2i (decide (250 < ((decZ a13).length : Int)))) := b2i_dec f20 (by simp only [q19])
      refine ⟨?_, ?_⟩
      · simp only [G_nil, G_bin, G_cmp, G_not, G_conv, G_eqs, G_call, G_cond, G_need, G_idx, G_sel, G_upd, G_shv, G_beq, G_prim, G_byte, G_cut, G_cat, List.map_cons, List.map_nil, Ref.den]
        exact ⟨b2i_cond q16 (by simp only [c0, decide_true, decide_false, Bool.and_true, Bool.true_and, Bool.and_false, Bool.false_and, Bool.or_true, Bool.true_or, Bool.or_false, Bool.false_or, Bool.not_true, Bool.not_false, if_true, if_false, Bool.false_eq_true]), b2i_cond q18 (by simp only [c1, decide_true, decide_false, Bool.and_true, Bool.true_and, Bool.and_false, Bool.false_and, Bool.or_true, Bool.true_or, Bool.or_false, Bool.false_or, Bool.not_true, Bool.not_false, if_true, if_false, Bool.false_eq_true]), trivial⟩
      · show [ρ 20] = [b2i (longE [a0, a1, a2, a3, a4, a5, a6, a7, a8, a9, a10, a11, a12, a13, a14])]
        rw [q20]
        exact congrArg (fun b => [b2i b]) (by simp only [longE, c0, c1, decide_true, decide_false, Bool.and_true, Bool.true_and, Bool.and_false, Bool.false_and, Bool.or_true, Bool.true_or, Bool.or_false, Bool.false_or, Bool.not_true, Bool.not_false, if_true, if_false, Bool.false_eq_true])
    · refine Go.Sx.Way.of (dec := [false, true]) (fs := [.prim 15 0 [.v 11], .cmp 16 .gtr (.v 15) (.l 60), .cond 16 false, .prim 17 0 [.v 12], .cmp 18 .gtr (.v 17) (.l 60), .cond 18 true]) (refs := [.l 1]) (by kernel_rfl) fun ρ hρ hd => ?_
      simp only [D_nil, D_add, D_sub, D_mul, D_and, D_or, D_xor, D_shl, D_shr, D_andNot, D_quo, D_rem, D_add_i64, D_sub_i64, D_mul_i64, D_add_u32, D_sub_u32, D_mul_u32, D_add_u8, D_sub_u8, D_mul_u8, D_eql, D_neq, D_lss, D_leq, D_gtr, D_geq, D_not, D_conv, D_eqs, D_call, D_cond, D_need, D_idx, D_sel, D_upd, D_shv, D_beq, D_len, D_byte, D_cut, D_cat, D_must, List.map_cons, List.map_nil, Ref.den] at hd
      obtain ⟨f15, f16, f17, f18, -⟩ := hd
      have q11 : ρ 11 = a11 := hρ 11 (by decide)
      have q12 : ρ 12 = a12 := hρ 12 (by decide)
      have q15 : ρ 15 = ((decZ a11).length : Int) := by rw [f15, q11]
      have q16 : ρ 16 = (b2i (decide (60 < ((decZ a11).length : Int)))) := b2i_dec f16 (by simp only [q15])
      have q17 : ρ 17 = ((decZ a12).length : Int) := by rw [f17, q12]
      have q18 : ρ 18 = (b2i (decide (60 < ((decZ a12).length : Int)))) := b2i_dec f18 (by simp only [q17])
      refine ⟨?_, ?_⟩
      · simp only [G_nil, G_bin, G_cmp, G_not, G_conv, G_eqs, G_call, G_cond, G_need, G_idx, G_sel, G_upd, G_shv, G_beq, G_prim, G_byte, G_cut, G_cat, List.map_cons, List.map_nil, Ref.den]
        exact ⟨b2i_cond q16 (by simp only [c0, decide_true, decide_false, Bool.and_true, Bool.true_and, Bool.and_false, Bool.false_and, Bool.or_true, Bool.true_or, Bool.or_false, Bool.false_or, Bool.not_true, Bool.not_false, if_true, if_false, Bool.false_eq_true]), b2i_cond q18 (by simp only [c1, decide_true, decide_false, Bool.and_true, Bool.true_and, Bool.and_false, Bool.false_and, Bool.or_true, Bool.true_or, Bool.or_false, Bool.false_or, Bool.not_true, Bool.not_false, if_true, if_false, Bool.false_eq_true]), trivial⟩
      · show [1] = [b2i (longE [a0, a1, a2, a3, a4, a5, a6, a7, a8, a9, a10, a11, a12, a13, a14])]
        rw [show longE [a0, a1, a2, a3, a4, a5, a6, a7, a8, a9, a10, a11, a12, a13, a14] = true by simp only [longE, c0, c1, decide_true, decide_false, Bool.and_true, Bool.true_and, Bool.and_false, Bool.false_and, Bool.or_true, Bool.true_or, Bool.or_false, Bool.false_or, Bool.not_true, Bool.not_false, if_true, if_false, Bool.false_eq_true]]; rfl
  · refine Go.Sx.Way.of (dec := [true]) (fs := [.prim 15 0 [.v 11], .cmp 16 .gtr (.v 15) (.l 60), .cond 16 true]) (refs := [.l 1]) (by kernel_rfl) fun ρ hρ hd => ?_
    simp only [D_nil, D_add, D_sub, D_mul, D_and, D_or, D_xor, D_shl, D_shr, D_andNot, D_quo, D_rem, D_add_i64, D_sub_i64, D_mul_i64, D_add_u32, D_sub_u32, D_mul_u32, D_add_u8, D_sub_u8, D_mul_u8, D_eql, D_neq, D_lss, D_leq, D_gtr, D_geq, D_not, D_conv, D_eqs, D_call, D_cond, D_need, D_idx, D_sel, D_upd, D_shv, D_beq, D_len, D_byte, D_cut, D_cat, D_must, List.map_cons, List.map_nil, Ref.den] at hd
    obtain ⟨f15, f16, -⟩ := hd
    have q11 : ρ 11 = a11 := hρ 11 (by decide)
    have q15 : ρ 15 = ((decZ a11).length : Int) := by rw [f15, q11]
    have q16 : ρ 16 = (b2i (decide (60 < ((decZ a11).length : Int)))) := b2i_dec f16 (by simp only [q15])
    refine ⟨?_, ?_⟩
    · simp only [G_nil, G_bin, G_cmp, G_not, G_conv, G_eqs, G_call, G_cond, G_need, G_idx, G_sel, G_upd, G_shv, G_beq, G_prim, G_byte, G_cut, G_cat, List.map_cons, List.map_nil, Ref.den]
      exact ⟨b2i_cond q16 (by simp only [c0, decide_true, decide_false, Bool.and_true, Bool.true_and, Bool.and_false, Bool.false_and, Bool.or_true, Bool.true_or, Bool.or_false, Bool.false_or, Bool.not_true, Bool.not_false, if_true, if_false, Bool.false_eq_true]), trivial⟩
    · show [1] = [b2i (longE [a0, a1, a2, a3, a4, a5, a6, a7, a8, a9, a10, a11, a12, a13, a14])]
      rw [show longE [a0, a1, a2, a3, a4, a5, a6, a7, a8, a9, a10, a11, a12, a13, a14] = true by simp only [longE, c0, decide_true, decide_false, Bool.and_true, Bool.true_and, Bool.and_false, Bool.false_and, Bool.or_true, Bool.true_or, Bool.or_false, Bool.false_or, Bool.not_true, Bool.not_false, if_true, if_false, Bool.false_eq_true]]; rfl
theorem okOver : CtrOK Try.prog ofns cOver := by
  refine CtrOK.of okOT1 mixed (lf := 300) (d := 5) rfl fun w vs xs ha hp => ?_
  obtain ⟨v, u, x, y, rfl, rfl, ⟨hl, rfl, hg⟩, ⟨hl2, rfl, hg2⟩⟩ := open2 ha
  obtain ⟨a0, a1, a2, a3, a4, a5, a6, a7, a8, a9, a10, a11, a12, a13, a14, rfl⟩ := len15 hl
  obtain ⟨b0, b1, b2, b3, b4, b5, b6, b7, b8, b9, b10, b11, b12, b13, b14, rfl⟩ := len15 hl2
  cases c0 : decide (b10 ≠ 1)
  · cases c1 : hasB [a2, a3, a4, a5, a6, a7, a8, a9] b0 b1
    · refine Go.Sx.Way.of (dec := [false, true]) (fs := [.cmp 30 .neq (.v 25) (.l 1), .cond 30 false, .need 6 [[.v 2, .v 3, .v 4, .v 5, .v 6, .v 7, .v 8, .v 9], [.v 15, .v 16]], .call 31 6 [[.v 2, .v 3, .v 4, .v 5, .v 6, .v 7, .v 8, .v 9], [.v 15, .v 16]] 1, .not 32 (.v 31), .cond 32 true]) (refs := [.l 0]) (by kernel_rfl) fun ρ hρ hd => ?_
      simp only [D_nil, D_add, D_sub, D_mul, D_and, D_or, D_xor, D_shl, D_shr, D_andNot, D_quo, D_rem, D_add_i64, D_sub_i64, D_mul_i64, D_add_u32, D_sub_u32, D_mul_u32, D_add_u8, D_sub_u8, D_mul_u8, D_eql, D_neq, D_lss, D_leq, D_gtr, D_geq, D_not, D_conv, D_eqs, D_call, D_cond, D_need, D_idx, D_sel, D_upd, D_shv, D_beq, D_len, D_byte, D_cut, D_cat, D_must, List.map_cons, List.map_nil, Ref.den] at hd
      obtain ⟨f30, f31, f32, -⟩ := hd
      have q2 : ρ 2 = a2 := hρ 2 (by decide)
      have q3 : ρ 3 = a3 := hρ 3 (by decide)
      have q4 : ρ 4 = a4 := hρ 4 (by decide)
      have q5 : ρ 5 = a5 := hρ 5 (by decide)
      have q6 : ρ 6 = a6 := hρ 6 (by decide)
      have q7 : ρ 7 = a7 := hρ 7 (by decide)
      have q8 : ρ 8 = a8 := hρ 8 (by decide)
      have q9 : ρ 9 = a9 := hρ 9 (by decide)
      have q15 : ρ 15 = b0 := hρ 15 (by decide)
      have q16 : ρ 16 = b1 := hρ 16 (by decide)
      have q25 : ρ 25 = b10 := hρ 25 (by decide)
      have q30 : ρ 30 = (b2i (decide (b10 ≠ 1))) := b2i_dec f30 (by simp only [q25])
      have q31 : ρ 31 = (b2i (hasB [a2, a3, a4, a5, a6, a7, a8, a9] b0 b1)) := by
          have t := f31 0 (by decide)
          simp only [q2, q3, q4, q5, q6, q7, q8, q9, q15, q16] at t
          exact t
      have q32 : ρ 32 = (b2i (!(hasB [a2, a3, a4, a5, a6, a7, a8, a9] b0 b1))) := b2i_not f32 q31
      refine ⟨?_, ?_⟩
      · simp only [G_nil, G_bin, G_cmp, G_not, G_conv, G_eqs, G_call, G_cond, G_need, G_idx, G_sel, G_upd, G_shv, G_beq, G_prim, G_byte, G_cut, G_cat, List.map_cons, List.map_nil, Ref.den]
        exact ⟨b2i_cond q30 (by simp only [c0, decide_true, decide_false, Bool.and_true, Bool.true_and, Bool.and_false, Bool.false_and, Bool.or_true, Bool.true_or, Bool.or_false, Bool.false_or, Bool.not_true, Bool.not_false, if_true, if_false, Bool.false_eq_true]), trivial, b2i_cond q32 (by simp only [c1, decide_true, decide_false, Bool.and_true, Bool.true_and, Bool.and_false, Bool.false_and, Bool.or_true, Bool.true_or, Bool.or_false, Bool.false_or, Bool.not_true, Bool.not_false, if_true, if_false, Bool.false_eq_true]), trivial⟩
      · show [0] = [b2i (overE [a0, a1, a2, a3, a4, a5, a6, a7, a8, a9, a10, a11, a12, a13, a14] [b0, b1, b2, b3, b4, b5, b6, b7, b8, b9, b10, b11, b12, b13, b14])]
        rw [show overE [a0, a1, a2, a3, a4, a5, a6, a7, a8, a9, a10, a11, a12, a13, a14] [b0, b1, b2, b3, b4, b5, b6, b7, b8, b9, b10, b11, b12, b13, b14] = false by simp only [overE, c0, c1, decide_true, decide_false, Bool.and_true, Bool.true_and, Bool.and_false, Bool.false_and, Bool.or_true, Bool.true_or, Bool.or_false, Bool.false_or, Bool.not_true, Bool.not_false, if_true, if_false, Bool.false_eq_true]]; rfl
    · cases c2 : decide (a11 ≠ b11)
      · cases c3 : decide (a10 = 2)
        · cases c4 : decide (a10 = 1)
          · refine Go.Sx.Way.of (dec := [false, false, false, false, false]) (fs := [.cmp 30 .neq (.v 25) (.l 1), .cond 30 false, .need 6 [[.v 2, .v 3, .v 4, .v 5, .v 6, .v 7, .v 8, .v 9], [.v 15, .v 16]], .call 31 6 [[.v 2, .v 3, .v 4, .v 5, .v 6, .v 7, .v 8, .v 9], [.v 15, .v 16]] 1, .not 32 (.v 31), .cond 32 false, .cmp 33 .neq (.v 11) (.v 26), .cond 33 false, .cmp 34 .eql (.v 10) (.l 2), .cond 34 false, .cmp 35 .eql (.v 10) (.l 1), .cond 35 false]) (refs := [.l 0]) (by kernel_rfl) fun ρ hρ hd => ?_
            simp only [D_nil, D_add, D_sub, D_mul, D_and, D_or, D_xor, D_shl, D_shr, D_andNot, D_quo, D_rem, D_add_i64, D_sub_i64, D_mul_i64, D_add_u32, D_sub_u32, D_mul_u32, D_add_u8, D_sub_u8, D_mul_u8, D_eql, D_neq, D_lss, D_leq, D_gtr, D_geq, D_not, D_conv, D_eqs, D_call, D_cond, D_need, D_idx, D_sel, D_upd, D_shv, D_beq, D_len, D_byte, D_cut, D_cat, D_must, List.map_cons, List.map_nil, Ref.den] at hd
            obtain ⟨f30, f31, f32, f33, f34, f35, -⟩ := hd
            have q2 : ρ 2 = a2 := hρ 2 (by decide)
            have q3 : ρ 3 = a3 := hρ 3 (by decide)
            have q4 : ρ 4 = a4 := hρ 4 (by decide)
            have q5 : ρ 5 = a5 := hρ 5 (by decide)
            have q6 : ρ 6 = a6 := hρ 6 (by decide)
            have q7 : ρ 7 = a7 := hρ 7 (by decide)
            have q8 : ρ 8 = a8 := hρ 8 (by decide)
            have q9 : ρ 9 = a9 := hρ 9 (by decide)
            have q10 : ρ 10 = a10 := hρ 10 (by decide)
            have q11 : ρ 11 = a11 := hρ 11 (by decide)
            have q15 : ρ 15 = b0 := hρ 15 (by decide)
            have q16 : ρ 16 = b1 := hρ 16 (by decide)
            have q25 : ρ 25 = b10 := hρ 25 (by decide)
            have q26 : ρ 26 = b11 := hρ 26 (by decide)
            have q30 : ρ 30 = (b2i (decide (b10 ≠ 1))) := b2i_dec f30 (by simp only [q25])
            have q31 : ρ 31 = (b2i (hasB [a2, a3, a4, a5, a6, a7, a8, a9] b0 b1)) := by
                have t := f31 0 (by decide)
                simp only [q2, q3, q4, q5, q6, q7, q8, q9, q15, q16] at t
                exact t
            have q32 : ρ 32 = (b2i (!(hasB [a2, a3, a4, a5, a6, a7, a8, a9] b0 b1))) := b2i_not f32 q31
            have q33 : ρ 33 = (b2i (decide (a11 ≠ b11))) := b2i_dec f33 (by simp only [q11, q26])
            have q34 : ρ 34 = (b2i (decide (a10 = 2))) := b2i_dec f34 (by simp only [q10])
            have q35 : ρ 35 = (b2i (decide (a10 = 1))) := b2i_dec f35 (by simp only [q10])
            refine ⟨?_, ?_⟩
            · simp only [G_nil, G_bin, G_cmp, G_not, G_conv, G_eqs, G_call, G_cond, G_need, G_idx, G_sel, G_upd, G_shv, G_beq, G_prim, G_byte, G_cut, G_cat, List.map_cons, List.map_nil, Ref.den]
              exact ⟨b2i_cond q30 (by simp only [c0, decide_true, decide_false, Bool.and_true, Bool.true_and, Bool.and_false, Bool.false_and, Bool.or_true, Bool.true_or, Bool.or_false, Bool.false_or, Bool.not_true, Bool.not_false, if_true, if_false, Bool.false_eq_true]), trivial, b2i_cond q32 (by simp only [c1, decide_true, decide_false, Bool.and_true, Bool.true_and, Bool.and_false, Bool.false_and, Bool.or_true, Bool.true_or, Bool.or_false, Bool.false_or, Bool.not_true, Bool.not_false, if_true, if_false, Bool.false_eq_true]), b2i_cond q33 (by simp only [c2, decide_true, decide_false, Bool.and_true, Bool.true_and, Bool.and_false, Bool.false_and, Bool.or_true, Bool.true_or, Bool.or_false, Bool.false_or, Bool.not_true, Bool.not_false, if_true, if_false, Bool.false_eq_true]), b2i_cond q34 (by simp only [c3, decide_true, decide_false, Bool.and_true, Bool.true_and, Bool.and_false, Bool.false_and, Bool.or_true, Bool.true_or, Bool.or_false, Bool.false_or, Bool.not_true, Bool.not_false, if_true, if_false, Bool.false_eq_true]), b2i_cond q35 (by simp only [c4, decide_true, decide_false, Bool.and_true, Bool.true_and, Bool.and_false, Bool.false_and, Bool.or_true, Bool.true_or, Bool.or_false, Bool.false_or, Bool.not_true, Bool.not_false, if_true, if_false, Bool.false_eq_true]), trivial⟩
            · show [0] = [b2i (overE [a0, a1, a2, a3, a4, a5, a6, a7, a8, a9, a10, a11, a12, a13, a14] [b0, b1, b2, b3, b4, b5, b6, b7, b8, b9, b10, b11, b12, b13, b14])]
              rw [show overE [a0, a1, a2, a3, a4, a5, a6, a7, a8, a9, a10, a11, a12, a13, a14] [b0, b1, b2, b3, b4, b5, b6, b7, b8, b9, b10, b11, b12, b13, b14] = false by simp only [overE, c0, c1, c2, c3, c4, decide_true, decide_false, Bool.and_true, Bool.true_and, Bool.and_false, Bool.false_and, Bool.or_true, Bool.true_or, Bool.or_false, Bool.false_or, Bool.not_true, Bool.not_false, if_true, if_false, Bool.false_eq_true]]; rfl
          · refine Go.Sx.Way.of (dec := [false, false, false, false, true]) (fs := [.cmp 30 .neq (.v 25) (.l 1), .cond 30 false, .need 6 [[.v 2, .v 3, .v 4, .v 5, .v 6, .v 7, .v 8, .v 9], [.v 15, .v 16]], .call 31 6 [[.v 2, .v 3, .v 4, .v 5, .v 6, .v 7, .v 8, .v 9], [.v 15, .v 16]] 1, .not 32 (.v 31), .cond 32 false, .cmp 33 .neq (.v 11) (.v 26), .cond 33 false, .cmp 34 .eql (.v 10) (.l 2), .cond 34 false, .cmp 35 .eql (.v 10) (.l 1), .cond 35 true, .cmp 36 .eql (.v 12) (.v 27)]) (refs := [.v 36]) (by kernel_rfl) fun ρ hρ hd => ?_
            simp only [D_nil, D_add, D_sub, D_mul, D_and, D_or, D_xor, D_shl, D_shr, D_andNot, D_quo, D_rem, D_add_i64, D_sub_i64, D_mul_i64, D_add_u32, D_sub_u32, D_mul_u32, D_add_u8, D_sub_u8, D_mul_u8, D_eql, D_neq, D_lss, D_leq, D_gtr, D_geq, D_not, D_conv, D_eqs, D_call, D_cond, D_need, D_idx, D_sel, D_upd, D_shv, D_beq, D_len, D_byte, D_cut, D_cat, D_must, List.map_cons, List.map_nil, Ref.den] at hd
            obtain ⟨f30, f31, f32, f33, f34, f35, f36, -⟩ := hd
            have q2 : ρ 2 = a2 := hρ 2 (by decide)
            have q3 : ρ 3 = a3 := hρ 3 (by decide)
            have q4 : ρ 4 = a4 := hρ 4 (by decide)
            have q5 : ρ 5 = a5 := hρ 5 (by decide)
            have q6 : ρ 6 = a6 := hρ 6 (by decide)
            have q7 : ρ 7 = a7 := hρ 7 (by decide)
            have q8 : ρ 8 = a8 := hρ 8 (by decide)
            have q9 : ρ 9 = a9 := hρ 9 (by decide)
            have q10 : ρ 10 = a10 := hρ 10 (by decide)
            have q11 : ρ 11 = a11 := hρ 11 (by decide)
            have q12 : ρ 12 = a12 := hρ 12 (by decide)
            have q15 : ρ 15 = b0 := hρ 15 (by decide)
            have q16 : ρ 16 = b1 := hρ 16 (by decide)
            have q25 : ρ 25 = b10 := hρ 25 (by decide)
            have q26 : ρ 26 = b11 := hρ 26 (by decide)
            have q27 : ρ 27 = b12 := hρ 27 (by decide)
            have q30 : ρ 30 = (b2i (decide (b10 ≠ 1))) := b2i_dec f30 (by simp only [q25])
            have q31 : ρ 31 = (b2i (hasB [a2, a3, a4, a5, a6, a7, a8, a9] b0 b1)) := by
                have t := f31 0 (by decide)
                simp only [q2, q3, q4, q5, q6, q7, q8, q9, q15, q16] at t
                exact t
            have q32 : ρ 32 = (b2i (!(hasB [a2, a3, a4, a5, a6, a7, a8, a9] b0 b1))) := b2i_not f32 q31
            have q33 : ρ 33 = (b2i (decide (a11 ≠ b11))) := b2i_dec f33 (by simp only [q11, q26])
            have q34 : ρ 34 = (b2i (decide (a10 = 2))) := b2i_dec f34 (by simp only [q10])
            have q35 : ρ 35 = (b2i (decide (a10 = 1))) := b2i_dec f35 (by simp only [q10])
            have q36 : ρ 36 = (b2i (decide (a12 = b12))) := b2i_dec f36 (by simp only [q12, q27])
            refine ⟨?_, ?_⟩
            · simp only [G_nil, G_bin, G_cmp, G_not, G_conv, G_eqs, G_call, G_cond, G_need, G_idx, G_sel, G_upd, G_shv, G_beq, G_prim, G_byte, G_cut, G_cat, List.map_cons, List.map_nil, Ref.den]
              exact ⟨b2i_cond q30 (by simp only [c0, decide_true, decide_false, Bool.and_true, Bool.true_and, Bool.and_false, Bool.false_and, Bool.or_true, Bool.true_or, Bool.or_false, Bool.false_or, Bool.not_true, Bool.not_false, if_true, if_false, Bool.false_eq_true]), trivial, b2i_cond q32 (by simp only [c1, decide_true, decide_false, Bool.and_true, Bool.true_and, Bool.and_false, Bool.false_and, Bool.or_true, Bool.true_or, Bool.or_false, Bool.false_or, Bool.not_true, Bool.not_false, if_true, if_false, Bool.false_eq_true]), b2i_cond q33 (by simp only [c2, decide_true, decide_false, Bool.and_true, Bool.true_and, Bool.and_false, Bool.false_and, Bool.or_true, Bool.true_or, Bool.or_false, Bool.false_or, Bool.not_true, Bool.not_false, if_true, if_false, Bool.false_eq_true]), b2i_cond q34 (by simp only [c3, decide_true, decide_false, Bool.and_true, Bool.true_and, Bool.and_false, Bool.false_and, Bool.or_true, Bool.true_or, Bool.or_false, Bool.false_or, Bool.not_true, Bool.not_false, if_true, if_false, Bool.false_eq_true]), b2i_cond q35 (by simp only [c4, decide_true, decide_false, Bool.and_true, Bool.true_and, Bool.and_false, Bool.false_and, Bool.or_true, Bool.true_or, Bool.or_false, Bool.false_or, Bool.not_true, Bool.not_false, if_true, if_false, Bool.false_eq_true]), trivial⟩
            · show [ρ 36] = [b2i (overE [a0, a1, a2, a3, a4, a5, a6, a7, a8, a9, a10, a11, a12, a13, a14] [b0, b1, b2, b3, b4, b5, b6, b7, b8, b9, b10, b11, b12, b13, b14])]
              rw [q36]
              exact congrArg (fun b => [b2i b]) (by simp only [overE, c0, c1, c2, c3, c4, decide_true, decide_false, Bool.and_true, Bool.true_and, Bool.and_false, Bool.false_and, Bool.or_true, Bool.true_or, Bool.or_false, Bool.false_or, Bool.not_true, Bool.not_false, if_true, if_false, Bool.false_eq_true])
        · refine Go.Sx.Way.of (dec := [false, false, false, true]) (fs := [.cmp 30 .neq (.v 25) (.l 1), .cond 30 false, .need 6 [[.v 2, .v 3, .v 4, .v 5, .v 6, .v 7, .v 8, .v 9], [.v 15, .v 16]], .call 31 6 [[.v 2, .v 3, .v 4, .v 5, .v 6, .v 7, .v 8, .v 9], [.v 15, .v 16]] 1, .not 32 (.v 31), .cond 32 false, .cmp 33 .neq (.v 11) (.v 26), .cond 33 false, .cmp 34 .eql (.v 10) (.l 2), .cond 34 true]) (refs := [.l 1]) (by kernel_rfl) fun ρ hρ hd => ?_
          simp only [D_nil, D_add, D_sub, D_mul, D_and, D_or, D_xor, D_shl, D_shr, D_andNot, D_quo, D_rem, D_add_i64, D_sub_i64, D_mul_i64, D_add_u32, D_sub_u32, D_mul_u32, D_add_u8, D_sub_u8, D_mul_u8, D_eql, D_neq, D_lss, D_leq, D_gtr, D_geq, D_not, D_conv, D_eqs, D_call, D_cond, D_need, D_idx, D_sel, D_upd, D_shv, D_beq, D_len, D_byte, D_cut, D_cat, D_must, List.map_cons, List.map_nil, Ref.den] at hd
          obtain ⟨f30, f31, f32, f33, f34, -⟩ := hd
          have q2 : ρ 2 = a2 := hρ 2 (by decide)
          have q3 : ρ 3 = a3 := hρ 3 (by decide)
          have q4 : ρ 4 = a4 := hρ 4 (by decide)
          have q5 : ρ 5 = a5 := hρ 5 (by decide)
          have q6 : ρ 6 = a6 := hρ 6 (by decide)
          have q7 : ρ 7 = a7 := hρ 7 (by decide)
          have q8 : ρ 8 = a8 := hρ 8 (by decide)
          have q9 : ρ 9 = a9 := hρ 9 (by decide)
          have q10 : ρ 10 = a10 := hρ 10 (by decide)
          have q11 : ρ 11 = a11 := hρ 11 (by decide)
          have q15 : ρ 15 = b0 := hρ 15 (by decide)
          have q16 : ρ 16 = b1 := hρ 16 (by decide)
          have q25 : ρ 25 = b10 := hρ 25 (by decide)
          have q26 : ρ 26 = b11 := hρ 26 (by decide)
          have q30 : ρ 30 = (b2i (decide (b10 ≠ 1))) := b2i_dec f30 (by simp only [q25])
          have q31 : ρ 31 = (b2i (hasB [a2, a3, a4, a5, a6, a7, a8, a9] b0 b1)) := by
              have t := f31 0 (by decide)
              simp only [q2, q3, q4, q5, q6, q7, q8, q9, q15, q16] at t
              exact t
          have q32 : ρ 32 = (b2i (!(hasB [a2, a3, a4, a5, a6, a7, a8, a9] b0 b1))) := b2i_not f32 q31
          have q33 : ρ 33 = (b2i (decide (a11 ≠ b11))) := b2i_dec f33 (by simp only [q11, q26])
          have q34 : ρ 34 = (b2i (decide (a10 = 2))) := b2i_dec f34 (by simp only [q10])
          refine ⟨?_, ?_⟩
          · simp only [G_nil, G_bin, G_cmp, G_not, G_conv, G_eqs, G_call, G_cond, G_need, G_idx, G_sel, G_upd, G_shv, G_beq, G_prim, G_byte, G_cut, G_cat, List.map_cons, List.map_nil, Ref.den]
            exact ⟨b2i_cond q30 (by simp only [c0, decide_true, decide_false, Bool.and_true, Bool.true_and, Bool.and_false, Bool.false_and, Bool.or_true, Bool.true_or, Bool.or_false, Bool.false_or, Bool.not_true, Bool.not_false, if_true, if_false, Bool.false_eq_true]), trivial, b2i_cond q32 (by simp only [c1, decide_true, decide_false, Bool.and_true, Bool.true_and, Bool.and_false, Bool.false_and, Bool.or_true, Bool.true_or, Bool.or_false, Bool.false_or, Bool.not_true, Bool.not_false, if_true, if_false, Bool.false_eq_true]), b2i_cond q33 (by simp only [c2, decide_true, decide_false, Bool.and_true, Bool.true_and, Bool.and_false, Bool.false_and, Bool.or_true, Bool.true_or, Bool.or_false, Bool.false_or, Bool.not_true, Bool.not_false, if_true, if_false, Bool.false_eq_true]), b2i_cond q34 (by simp only [c3, decide_true, decide_false, Bool.and_true, Bool.true_and, Bool.and_false, Bool.false_and, Bool.or_true, Bool.true_or, Bool.or_false, Bool.false_or, Bool.not_true, Bool.not_false, if_true, if_false, Bool.false_eq_true]), trivial⟩
          · show [1] = [b2i (overE [a0, a1, a2, a3, a4, a5, a6, a7, a8, a9, a10, a11, a12, a13, a14] [b0, b1, b2, b3, b4, b5, b6, b7, b8, b9, b10, b11, b12, b13, b14])]
            rw [show overE [a0, a1, a2, a3, a4, a5, a6, a7, a8, a9, a10, a11, a12, a13, a14] [b0, b1, b2, b3, b4, b5, b6, b7, b8, b9, b10, b11, b12, b13, b14] = true by simp only [overE, c0, c1, c2, c3, decide_true, decide_false, Bool.and_true, Bool.true_and, Bool.and_false, Bool.false_and, Bool.or_true, Bool.true_or, Bool.or_false, Bool.false_or, Bool.not_true, Bool.not_false, if_true, if_false, Bool.false_eq_true]]; rfl
      · refine Go.Sx.Way.of (dec := [false, false, true]) (fs := [.cmp 30 .neq (.v 25) (.l 1), .cond 30 false, .need 6 [[.v 2, .v 3, .v 4, .v 5, .v 6, .v 7, .v 8, .v 9], [.v 15, .v 16]], .call 31 6 [[.v 2, .v 3, .v 4, .v 5, .v 6, .v 7, .v 8, .v 9], [.v 15, .v 16]] 1, .not 32 (.v 31), .cond 32 false, .cmp 33 .neq (.v 11) (.v 26), .cond 33 true]) (refs := [.l 0]) (by kernel_rfl) fun ρ hρ hd => ?_
        simp only [D_nil, D_add, D_sub, D_mul, D_and, D_or, D_xor, D_shl, D_shr, D_andNot, D_quo, D_rem, D_add_i64, D_sub_i64, D_mul_i64, D_add_u32, D_sub_u32, D_mul_u32, D_add_u8, D_sub_u8, D_mul_u8, D_eql, D_neq, D_lss, D_leq, D_gtr, D_geq, D_not, D_conv, D_eqs, D_call, D_cond, D_need, D_idx, D_sel, D_upd, D_shv, D_beq, D_len, D_byte, D_cut, D_cat, D_must, List.map_cons, List.map_nil, Ref.den] at hd
        obtain ⟨f30, f31, f32, f33, -⟩ := hd
        have q2 : ρ 2 = a2 := hρ 2 (by decide)
        have q3 : ρ 3 = a3 := hρ 3 (by decide)
        have q4 : ρ 4 = a4 := hρ 4 (by decide)
        have q5 : ρ 5 = a5 := hρ 5 (by decide)
        have q6 : ρ 6 = a6 := hρ 6 (by decide)
        have q7 : ρ 7 = a7 := hρ 7 (by decide)
        have q8 : ρ 8 = a8 := hρ 8 (by decide)
        have q9 : ρ 9 = a9 := hρ 9 (by decide)
        have q11 : ρ 11 = a11 := hρ 11 (by decide)
        have q15 : ρ 15 = b0 := hρ 15 (by decide)
        have q16 : ρ 16 = b1 := hρ 16 (by decide)
        have q25 : ρ 25 = b10 := hρ 25 (by decide)
        have q26 : ρ 26 = b11 := hρ 26 (by decide)
        have q30 : ρ 30 = (b2i (decide (b10 ≠ 1))) := b2i_dec f30 (by simp only [q25])
        have q31 : ρ 31 = (b2i (hasB [a2, a3, a4, a5, a6, a7, a8, a9] b0 b1)) := by
            have t := f31 0 (by decide)
            simp only [q2, q3, q4, q5, q6, q7, q8, q9, q15, q16] at t
            exact t
        have q32 : ρ 32 = (b2i (!(hasB [a2, a3, a4, a5, a6, a7, a8, a9] b0 b1))) := b2i_not f32 q31
        have q33 : ρ 33 = (b2i (decide (a11 ≠ b11))) := b2i_dec f33 (by simp only [q11, q26])
        refine ⟨?_, ?_⟩
        · simp only [G_nil, G_bin, G_cmp, G_not, G_conv, G_eqs, G_call, G_cond, G_need, G_idx, G_sel, G_upd, G_shv, G_beq, G_prim, G_byte, G_cut, G_cat, List.map_cons, List.map_nil, Ref.den]
          exact ⟨b2i_cond q30 (by simp only [c0, decide_true, decide_false, Bool.and_true, Bool.true_and, Bool.and_false, Bool.false_and, Bool.or_true, Bool.true_or, Bool.or_false, Bool.false_or, Bool.not_true, Bool.not_false, if_true, if_false, Bool.false_eq_true]), trivial, b2i_cond q32 (by simp only [c1, decide_true, decide_false, Bool.and_true, Bool.true_and, Bool.and_false, Bool.false_and, Bool.or_true, Bool.true_or, Bool.or_false, Bool.false_or, Bool.not_true, Bool.not_false, if_true, if_false, Bool.false_eq_true]), b2i_cond q33 (by simp only [c2, decide_true, decide_false, Bool.and_true, Bool.true_and, Bool.and_false, Bool.false_and, Bool.or_true, Bool.true_or, Bool.or_false, Bool.false_or, Bool.not_true, Bool.not_false, if_true, if_false, Bool.false_eq_true]), trivial⟩
        · show [0] = [b2i (overE [a0, a1, a2, a3, a4, a5, a6, a7, a8, a9, a10, a11, a12, a13, a14] [b0, b1, b2, b3, b4, b5, b6, b7, b8, b9, b10, b11, b12, b13, b14])]
          rw [show overE [a0, a1, a2, a3, a4, a5, a6, a7, a8, a9, a10, a11, a12, a13, a14] [b0, b1, b2, b3, b4, b5, b6, b7, b8, b9, b10, b11, b12, b13, b14] = false by simp only [overE, c0, c1, c2, decide_true, decide_false, Bool.and_true, Bool.true_and, Bool.and_false, Bool.false_and, Bool.or_true, Bool.true_or, Bool.or_false, Bool.false_or, Bool.not_true, Bool.not_false, if_true, if_false, Bool.false_eq_true]]; rfl
  · refine Go.Sx.Way.of (dec := [true]) (fs := [.cmp 30 .neq (.v 25) (.l 1), .cond 30 true]) (refs := [.l 0]) (by kernel_rfl) fun ρ hρ hd => ?_
    simp only [D_nil, D_add, D_sub, D_mul, D_and, D_or, D_xor, D_shl, D_shr, D_andNot, D_quo, D_rem, D_add_i64, D_sub_i64, D_mul_i64, D_add_u32, D_sub_u32, D_mul_u32, D_add_u8, D_sub_u8, D_mul_u8, D_eql, D_neq, D_lss, D_leq, D_gtr, D_geq, D_not, D_conv, D_eqs, D_call, D_cond, D_need, D_idx, D_sel, D_upd, D_shv, D_beq, D_len, D_byte, D_cut, D_cat, D_must, List.map_cons, List.map_nil, Ref.den] at hd
    obtain ⟨f30, -⟩ := hd
    have q25 : ρ 25 = b10 := hρ 25 (by decide)
    have q30 : ρ 30 = (b2i (decide (b10 ≠ 1))) := b2i_dec f30 (by simp only [q25])
    refine ⟨?_, ?_⟩
    · simp only [G_nil, G_bin, G_cmp, G_not, G_conv, G_eqs, G_call, G_cond, G_need, G_idx, G_sel, G_upd, G_shv, G_beq, G_prim, G_byte, G_cut, G_cat, List.map_cons, List.map_nil, Ref.den]
      exact ⟨b2i_cond q30 (by simp only [c0, decide_true, decide_false, Bool.and_true, Bool.true_and, Bool.and_false, Bool.false_and, Bool.or_true, Bool.true_or, Bool.or_false, Bool.false_or, Bool.not_true, Bool.not_false, if_true, if_false, Bool.false_eq_true]), trivial⟩
    · show [0] = [b2i (overE [a0, a1, a2, a3, a4, a5, a6, a7, a8, a9, a10, a11, a12, a13, a14] [b0, b1, b2, b3, b4, b5, b6, b7, b8, b9, b10, b11, b12, b13, b14])]
      rw [show overE [a0, a1, a2, a3, a4, a5, a6, a7, a8, a9, a10, a11, a12, a13, a14] [b0, b1, b2, b3, b4, b5, b6, b7, b8, b9, b10, b11, b12, b13, b14] = false by simp only [overE, c0, decide_true, decide_false, Bool.and_true, Bool.true_and, Bool.and_false, Bool.false_and, Bool.or_true, Bool.true_or, Bool.or_false, Bool.false_or, Bool.not_true, Bool.not_false, if_true, if_false, Bool.false_eq_true]]; rfl
theorem okGood : CtrOK Try.prog ofns cGood := by
  refine CtrOK.of okOT1 mixed (lf := 300) (d := 5) rfl fun w vs xs ha hp => ?_
  obtain ⟨v, x, rfl, rfl, ⟨hl, rfl, hg⟩⟩ := open1 ha
  obtain ⟨a0, a1, a2, a3, a4, a5, a6, a7, a8, a9, a10, a11, a12, a13, a14, rfl⟩ := len15 hl
  obtain ⟨hc, hf, hv⟩ : (decZ a11).length ≤ 1000 ∧ (decZ a12).length ≤ 1000 ∧ (decZ a13).length ≤ 1000 := hp
  cases c0 : decide (0 ≤ a0)
  · refine Go.Sx.Way.of (dec := [false]) (fs := [.cmp 15 .geq (.v 0) (.l 0), .cond 15 false]) (refs := [.l 0]) (by kernel_rfl) fun ρ hρ hd => ?_
    simp only [D_nil, D_add, D_sub, D_mul, D_and, D_or, D_xor, D_shl, D_shr, D_andNot, D_quo, D_rem, D_add_i64, D_sub_i64, D_mul_i64, D_add_u32, D_sub_u32, D_mul_u32, D_add_u8, D_sub_u8, D_mul_u8, D_eql, D_neq, D_lss, D_leq, D_gtr, D_geq, D_not, D_conv, D_eqs, D_call, D_cond, D_need, D_idx, D_sel, D_upd, D_shv, D_beq, D_len, D_byte, D_cut, D_cat, D_must, List.map_cons, List.map_nil, Ref.den] at hd
    obtain ⟨f15, -⟩ := hd
    have q0 : ρ 0 = a0 := hρ 0 (by decide)
    have q15 : ρ 15 = (b2i (decide (0 ≤ a0))) := b2i_dec f15 (by simp only [q0])
    refine ⟨?_, ?_⟩
    · simp only [G_nil, G_bin, G_cmp, G_not, G_conv, G_eqs, G_call, G_cond, G_need, G_idx, G_sel, G_upd, G_shv, G_beq, G_prim, G_byte, G_cut, G_cat, List.map_cons, List.map_nil, Ref.den]
      exact ⟨b2i_cond q15 (by simp only [c0, decide_true, decide_false, Bool.and_true, Bool.true_and, Bool.and_false, Bool.false_and, Bool.or_true, Bool.true_or, Bool.or_false, Bool.false_or, Bool.not_true, Bool.not_false, if_true, if_false, Bool.false_eq_true]), trivial⟩
    · show [0] = [b2i (goodE [a0, a1, a2, a3, a4, a5, a6, a7, a8, a9, a10, a11, a12, a13, a14])]
      rw [show goodE [a0, a1, a2, a3, a4, a5, a6, a7, a8, a9, a10, a11, a12, a13, a14] = false by simp only [goodE, c0, decide_true, decide_false, Bool.and_true, Bool.true_and, Bool.and_false, Bool.false_and, Bool.or_true, Bool.true_or, Bool.or_false, Bool.false_or, Bool.not_true, Bool.not_false, if_true, if_false, Bool.false_eq_true]]; rfl
  · cases c1 : decide (a0 < 8)
    · refine Go.Sx.Way.of (dec := [true, true]) (fs := [.cmp 15 .geq (.v 0) (.l 0), .cond 15 true, .cmp 16 .lss (.v 0) (.l 8), .not 17 (.v 16), .cond 17 true]) (refs := [.l 0]) (by kernel_rfl) fun ρ hρ hd => ?_
      simp only [D_nil, D_add, D_sub, D_mul, D_and, D_or, D_xor, D_shl, D_shr, D_andNot, D_quo, D_rem, D_add_i64, D_sub_i64, D_mul_i64, D_add_u32, D_sub_u32, D_mul_u32, D_add_u8, D_sub_u8, D_mul_u8, D_eql, D_neq, D_lss, D_leq, D_gtr, D_geq, D_not, D_conv, D_eqs, D_call, D_cond, D_need, D_idx, D_sel, D_upd, D_shv, D_beq, D_len, D_byte, D_cut, D_cat, D_must, List.map_cons, List.map_nil, Ref.den] at hd
      obtain ⟨f15, f16, f17, -⟩ := hd
      have q0 : ρ 0 = a0 := hρ 0 (by decide)
      have q15 : ρ 15 = (b2i (decide (0 ≤ a0))) := b2i_dec f15 (by simp only [q0])
      have q16 : ρ 16 = (b2i (decide (a0 < 8))) := b2i_dec f16 (by simp only [q0])
      have q17 : ρ 17 = (b2i (!(decide (a0 < 8)))) := b2i_not f17 q16
      refine ⟨?_, ?_⟩
      · simp only [G_nil, G_bin, G_cmp, G_not, G_conv, G_eqs, G_call, G_cond, G_need, G_idx, G_sel, G_upd, G_shv, G_beq, G_prim, G_byte, G_cut, G_cat, List.map_cons, List.map_nil, Ref.den]
        exact ⟨b2i_cond q15 (by simp only [c0, decide_true, decide_false, Bool.and_true, Bool.true_and, Bool.and_false, Bool.false_and, Bool.or_true, Bool.true_or, Bool.or_false, Bool.false_or, Bool.not_true, Bool.not_false, if_true, if_false, Bool.false_eq_true]), b2i_cond q17 (by simp only [c1, decide_true, decide_false, Bool.and_true, Bool.true_and, Bool.and_false, Bool.false_and, Bool.or_true, Bool.true_or, Bool.or_false, Bool.false_or, Bool.not_true, Bool.not_false, if_true, if_false, Bool.false_eq_true]), trivial⟩
      · show [0] = [b2i (goodE [a0, a1, a2, a3, a4, a5, a6, a7, a8, a9, a10, a11, a12, a13, a14])]
        rw [show goodE [a0, a1, a2, a3, a4, a5, a6, a7, a8, a9, a10, a11, a12, a13, a14] = false by simp only [goodE, c0, c1, decide_true, decide_false, Bool.and_true, Bool.true_and, Bool.and_false, Bool.false_and, Bool.or_true, Bool.true_or, Bool.or_false, Bool.false_or, Bool.not_true, Bool.not_false, if_true, if_false, Bool.false_eq_true]]; rfl
    · cases c2 : decide (a1 < 1)
      · cases c3 : decide (1099511627776 < a1)
        · cases c4 : goodB [a2, a3, a4, a5, a6, a7, a8, a9]
          · refine Go.Sx.Way.of (dec := [true, false, false, false, true]) (fs := [.cmp 15 .geq (.v 0) (.l 0), .cond 15 true, .cmp 16 .lss (.v 0) (.l 8), .not 17 (.v 16), .cond 17 false, .cmp 18 .lss (.v 1) (.l 1), .cond 18 false, .cmp 19 .gtr (.v 1) (.l 1099511627776), .cond 19 false, .need 4 [[.v 2, .v 3, .v 4, .v 5, .v 6, .v 7, .v 8, .v 9]], .call 20 4 [[.v 2, .v 3, .v 4, .v 5, .v 6, .v 7, .v 8, .v 9]] 1, .not 21 (.v 20), .cond 21 true]) (refs := [.l 0]) (by kernel_rfl) fun ρ hρ hd => ?_
            simp only [D_nil, D_add, D_sub, D_mul, D_and, D_or, D_xor, D_shl, D_shr, D_andNot, D_quo, D_rem, D_add_i64, D_sub_i64, D_mul_i64, D_add_u32, D_sub_u32, D_mul_u32, D_add_u8, D_sub_u8, D_mul_u8, D_eql, D_neq, D_lss, D_leq, D_gtr, D_geq, D_not, D_conv, D_eqs, D_call, D_cond, D_need, D_idx, D_sel, D_upd, D_shv, D_beq, D_len, D_byte, D_cut, D_cat, D_must, List.map_cons, List.map_nil, Ref.den] at hd
            obtain ⟨f15, f16, f17, f18, f19, f20, f21, -⟩ := hd
            have q0 : ρ 0 = a0 := hρ 0 (by decide)
            have q1 : ρ 1 = a1 := hρ 1 (by decide)
            have q2 : ρ 2 = a2 := hρ 2 (by decide)
            have q3 : ρ 3 = a3 := hρ 3 (by decide)
            have q4 : ρ 4 = a4 := hρ 4 (by decide)
            have q5 : ρ 5 = a5 := hρ 5 (by decide)
            have q6 : ρ 6 = a6 := hρ 6 (by decide)
            have q7 : ρ 7 = a7 := hρ 7 (by decide)
            have q8 : ρ 8 = a8 := hρ 8 (by decide)
            have q9 : ρ 9 = a9 := hρ 9 (by decide)
            have q15 : ρ 15 = (b2i (decide (0 ≤ a0))) := b2i_dec f15 (by simp only [q0])
            have q16 : ρ 16 = (b2i (decide (a0 < 8))) := b2i_dec f16 (by simp only [q0])
            have q17 : ρ 17 = (b2i (!(decide (a0 < 8)))) := b2i_not f17 q16
            have q18 : ρ 18 = (b2i (decide (a1 < 1))) := b2i_dec f18 (by simp only [q1])
            have q19 : ρ 19 = (b2i (decide (1099511627776 < a1))) := b2i_dec f19 (by simp only [q1])
            have q20 : ρ 20 = (b2i (goodB [a2, a3, a4, a5, a6, a7, a8, a9])) := by
                have t := f20 0 (by decide)
                simp only [q2, q3, q4, q5, q6, q7, q8, q9] at t
                exact t
            have q21 : ρ 21 = (b2i (!(goodB [a2, a3, a4, a5, a6, a7, a8, a9]))) := b2i_not f21 q20
            refine ⟨?_, ?_⟩
            · simp only [G_nil, G_bin, G_cmp, G_not, G_conv, G_eqs, G_call, G_cond, G_need, G_idx, G_sel, G_upd, G_shv, G_beq, G_prim, G_byte, G_cut, G_cat, List.map_cons, List.map_nil, Ref.den]
              exact ⟨b2i_cond q15 (by simp only [c0, decide_true, decide_false, Bool.and_true, Bool.true_and, Bool.and_false, Bool.false_and, Bool.or_true, Bool.true_or, Bool.or_false, Bool.false_or, Bool.not_true, Bool.not_false, if_true, if_false, Bool.false_eq_true]), b2i_cond q17 (by simp only [c1, decide_true, decide_false, Bool.and_true, Bool.true_and, Bool.and_false, Bool.false_and, Bool.or_true, Bool.true_or, Bool.or_false, Bool.false_or, Bool.not_true, Bool.not_false, if_true, if_false, Bool.false_eq_true]), b2i_cond q18 (by simp only [c2, decide_true, decide_false, Bool.and_true, Bool.true_and, Bool.and_false, Bool.false_and, Bool.or_true, Bool.true_or, Bool.or_false, Bool.false_or, Bool.not_true, Bool.not_false, if_true, if_false, Bool.false_eq_true]), b2i_cond q19 (by simp only [c3, decide_true, decide_false, Bool.and_true, Bool.true_and, Bool.and_false, Bool.false_and, Bool.or_true, Bool.true_or, Bool.or_false, Bool.false_or, Bool.not_true, Bool.not_false, if_true, if_false, Bool.false_eq_true]), trivial, b2i_cond q21 (by simp only [c4, decide_true, decide_false, Bool.and_true, Bool.true_and, Bool.and_false, Bool.false_and, Bool.or_true, Bool.true_or, Bool.or_false, Bool.false_or, Bool.not_true, Bool.not_false, if_true, if_false, Bool.false_eq_true]), trivial⟩
            · show [0] = [b2i (goodE [a0, a1, a2, a3, a4, a5, a6, a7, a8, a9, a10, a11, a12, a13, a14])]
              rw [show goodE [a0, a1, a2, a3, a4, a5, a6, a7, a8, a9, a10, a11, a12, a13, a14] = false by simp only [goodE, c0, c1, c2, c3, c4, decide_true, decide_false, Bool.and_true, Bool.true_and, Bool.and_false, Bool.false_and, Bool.or_true, Bool.true_or, Bool.or_false, Bool.false_or, Bool.not_true, Bool.not_false, if_true, if_false, Bool.false_eq_true]]; rfl
          · cases c5 : decide (([a2, a3, a4, a5, a6, a7, a8, a9].getD (a0).toNat 0) ≠ (IntKind.i64.wrap (a1 - 1)))
            · cases c6 : decide (a14 < 0)
              · cases c7 : decide (1099511627776 < a14)
                · cases c8 : nameB (decZ a11)
                  · refine Go.Sx.Way.of (dec := [true, false, false, false, false, false, false, false, true]) (fs := [.cmp 15 .geq (.v 0) (.l 0), .cond 15 true, .cmp 16 .lss (.v 0) (.l 8), .not 17 (.v 16), .cond 17 false, .cmp 18 .lss (.v 1) (.l 1), .cond 18 false, .cmp 19 .gtr (.v 1) (.l 1099511627776), .cond 19 false, .need 4 [[.v 2, .v 3, .v 4, .v 5, .v 6, .v 7, .v 8, .v 9]], .call 20 4 [[.v 2, .v 3, .v 4, .v 5, .v 6, .v 7, .v 8, .v 9]] 1, .not 21 (.v 20), .cond 21 false, .idx 0 8, .sel 22 [.v 2, .v 3, .v 4, .v 5, .v 6, .v 7, .v 8, .v 9] 0, .bin 23 .sub .i64 (.v 1) (.l 1), .cmp 24 .neq (.v 22) (.v 23), .cond 24 false, .cmp 25 .lss (.v 14) (.l 0), .cond 25 false, .cmp 26 .gtr (.v 14) (.l 1099511627776), .cond 26 false, .need 5 [[.v 11]], .call 27 5 [[.v 11]] 1, .not 28 (.v 27), .cond 28 true]) (refs := [.l 0]) (by kernel_rfl) fun ρ hρ hd => ?_
                    simp only [D_nil, D_add, D_sub, D_mul, D_and, D_or, D_xor, D_shl, D_shr, D_andNot, D_quo, D_rem, D_add_i64, D_sub_i64, D_mul_i64, D_add_u32, D_sub_u32, D_mul_u32, D_add_u8, D_sub_u8, D_mul_u8, D_eql, D_neq, D_lss, D_leq, D_gtr, D_geq, D_not, D_conv, D_eqs, D_call, D_cond, D_need, D_idx, D_sel, D_upd, D_shv, D_beq, D_len, D_byte, D_cut, D_cat, D_must, List.map_cons, List.map_nil, Ref.den] at hd
                    obtain ⟨f15, f16, f17, f18, f19, f20, f21, f22, f23, f24, f25, f26, f27, f28, -⟩ := hd
                    have q0 : ρ 0 = a0 := hρ 0 (by decide)
                    have q1 : ρ 1 = a1 := hρ 1 (by decide)
                    have q2 : ρ 2 = a2 := hρ 2 (by decide)
                    have q3 : ρ 3 = a3 := hρ 3 (by decide)
                    have q4 : ρ 4 = a4 := hρ 4 (by decide)
                    have q5 : ρ 5 = a5 := hρ 5 (by decide)
                    have q6 : ρ 6 = a6 := hρ 6 (by decide)
                    have q7 : ρ 7 = a7 := hρ 7 (by decide)
                    have q8 : ρ 8 = a8 := hρ 8 (by decide)
                    have q9 : ρ 9 = a9 := hρ 9 (by decide)
                    have q11 : ρ 11 = a11 := hρ 11 (by decide)
                    have q14 : ρ 14 = a14 := hρ 14 (by decide)
                    have q15 : ρ 15 = (b2i (decide (0 ≤ a0))) := b2i_dec f15 (by simp only [q0])
                    have q16 : ρ 16 = (b2i (decide (a0 < 8))) := b2i_dec f16 (by simp only [q0])
                    have q17 : ρ 17 = (b2i (!(decide (a0 < 8)))) := b2i_not f17 q16
                    have q18 : ρ 18 = (b2i (decide (a1 < 1))) := b2i_dec f18 (by simp only [q1])
                    have q19 : ρ 19 = (b2i (decide (1099511627776 < a1))) := b2i_dec f19 (by simp only [q1])
                    have q20 : ρ 20 = (b2i (goodB [a2, a3, a4, a5, a6, a7, a8, a9])) := by
                        have t := f20 0 (by decide)
                        simp only [q2, q3, q4, q5, q6, q7, q8, q9] at t
                        exact t
                    have q21 : ρ 21 = (b2i (!(goodB [a2, a3, a4, a5, a6, a7, a8, a9]))) := b2i_not f21 q20
                    have q22 : ρ 22 = ([a2, a3, a4, a5, a6, a7, a8, a9].getD (a0).toNat 0) := by rw [f22, q2, q3, q4, q5, q6, q7, q8, q9, q0]
                    have q23 : ρ 23 = (IntKind.i64.wrap (a1 - 1)) := by rw [f23, q1]
                    have q24 : ρ 24 = (b2i (decide (([a2, a3, a4, a5, a6, a7, a8, a9].getD (a0).toNat 0) ≠ (IntKind.i64.wrap (a1 - 1))))) := b2i_dec f24 (by simp only [q22, q23])
                    have q25 : ρ 25 = (b2i (decide (a14 < 0))) := b2i_dec f25 (by simp only [q14])
                    have q26 : ρ 26 = (b2i (decide (1099511627776 < a14))) := b2i_dec f26 (by simp only [q14])
                    have q27 : ρ 27 = (b2i (nameB (decZ a11))) := by
                        have t := f27 0 (by decide)
                        simp only [q11] at t
                        exact t
                    have q28 : ρ 28 = (b2i (!(nameB (decZ a11)))) := b2i_not f28 q27
                    refine ⟨?_, ?_⟩
                    · simp only [G_nil, G_bin, G_cmp, G_not, G_conv, G_eqs, G_call, G_cond, G_need, G_idx, G_sel, G_upd, G_shv, G_beq, G_prim, G_byte, G_cut, G_cat, List.map_cons, List.map_nil, Ref.den]
                      exact ⟨b2i_cond q15 (by simp only [c0, decide_true, decide_false, Bool.and_true, Bool.true_and, Bool.and_false, Bool.false_and, Bool.or_true, Bool.true_or, Bool.or_false, Bool.false_or, Bool.not_true, Bool.not_false, if_true, if_false, Bool.false_eq_true]), b2i_cond q17 (by simp only [c1, decide_true, decide_false, Bool.and_true, Bool.true_and, Bool.and_false, Bool.false_and, Bool.or_true, Bool.true_or, Bool.or_false, Bool.false_or, Bool.not_true, Bool.not_false, if_true, if_false, Bool.false_eq_true]), b2i_cond q18 (by simp only [c2, decide_true, decide_false, Bool.and_true, Bool.true_and, Bool.and_false, Bool.false_and, Bool.or_true, Bool.true_or, Bool.or_false, Bool.false_or, Bool.not_true, Bool.not_false, if_true, if_false, Bool.false_eq_true]), b2i_cond q19 (by simp only [c3, decide_true, decide_false, Bool.and_true, Bool.true_and, Bool.and_false, Bool.false_and, Bool.or_true, Bool.true_or, Bool.or_false, Bool.false_or, Bool.not_true, Bool.not_false, if_true, if_false, Bool.false_eq_true]), trivial, b2i_cond q21 (by simp only [c4, decide_true, decide_false, Bool.and_true, Bool.true_and, Bool.and_false, Bool.false_and, Bool.or_true, Bool.true_or, Bool.or_false, Bool.false_or, Bool.not_true, Bool.not_false, if_true, if_false, Bool.false_eq_true]), ⟨by rw [q0]; exact of_decide_eq_true (by assumption), by rw [q0]; exact of_decide_eq_true (by assumption)⟩, b2i_cond q24 (by simp only [c5, decide_true, decide_false, Bool.and_true, Bool.true_and, Bool.and_false, Bool.false_and, Bool.or_true, Bool.true_or, Bool.or_false, Bool.false_or, Bool.not_true, Bool.not_false, if_true, if_false, Bool.false_eq_true]), b2i_cond q25 (by simp only [c6, decide_true, decide_false, Bool.and_true, Bool.true_and, Bool.and_false, Bool.false_and, Bool.or_true, Bool.true_or, Bool.or_false, Bool.false_or, Bool.not_true, Bool.not_false, if_true, if_false, Bool.false_eq_true]), b2i_cond q26 (by simp only [c7, decide_true, decide_false, Bool.and_true, Bool.true_and, Bool.and_false, Bool.false_and, Bool.or_true, Bool.true_or, Bool.or_false, Bool.false_or, Bool.not_true, Bool.not_false, if_true, if_false, Bool.false_eq_true]), by show (decZ (ρ 11)).length ≤ 1000000; rw [q11]; omega, b2i_cond q28 (by simp only [c8, decide_true, decide_false, Bool.and_true, Bool.true_and, Bool.and_false, Bool.false_and, Bool.or_true, Bool.true_or, Bool.or_false, Bool.false_or, Bool.not_true, Bool.not_false, if_true, if_false, Bool.false_eq_true]), trivial⟩
                    · show [0] = [b2i (goodE [a0, a1, a2, a3, a4, a5, a6, a7, a8, a9, a10, a11, a12, a13, a14])]
                      rw [show goodE [a0, a1, a2, a3, a4, a5, a6, a7, a8, a9, a10, a11, a12, a13, a14] = false by simp only [goodE, c0, c1, c2, c3, c4, c5, c6, c7, c8, decide_true, decide_false, Bool.and_true, Bool.true_and, Bool.and_false, Bool.false_and, Bool.or_true, Bool.true_or, Bool.or_false, Bool.false_or, Bool.not_true, Bool.not_false, if_true, if_false, Bool.false_eq_true]]; rfl
                  · cases c9 : decide (a10 = 1)
                    · cases c10 : decide (a10 = 2)
                      · refine Go.Sx.Way.of (dec := [true, false, false, false, false, false, false, false, false, false, false]) (fs := [.cmp 15 .geq (.v 0) (.l 0), .cond 15 true, .cmp 16 .lss (.v 0) (.l 8), .not 17 (.v 16), .cond 17 false, .cmp 18 .lss (.v 1) (.l 1), .cond 18 false, .cmp 19 .gtr (.v 1) (.l 1099511627776), .cond 19 false, .need 4 [[.v 2, .v 3, .v 4, .v 5, .v 6, .v 7, .v 8, .v 9]], .call 20 4 [[.v 2, .v 3, .v 4, .v 5, .v 6, .v 7, .v 8, .v 9]] 1, .not 21 (.v 20), .cond 21 false, .idx 0 8, .sel 22 [.v 2, .v 3, .v 4, .v 5, .v 6, .v 7, .v 8, .v 9] 0, .bin 23 .sub .i64 (.v 1) (.l 1), .cmp 24 .neq (.v 22) (.v 23), .cond 24 false, .cmp 25 .lss (.v 14) (.l 0), .cond 25 false, .cmp 26 .gtr (.v 14) (.l 1099511627776), .cond 26 false, .need 5 [[.v 11]], .call 27 5 [[.v 11]] 1, .not 28 (.v 27), .cond 28 false, .cmp 29 .eql (.v 10) (.l 1), .cond 29 false, .cmp 30 .eql (.v 10) (.l 2), .cond 30 false]) (refs := [.l 0]) (by kernel_rfl) fun ρ hρ hd => ?_
                        simp only [D_nil, D_add, D_sub, D_mul, D_and, D_or, D_xor, D_shl, D_shr, D_andNot, D_quo, D_rem, D_add_i64, D_sub_i64, D_mul_i64, D_add_u32, D_sub_u32, D_mul_u32, D_add_u8, D_sub_u8, D_mul_u8, D_eql, D_neq, D_lss, D_leq, D_gtr, D_geq, D_not, D_conv, D_eqs, D_call, D_cond, D_need, D_idx, D_sel, D_upd, D_shv, D_beq, D_len, D_byte, D_cut, D_cat, D_must, List.map_cons, List.map_nil, Ref.den] at hd
                        obtain ⟨f15, f16, f17, f18, f19, f20, f21, f22, f23, f24, f25, f26, f27, f28, f29, f30, -⟩ := hd
                        have q0 : ρ 0 = a0 := hρ 0 (by decide)
                        have q1 : ρ 1 = a1 := hρ 1 (by decide)
                        have q2 : ρ 2 = a2 := hρ 2 (by decide)
                        have q3 : ρ 3 = a3 := hρ 3 (by decide)
                        have q4 : ρ 4 = a4 := hρ 4 (by decide)
                        have q5 : ρ 5 = a5 := hρ 5 (by decide)
                        have q6 : ρ 6 = a6 := hρ 6 (by decide)
                        have q7 : ρ 7 = a7 := hρ 7 (by decide)
                        have q8 : ρ 8 = a8 := hρ 8 (by decide)
                        have q9 : ρ 9 = a9 := hρ 9 (by decide)
                        have q10 : ρ 10 = a10 := hρ 10 (by decide)
                        have q11 : ρ 11 = a11 := hρ 11 (by decide)
                        have q14 : ρ 14 = a14 := hρ 14 (by decide)
                        have q15 : ρ 15 = (b2i (decide (0 ≤ a0))) := b2i_dec f15 (by simp only [q0])
                        have q16 : ρ 16 = (b2i (decide (a0 < 8))) := b2i_dec f16 (by simp only [q0])
                        have q17 : ρ 17 = (b2i (!(decide (a0 < 8)))) := b2i_not f17 q16
                        have q18 : ρ 18 = (b2i (decide (a1 < 1))) := b2i_dec f18 (by simp only [q1])
                        have q19 : ρ 19 = (b2i (decide (1099511627776 < a1))) := b2i_dec f19 (by simp only [q1])
                        have q20 : ρ 20 = (b2i (goodB [a2, a3, a4, a5, a6, a7, a8, a9])) := by
                            have t := f20 0 (by decide)
                            simp only [q2, q3, q4, q5, q6, q7, q8, q9] at t
                            exact t
                        have q21 : ρ 21 = (b2i (!(goodB [a2, a3, a4, a5, a6, a7, a8, a9]))) := b2i_not f21 q20
                        have q22 : ρ 22 = ([a2, a3, a4, a5, a6, a7, a8, a9].getD (a0).toNat 0) := by rw [f22, q2, q3, q4, q5, q6, q7, q8, q9, q0]
                        have q23 : ρ 23 = (IntKind.i64.wrap (a1 - 1)) := by rw [f23, q1]
                        have q24 : ρ 24 = (b2i (decide (([a2, a3, a4, a5, a6, a7, a8, a9].getD (a0).toNat 0) ≠ (IntKind.i64.wrap (a1 - 1))))) := b2i_dec f24 (by simp only [q22, q23])
                        have q25 : ρ 25 = (b2i (decide (a14 < 0))) := b2i_dec f25 (by simp only [q14])
                        have q26 : ρ 26 = (b2i (decide (1099511627776 < a14))) := b2i_dec f26 (by simp only [q14])
                        have q27 : ρ 27 = (b2i (nameB (decZ a11))) := by
                            have t := f27 0 (by decide)
                            simp only [q11] at t
                            exact t
                        have q28 : ρ 28 = (b2i (!(nameB (decZ a11)))) := b2i_not f28 q27
                        have q29 : ρ 29 = (b2i (decide (a10 = 1))) := b2i_dec f29 (by simp only [q10])
                        have q30 : ρ 30 = (b2i (decide (a10 = 2))) := b2i_dec f30 (by simp only [q10])
                        refine ⟨?_, ?_⟩
                        · simp only [G_nil, G_bin, G_cmp, G_not, G_conv, G_eqs, G_call, G_cond, G_need, G_idx, G_sel, G_upd, G_shv, G_beq, G_prim, G_byte, G_cut, G_cat, List.map_cons, List.map_nil, Ref.den]
                          exact ⟨b2i_cond q15 (by simp only [c0, decide_true, decide_false, Bool.and_true, Bool.true_and, Bool.and_false, Bool.false_and, Bool.or_true, Bool.true_or, Bool.or_false, Bool.false_or, Bool.not_true, Bool.not_false, if_true, if_false, Bool.false_eq_true]), b2i_cond q17 (by simp only [c1, decide_true, decide_false, Bool.and_true, Bool.true_and, Bool.and_false, Bool.false_and, Bool.or_true, Bool.true_or, Bool.or_false, Bool.false_or, Bool.not_true, Bool.not_false, if_true, if_false, Bool.false_eq_true]), b2i_cond q18 (by simp only [c2, decide_true, decide_false, Bool.and_true, Bool.true_and, Bool.and_false, Bool.false_and, Bool.or_true, Bool.true_or, Bool.or_false, Bool.false_or, Bool.not_true, Bool.not_false, if_true, if_false, Bool.false_eq_true]), b2i_cond q19 (by simp only [c3, decide_true, decide_false, Bool.and_true, Bool.true_and, Bool.and_false, Bool.false_and, Bool.or_true, Bool.true_or, Bool.or_false, Bool.false_or, Bool.not_true, Bool.not_false, if_true, if_false, Bool.false_eq_true]), trivial, b2i_cond q21 (by simp only [c4, decide_true, decide_false, Bool.and_true, Bool.true_and, Bool.and_false, Bool.false_and, Bool.or_true, Bool.true_or, Bool.or_false, Bool.false_or, Bool.not_true, Bool.not_false, if_true, if_false, Bool.false_eq_true]), ⟨by rw [q0]; exact of_decide_eq_true (by assumption), by rw [q0]; exact of_decide_eq_true (by assumption)⟩, b2i_cond q24 (by simp only [c5, decide_true, decide_false, Bool.and_true, Bool.true_and, Bool.and_false, Bool.false_and, Bool.or_true, Bool.true_or, Bool.or_false, Bool.false_or, Bool.not_true, Bool.not_false, if_true, if_false, Bool.false_eq_true]), b2i_cond q25 (by simp only [c6, decide_true, decide_false, Bool.and_true, Bool.true_and, Bool.and_false, Bool.false_and, Bool.or_true, Bool.true_or, Bool.or_false, Bool.false_or, Bool.not_true, Bool.not_false, if_true, if_false, Bool.false_eq_true]), b2i_cond q26 (by simp only [c7, decide_true, decide_false, Bool.and_true, Bool.true_and, Bool.and_false, Bool.false_and, Bool.or_true, Bool.true_or, Bool.or_false, Bool.false_or, Bool.not_true, Bool.not_false, if_true, if_false, Bool.false_eq_true]), by show (decZ (ρ 11)).length ≤ 1000000; rw [q11]; omega, b2i_cond q28 (by simp only [c8, decide_true, decide_false, Bool.and_true, Bool.true_and, Bool.and_false, Bool.false_and, Bool.or_true, Bool.true_or, Bool.or_false, Bool.false_or, Bool.not_true, Bool.not_false, if_true, if_false, Bool.false_eq_true]), b2i_cond q29 (by simp only [c9, decide_true, decide_false, Bool.and_true, Bool.true_and, Bool.and_false, Bool.false_and, Bool.or_true, Bool.true_or, Bool.or_false, Bool.false_or, Bool.not_true, Bool.not_false, if_true, if_false, Bool.false_eq_true]), b2i_cond q30 (by simp only [c10, decide_true, decide_false, Bool.and_true, Bool.true_and, Bool.and_false, Bool.false_and, Bool.or_true, Bool.true_or, Bool.or_false, Bool.false_or, Bool.not_true, Bool.not_false, if_true, if_false, Bool.false_eq_true]), trivial⟩
                        · show [0] = [b2i (goodE [a0, a1, a2, a3, a4, a5, a6, a7, a8, a9, a10, a11, a12, a13, a14])]
                          rw [show goodE [a0, a1, a2, a3, a4, a5, a6, a7, a8, a9, a10, a11, a12, a13, a14] = false by simp only [goodE, c0, c1, c2, c3, c4, c5, c6, c7, c8, c9, c10, decide_true, decide_false, Bool.and_true, Bool.true_and, Bool.and_false, Bool.false_and, Bool.or_true, Bool.true_or, Bool.or_false, Bool.false_or, Bool.not_true, Bool.not_false, if_true, if_false, Bool.false_eq_true]]; rfl
                      · cases c11 : decide (a12 = 0)
                        · refine Go.Sx.Way.of (dec := [true, false, false, false, false, false, false, false, false, false, true, false]) (fs := [.cmp 15 .geq (.v 0) (.l 0), .cond 15 true, .cmp 16 .lss (.v 0) (.l 8), .not 17 (.v 16), .cond 17 false, .cmp 18 .lss (.v 1) (.l 1), .cond 18 false, .cmp 19 .gtr (.v 1) (.l 1099511627776), .cond 19 false, .need 4 [[.v 2, .v 3, .v 4, .v 5, .v 6, .v 7, .v 8, .v 9]], .call 20 4 [[.v 2, .v 3, .v 4, .v 5, .v 6, .v 7, .v 8, .v 9]] 1, .not 21 (.v 20), .cond 21 false, .idx 0 8, .sel 22 [.v 2, .v 3, .v 4, .v 5, .v 6, .v 7, .v 8, .v 9] 0, .bin 23 .sub .i64 (.v 1) (.l 1), .cmp 24 .neq (.v 22) (.v 23), .cond 24 false, .cmp 25 .lss (.v 14) (.l 0), .cond 25 false, .cmp 26 .gtr (.v 14) (.l 1099511627776), .cond 26 false, .need 5 [[.v 11]], .call 27 5 [[.v 11]] 1, .not 28 (.v 27), .cond 28 false, .cmp 29 .eql (.v 10) (.l 1), .cond 29 false, .cmp 30 .eql (.v 10) (.l 2), .cond 30 true, .cmp 31 .eql (.v 12) (.l 0), .cond 31 false]) (refs := [.l 0]) (by kernel_rfl) fun ρ hρ hd => ?_
                          simp only [D_nil, D_add, D_sub, D_mul, D_and, D_or, D_xor, D_shl, D_shr, D_andNot, D_quo, D_rem, D_add_i64, D_sub_i64, D_mul_i64, D_add_u32, D_sub_u32, D_mul_u32, D_add_u8, D_sub_u8, D_mul_u8, D_eql, D_neq, D_lss, D_leq, D_gtr, D_geq, D_not, D_conv, D_eqs, D_call, D_cond, D_need, D_idx, D_sel, D_upd, D_shv, D_beq, D_len, D_byte, D_cut, D_cat, D_must, List.map_cons, List.map_nil, Ref.den] at hd
                          obtain ⟨f15, f16, f17, f18, f19, f20, f21, f22, f23, f24, f25, f26, f27, f28, f29, f30, f31, -⟩ := hd
                          have q0 : ρ 0 = a0 := hρ 0 (by decide)
                          have q1 : ρ 1 = a1 := hρ 1 (by decide)
                          have q2 : ρ 2 = a2 := hρ 2 (by decide)
                          have q3 : ρ 3 = a3 := hρ 3 (by decide)
                          have q4 : ρ 4 = a4 := hρ 4 (by decide)
                          have q5 : ρ 5 = a5 := hρ 5 (by decide)
                          have q6 : ρ 6 = a6 := hρ 6 (by decide)
                          have q7 : ρ 7 = a7 := hρ 7 (by decide)
                          have q8 : ρ 8 = a8 := hρ 8 (by decide)
                          have q9 : ρ 9 = a9 := hρ 9 (by decide)
                          have q10 : ρ 10 = a10 := hρ 10 (by decide)
                          have q11 : ρ 11 = a11 := hρ 11 (by decide)
                          have q12 : ρ 12 = a12 := hρ 12 (by decide)
                          have q14 : ρ 14 = a14 := hρ 14 (by decide)
                          have q15 : ρ 15 = (b2i (decide (0 ≤ a0))) := b2i_dec f15 (by simp only [q0])
                          have q16 : ρ 16 = (b2i (decide (a0 < 8))) := b2i_dec f16 (by simp only [q0])
                          have q17 : ρ 17 = (b2i (!(decide (a0 < 8)))) := b2i_not f17 q16
                          have q18 : ρ 18 = (b2i (decide (a1 < 1))) := b2i_dec f18 (by simp only [q1])
                          have q19 : ρ 19 = (b2i (decide (1099511627776 < a1))) := b2i_dec f19 (by simp only [q1])
                          have q20 : ρ 20 = (b2i (goodB [a2, a3, a4, a5, a6, a7, a8, a9])) := by
                              have t := f20 0 (by decide)
                              simp only [q2, q3, q4, q5, q6, q7, q8, q9] at t
                              exact t
                          have q21 : ρ 21 = (b2i (!(goodB [a2, a3, a4, a5, a6, a7, a8, a9]))) := b2i_not f21 q20
                          have q22 : ρ 22 = ([a2, a3, a4, a5, a6, a7, a8, a9].getD (a0).toNat 0) := by rw [f22, q2, q3, q4, q5, q6, q7, q8, q9, q0]
                          have q23 : ρ 23 = (IntKind.i64.wrap (a1 - 1)) := by rw [f23, q1]
                          have q24 : ρ 24 = (b2i (decide (([a2, a3, a4, a5, a6, a7, a8, a9].getD (a0).toNat 0) ≠ (IntKind.i64.wrap (a1 - 1))))) := b2i_dec f24 (by simp only [q22, q23])
                          have q25 : ρ 25 = (b2i (decide (a14 < 0))) := b2i_dec f25 (by simp only [q14])
                          have q26 : ρ 26 = (b2i (decide (1099511627776 < a14))) := b2i_dec f26 (by simp only [q14])
                          have q27 : ρ 27 = (b2i (nameB (decZ a11))) := by
                              have t := f27 0 (by decide)
                              simp only [q11] at t
                              exact t
                          have q28 : ρ 28 = (b2i (!(nameB (decZ a11)))) := b2i_not f28 q27
                          have q29 : ρ 29 = (b2i (decide (a10 = 1))) := b2i_dec f29 (by simp only [q10])
                          have q30 : ρ 30 = (b2i (decide (a10 = 2))) := b2i_dec f30 (by simp only [q10])
                          have q31 : ρ 31 = (b2i (decide (a12 = 0))) := b2i_dec f31 (by simp only [q12])
                          refine ⟨?_, ?_⟩
                          · simp only [G_nil, G_bin, G_cmp, G_not, G_conv, G_eqs, G_call, G_cond, G_need, G_idx, G_sel, G_upd, G_shv, G_beq, G_prim, G_byte, G_cut, G_cat, List.map_cons, List.map_nil, Ref.den]
                            exact ⟨b2i_cond q15 (by simp only [c0, decide_true, decide_false, Bool.and_true, Bool.true_and, Bool.and_false, Bool.false_and, Bool.or_true, Bool.true_or, Bool.or_false, Bool.false_or, Bool.not_true, Bool.not_false, if_true, if_false, Bool.false_eq_true]), b2i_cond q17 (by simp only [c1, decide_true, decide_false, Bool.and_true, Bool.true_and, Bool.and_false, Bool.false_and, Bool.or_true, Bool.true_or, Bool.or_false, Bool.false_or, Bool.not_true, Bool.not_false, if_true, if_false, Bool.false_eq_true]), b2i_cond q18 (by simp only [c2, decide_true, decide_false, Bool.and_true, Bool.true_and, Bool.and_false, Bool.false_and, Bool.or_true, Bool.true_or, Bool.or_false, Bool.false_or, Bool.not_true, Bool.not_false, if_true, if_false, Bool.false_eq_true]), b2i_cond q19 (by simp only [c3, decide_true, decide_false, Bool.and_true, Bool.true_and, Bool.and_false, Bool.false_and, Bool.or_true, Bool.true_or, Bool.or_false, Bool.false_or, Bool.not_true, Bool.not_false, if_true, if_false, Bool.false_eq_true]), trivial, b2i_cond q21 (by simp only [c4, decide_true, decide_false, Bool.and_true, Bool.true_and, Bool.and_false, Bool.false_and, Bool.or_true, Bool.true_or, Bool.or_false, Bool.false_or, Bool.not_true, Bool.not_false, if_true, if_false, Bool.false_eq_true]), ⟨by rw [q0]; exact of_decide_eq_true (by assumption), by rw [q0]; exact of_decide_eq_true (by assumption)⟩, b2i_cond q24 (by simp only [c5, decide_true, decide_false, Bool.and_true, Bool.true_and, Bool.and_false, Bool.false_and, Bool.or_true, Bool.true_or, Bool.or_false, Bool.false_or, Bool.not_true, Bool.not_false, if_true, if_false, Bool.false_eq_true]), b2i_cond q25 (by simp only [c6, decide_true, decide_false, Bool.and_true, Bool.true_and, Bool.and_false, Bool.false_and, Bool.or_true, Bool.true_or, Bool.or_false, Bool.false_or, Bool.not_true, Bool.not_false, if_true, if_false, Bool.false_eq_true]), b2i_cond q26 (by simp only [c7, decide_true, decide_false, Bool.and_true, Bool.true_and, Bool.and_false, Bool.false_and, Bool.or_true, Bool.true_or, Bool.or_false, Bool.false_or, Bool.not_true, Bool.not_false, if_true, if_false, Bool.false_eq_true]), by show (decZ (ρ 11)).length ≤ 1000000; rw [q11]; omega, b2i_cond q28 (by simp only [c8, decide_true, decide_false, Bool.and_true, Bool.true_and, Bool.and_false, Bool.false_and, Bool.or_true, Bool.true_or, Bool.or_false, Bool.false_or, Bool.not_true, Bool.not_false, if_true, if_false, Bool.false_eq_true]), b2i_cond q29 (by simp only [c9, decide_true, decide_false, Bool.and_true, Bool.true_and, Bool.and_false, Bool.false_and, Bool.or_true, Bool.true_or, Bool.or_false, Bool.false_or, Bool.not_true, Bool.not_false, if_true, if_false, Bool.false_eq_true]), b2i_cond q30 (by simp only [c10, decide_true, decide_false, Bool.and_true, Bool.true_and, Bool.and_false, Bool.false_and, Bool.or_true, Bool.true_or, Bool.or_false, Bool.false_or, Bool.not_true, Bool.not_false, if_true, if_false, Bool.false_eq_true]), b2i_cond q31 (by simp only [c11, decide_true, decide_false, Bool.and_true, Bool.true_and, Bool.and_false, Bool.false_and, Bool.or_true, Bool.true_or, Bool.or_false, Bool.false_or, Bool.not_true, Bool.not_false, if_true, if_false, Bool.false_eq_true]), trivial⟩
                          · show [0] = [b2i (goodE [a0, a1, a2, a3, a4, a5, a6, a7, a8, a9, a10, a11, a12, a13, a14])]
                            rw [show goodE [a0, a1, a2, a3, a4, a5, a6, a7, a8, a9, a10, a11, a12, a13, a14] = false by simp only [goodE, c0, c1, c2, c3, c4, c5, c6, c7, c8, c9, c10, c11, decide_true, decide_false, Bool.and_true, Bool.true_and, Bool.and_false, Bool.false_and, Bool.or_true, Bool.true_or, Bool.or_false, Bool.false_or, Bool.not_true, Bool.not_false, if_true, if_false, Bool.false_eq_true]]; rfl
                        · refine Go.Sx.Way.of (dec := [true, false, false, false, false, false, false, false, false, false, true, true]) (fs := [.cmp 15 .geq (.v 0) (.l 0), .cond 15 true, .cmp 16 .lss (.v 0) (.l 8), .not 17 (.v 16), .cond 17 false, .cmp 18 .lss (.v 1) (.l 1), .cond 18 false, .cmp 19 .gtr (.v 1) (.l 1099511627776), .cond 19 false, .need 4 [[.v 2, .v 3, .v 4, .v 5, .v 6, .v 7, .v 8, .v 9]], .call 20 4 [[.v 2, .v 3, .v 4, .v 5, .v 6, .v 7, .v 8, .v 9]] 1, .not 21 (.v 20), .cond 21 false, .idx 0 8, .sel 22 [.v 2, .v 3, .v 4, .v 5, .v 6, .v 7, .v 8, .v 9] 0, .bin 23 .sub .i64 (.v 1) (.l 1), .cmp 24 .neq (.v 22) (.v 23), .cond 24 false, .cmp 25 .lss (.v 14) (.l 0), .cond 25 false, .cmp 26 .gtr (.v 14) (.l 1099511627776), .cond 26 false, .need 5 [[.v 11]], .call 27 5 [[.v 11]] 1, .not 28 (.v 27), .cond 28 false, .cmp 29 .eql (.v 10) (.l 1), .cond 29 false, .cmp 30 .eql (.v 10) (.l 2), .cond 30 true, .cmp 31 .eql (.v 12) (.l 0), .cond 31 true, .cmp 32 .eql (.v 13) (.l 0)]) (refs := [.v 32]) (by kernel_rfl) fun ρ hρ hd => ?_
                          simp only [D_nil, D_add, D_sub, D_mul, D_and, D_or, D_xor, D_shl, D_shr, D_andNot, D_quo, D_rem, D_add_i64, D_sub_i64, D_mul_i64, D_add_u32, D_sub_u32, D_mul_u32, D_add_u8, D_sub_u8, D_mul_u8, D_eql, D_neq, D_lss, D_leq, D_gtr, D_geq, D_not, D_conv, D_eqs, D_call, D_cond, D_need, D_idx, D_sel, D_upd, D_shv, D_beq, D_len, D_byte, D_cut, D_cat, D_must, List.map_cons, List.map_nil, Ref.den] at hd
                          obtain ⟨f15, f16, f17, f18, f19, f20, f21, f22, f23, f24, f25, f26, f27, f28, f29, f30, f31, f32, -⟩ := hd
                          have q0 : ρ 0 = a0 := hρ 0 (by decide)
                          have q1 : ρ 1 = a1 := hρ 1 (by decide)
                          have q2 : ρ 2 = a2 := hρ 2 (by decide)
                          have q3 : ρ 3 = a3 := hρ 3 (by decide)
                          have q4 : ρ 4 = a4 := hρ 4 (by decide)
                          have q5 : ρ 5 = a5 := hρ 5 (by decide)
                          have q6 : ρ 6 = a6 := hρ 6 (by decide)
                          have q7 : ρ 7 = a7 := hρ 7 (by decide)
                          have q8 : ρ 8 = a8 := hρ 8 (by decide)
                          have q9 : ρ 9 = a9 := hρ 9 (by decide)
                          have q10 : ρ 10 = a10 := hρ 10 (by decide)
                          have q11 : ρ 11 = a11 := hρ 11 (by decide)
                          have q12 : ρ 12 = a12 := hρ 12 (by decide)
                          have q13 : ρ 13 = a13 := hρ 13 (by decide)
                          have q14 : ρ 14 = a14 := hρ 14 (by decide)
                          have q15 : ρ 15 = (b2i (decide (0 ≤ a0))) := b2i_dec f15 (by simp only [q0])
                          have q16 : ρ 16 = (b2i (decide (a0 < 8))) := b2i_dec f16 (by simp only [q0])
                          have q17 : ρ 17 = (b2i (!(decide (a0 < 8)))) := b2i_not f17 q16
                          have q18 : ρ 18 = (b2i (decide (a1 < 1))) := b2i_dec f18 (by simp only [q1])
                          have q19 : ρ 19 = (b2i (decide (1099511627776 < a1))) := b2i_dec f19 (by simp only [q1])
                          have q20 : ρ 20 = (b2i (goodB [a2, a3, a4, a5, a6, a7, a8, a9])) := by
                              have t := f20 0 (by decide)
                              simp only [q2, q3, q4, q5, q6, q7, q8, q9] at t
                              exact t
                          have q21 : ρ 21 = (b2i (!(goodB [a2, a3, a4, a5, a6, a7, a8, a9]))) := b2i_not f21 q20
                          have q22 : ρ 22 = ([a2, a3, a4, a5, a6, a7, a8, a9].getD (a0).toNat 0) := by rw [f22, q2, q3, q4, q5, q6, q7, q8, q9, q0]
                          have q23 : ρ 23 = (IntKind.i64.wrap (a1 - 1)) := by rw [f23, q1]
                          have q24 : ρ 24 = (b2i (decide (([a2, a3, a4, a5, a6, a7, a8, a9].getD (a0).toNat 0) ≠ (IntKind.i64.wrap (a1 - 1))))) := b2i_dec f24 (by simp only [q22, q23])
                          have q25 : ρ 25 = (b2i (decide (a14 < 0))) := b2i_dec f25 (by simp only [q14])
                          have q26 : ρ 26 = (b2i (decide (1099511627776 < a14))) := b2i_dec f26 (by simp only [q14])
                          have q27 : ρ 27 = (b2i (nameB (decZ a11))) := by
                              have t := f27 0 (by decide)
                              simp only [q11] at t
                              exact t
                          have q28 : ρ 28 = (b2i (!(nameB (decZ a11)))) := b2i_not f28 q27
                          have q29 : ρ 29 = (b2i (decide (a10 = 1))) := b2i_dec f29 (by simp only [q10])
                          have q30 : ρ 30 = (b2i (decide (a10 = 2))) := b2i_dec f30 (by simp only [q10])
                          have q31 : ρ 31 = (b2i (decide (a12 = 0))) := b2i_dec f31 (by simp only [q12])
                          have q32 : ρ 32 = (b2i (decide (a13 = 0))) := b2i_dec f32 (by simp only [q13])
                          refine ⟨?_, ?_⟩
                          · simp only [G_nil, G_bin, G_cmp, G_not, G_conv, G_eqs, G_call, G_cond, G_need, G_idx, G_sel, G_upd, G_shv, G_beq, G_prim, G_byte, G_cut, G_cat, List.map_cons, List.map_nil, Ref.den]
                            exact ⟨b2i_cond q15 (by simp only [c0, decide_true, decide_false, Bool.and_true, Bool.true_and, Bool.and_false, Bool.false_and, Bool.or_true, Bool.true_or, Bool.or_false, Bool.false_or, Bool.not_true, Bool.not_false, if_true, if_false, Bool.false_eq_true]), b2i_cond q17 (by simp only [c1, decide_true, decide_false, Bool.and_true, Bool.true_and, Bool.and_false, Bool.false_and, Bool.or_true, Bool.true_or, Bool.or_false, Bool.false_or, Bool.not_true, Bool.not_false, if_true, if_false, Bool.false_eq_true]), b2i_cond q18 (by simp only [c2, decide_true, decide_false, Bool.and_true, Bool.true_and, Bool.and_false, Bool.false_and, Bool.or_true, Bool.true_or, Bool.or_false, Bool.false_or, Bool.not_true, Bool.not_false, if_true, if_false, Bool.false_eq_true]), b2i_cond q19 (by simp only [c3, decide_true, decide_false, Bool.and_true, Bool.true_and, Bool.and_false, Bool.false_and, Bool.or_true, Bool.true_or, Bool.or_false, Bool.false_or, Bool.not_true, Bool.not_false, if_true, if_false, Bool.false_eq_true]), trivial, b2i_cond q21 (by simp only [c4, decide_true, decide_false, Bool.and_true, Bool.true_and, Bool.and_false, Bool.false_and, Bool.or_true, Bool.true_or, Bool.or_false, Bool.false_or, Bool.not_true, Bool.not_false, if_true, if_false, Bool.false_eq_true]), ⟨by rw [q0]; exact of_decide_eq_true (by assumption), by rw [q0]; exact of_decide_eq_true (by assumption)⟩, b2i_cond q24 (by simp only [c5, decide_true, decide_false, Bool.and_true, Bool.true_and, Bool.and_false, Bool.false_and, Bool.or_true, Bool.true_or, Bool.or_false, Bool.false_or, Bool.not_true, Bool.not_false, if_true, if_false, Bool.false_eq_true]), b2i_cond q25 (by simp only [c6, decide_true, decide_false, Bool.and_true, Bool.true_and, Bool.and_false, Bool.false_and, Bool.or_true, Bool.true_or, Bool.or_false, Bool.false_or, Bool.not_true, Bool.not_false, if_true, if_false, Bool.false_eq_true]), b2i_cond q26 (by simp only [c7, decide_true, decide_false, Bool.and_true, Bool.true_and, Bool.and_false, Bool.false_and, Bool.or_true, Bool.true_or, Bool.or_false, Bool.false_or, Bool.not_true, Bool.not_false, if_true, if_false, Bool.false_eq_true]), by show (decZ (ρ 11)).length ≤ 1000000; rw [q11]; omega, b2i_cond q28 (by simp only [c8, decide_true, decide_false, Bool.and_true, Bool.true_and, Bool.and_false, Bool.false_and, Bool.or_true, Bool.true_or, Bool.or_false, Bool.false_or, Bool.not_true, Bool.not_false, if_true, if_false, Bool.false_eq_true]), b2i_cond q29 (by simp only [c9, decide_true, decide_false, Bool.and_true, Bool.true_and, Bool.and_false, Bool.false_and, Bool.or_true, Bool.true_or, Bool.or_false, Bool.false_or, Bool.not_true, Bool.not_false, if_true, if_false, Bool.false_eq_true]), b2i_cond q30 (by simp only [c10, decide_true, decide_false, Bool.and_true, Bool.true_and, Bool.and_false, Bool.false_and, Bool.or_true, Bool.true_or, Bool.or_false, Bool.false_or, Bool.not_true, Bool.not_false, if_true, if_false, Bool.false_eq_true]), b2i_cond q31 (by simp only [c11, decide_true, decide_false, Bool.and_true, Bool.true_and, Bool.and_false, Bool.false_and, Bool.or_true, Bool.true_or, Bool.or_false, Bool.false_or, Bool.not_true, Bool.not_false, if_true, if_false, Bool.false_eq_true]), trivial⟩
                          · show [ρ 32] = [b2i (goodE [a0, a1, a2, a3, a4, a5, a6, a7, a8, a9, a10, a11, a12, a13, a14])]
                            rw [q32]
                            exact congrArg (fun b => [b2i b]) (by simp only [goodE, c0, c1, c2, c3, c4, c5, c6, c7, c8, c9, c10, c11, decide_true, decide_false, Bool.and_true, Bool.true_and, Bool.and_false, Bool.false_and, Bool.or_true, Bool.true_or, Bool.or_false, Bool.false_or, Bool.not_true, Bool.not_false, if_true, if_false, Bool.false_eq_true])
                    · cases c10 : nameB (decZ a12)
                      · refine Go.Sx.Way.of (dec := [true, false, false, false, false, false, false, false, false, true, false]) (fs := [.cmp 15 .geq (.v 0) (.l 0), .cond 15 true, .cmp 16 .lss (.v 0) (.l 8), .not 17 (.v 16), .cond 17 false, .cmp 18 .lss (.v 1) (.l 1), .cond 18 false, .cmp 19 .gtr (.v 1) (.l 1099511627776), .cond 19 false, .need 4 [[.v 2, .v 3, .v 4, .v 5, .v 6, .v 7, .v 8, .v 9]], .call 20 4 [[.v 2, .v 3, .v 4, .v 5, .v 6, .v 7, .v 8, .v 9]] 1, .not 21 (.v 20), .cond 21 false, .idx 0 8, .sel 22 [.v 2, .v 3, .v 4, .v 5, .v 6, .v 7, .v 8, .v 9] 0, .bin 23 .sub .i64 (.v 1) (.l 1), .cmp 24 .neq (.v 22) (.v 23), .cond 24 false, .cmp 25 .lss (.v 14) (.l 0), .cond 25 false, .cmp 26 .gtr (.v 14) (.l 1099511627776), .cond 26 false, .need 5 [[.v 11]], .call 27 5 [[.v 11]] 1, .not 28 (.v 27), .cond 28 false, .cmp 29 .eql (.v 10) (.l 1), .cond 29 true, .need 5 [[.v 12]], .call 30 5 [[.v 12]] 1, .cond 30 false]) (refs := [.l 0]) (by kernel_rfl) fun ρ hρ hd => ?_
                        simp only [D_nil, D_add, D_sub, D_mul, D_and, D_or, D_xor, D_shl, D_shr, D_andNot, D_quo, D_rem, D_add_i64, D_sub_i64, D_mul_i64, D_add_u32, D_sub_u32, D_mul_u32, D_add_u8, D_sub_u8, D_mul_u8, D_eql, D_neq, D_lss, D_leq, D_gtr, D_geq, D_not, D_conv, D_eqs, D_call, D_cond, D_need, D_idx, D_sel, D_upd, D_shv, D_beq, D_len, D_byte, D_cut, D_cat, D_must, List.map_cons, List.map_nil, Ref.den] at hd
                        obtain ⟨f15, f16, f17, f18, f19, f20, f21, f22, f23, f24, f25, f26, f27, f28, f29, f30, -⟩ := hd
                        have q0 : ρ 0 = a0 := hρ 0 (by decide)
                        have q1 : ρ 1 = a1 := hρ 1 (by decide)
                        have q2 : ρ 2 = a2 := hρ 2 (by decide)
                        have q3 : ρ 3 = a3 := hρ 3 (by decide)
                        have q4 : ρ 4 = a4 := hρ 4 (by decide)
                        have q5 : ρ 5 = a5 := hρ 5 (by decide)
                        have q6 : ρ 6 = a6 := hρ 6 (by decide)
                        have q7 : ρ 7 = a7 := hρ 7 (by decide)
                        have q8 : ρ 8 = a8 := hρ 8 (by decide)
                        have q9 : ρ 9 = a9 := hρ 9 (by decide)
                        have q10 : ρ 10 = a10 := hρ 10 (by decide)
                        have q11 : ρ 11 = a11 := hρ 11 (by decide)
                        have q12 : ρ 12 = a12 := hρ 12 (by decide)
                        have q14 : ρ 14 = a14 := hρ 14 (by decide)
                        have q15 : ρ 15 = (b2i (decide (0 ≤ a0))) := b2i_dec f15 (by simp only [q0])
                        have q16 : ρ 16 = (b2i (decide (a0 < 8))) := b2i_dec f16 (by simp only [q0])
                        have q17 : ρ 17 = (b2i (!(decide (a0 < 8)))) := b2i_not f17 q16
                        have q18 : ρ 18 = (b2i (decide (a1 < 1))) := b2i_dec f18 (by simp only [q1])
                        have q19 : ρ 19 = (b2i (decide (1099511627776 < a1))) := b2i_dec f19 (by simp only [q1])
                        have q20 : ρ 20 = (b2i (goodB [a2, a3, a4, a5, a6, a7, a8, a9])) := by
                            have t := f20 0 (by decide)
                            simp only [q2, q3, q4, q5, q6, q7, q8, q9] at t
                            exact t
                        have q21 : ρ 21 = (b2i (!(goodB [a2, a3, a4, a5, a6, a7, a8, a9]))) := b2i_not f21 q20
                        have q22 : ρ 22 = ([a2, a3, a4, a5, a6, a7, a8, a9].getD (a0).toNat 0) := by rw [f22, q2, q3, q4, q5, q6, q7, q8, q9, q0]
                        have q23 : ρ 23 = (IntKind.i64.wrap (a1 - 1)) := by rw [f23, q1]
                        have q24 : ρ 24 = (b2i (decide (([a2, a3, a4, a5, a6, a7, a8, a9].getD (a0).toNat 0) ≠ (IntKind.i64.wrap (a1 - 1))))) := b2i_dec f24 (by simp only [q22, q23])
                        have q25 : ρ 25 = (b2i (decide (a14 < 0))) := b2i_dec f25 (by simp only [q14])
                        have q26 : ρ 26 = (b2i (decide (1099511627776 < a14))) := b2i_dec f26 (by simp only [q14])
                        have q27 : ρ 27 = (b2i (nameB (decZ a11))) := by
                            have t := f27 0 (by decide)
                            simp only [q11] at t
                            exact t
                        have q28 : ρ 28 = (b2i (!(nameB (decZ a11)))) := b2i_not f28 q27
                        have q29 : ρ 29 = (b2i (decide (a10 = 1))) := b2i_dec f29 (by simp only [q10])
                        have q30 : ρ 30 = (b2i (nameB (decZ a12))) := by
                            have t := f30 0 (by decide)
                            simp only [q12] at t
                            exact t
                        refine ⟨?_, ?_⟩
                        · simp only [G_nil, G_bin, G_cmp, G_not, G_conv, G_eqs, G_call, G_cond, G_need, G_idx, G_sel, G_upd, G_shv, G_beq, G_prim, G_byte, G_cut, G_cat, List.map_cons, List.map_nil, Ref.den]
                          exact ⟨b2i_cond q15 (by simp only [c0, decide_true, decide_false, Bool.and_true, Bool.true_and, Bool.and_false, Bool.false_and, Bool.or_true, Bool.true_or, Bool.or_false, Bool.false_or, Bool.not_true, Bool.not_false, if_true, if_false, Bool.false_eq_true]), b2i_cond q17 (by simp only [c1, decide_true, decide_false, Bool.and_true, Bool.true_and, Bool.and_false, Bool.false_and, Bool.or_true, Bool.true_or, Bool.or_false, Bool.false_or, Bool.not_true, Bool.not_false, if_true, if_false, Bool.false_eq_true]), b2i_cond q18 (by simp only [c2, decide_true, decide_false, Bool.and_true, Bool.true_and, Bool.and_false, Bool.false_and, Bool.or_true, Bool.true_or, Bool.or_false, Bool.false_or, Bool.not_true, Bool.not_false, if_true, if_false, Bool.false_eq_true]), b2i_cond q19 (by simp only [c3, decide_true, decide_false, Bool.and_true, Bool.true_and, Bool.and_false, Bool.false_and, Bool.or_true, Bool.true_or, Bool.or_false, Bool.false_or, Bool.not_true, Bool.not_false, if_true, if_false, Bool.false_eq_true]), trivial, b2i_cond q21 (by simp only [c4, decide_true, decide_false, Bool.and_true, Bool.true_and, Bool.and_false, Bool.false_and, Bool.or_true, Bool.true_or, Bool.or_false, Bool.false_or, Bool.not_true, Bool.not_false, if_true, if_false, Bool.false_eq_true]), ⟨by rw [q0]; exact of_decide_eq_true (by assumption), by rw [q0]; exact of_decide_eq_true (by assumption)⟩, b2i_cond q24 (by simp only [c5, decide_true, decide_false, Bool.and_true, Bool.true_and, Bool.and_false, Bool.false_and, Bool.or_true, Bool.true_or, Bool.or_false, Bool.false_or, Bool.not_true, Bool.not_false, if_true, if_false, Bool.false_eq_true]), b2i_cond q25 (by simp only [c6, decide_true, decide_false, Bool.and_true, Bool.true_and, Bool.and_false, Bool.false_and, Bool.or_true, Bool.true_or, Bool.or_false, Bool.false_or, Bool.not_true, Bool.not_false, if_true, if_false, Bool.false_eq_true]), b2i_cond q26 (by simp only [c7, decide_true, decide_false, Bool.and_true, Bool.true_and, Bool.and_false, Bool.false_and, Bool.or_true, Bool.true_or, Bool.or_false, Bool.false_or, Bool.not_true, Bool.not_false, if_true, if_false, Bool.false_eq_true]), by show (decZ (ρ 11)).length ≤ 1000000; rw [q11]; omega, b2i_cond q28 (by simp only [c8, decide_true, decide_false, Bool.and_true, Bool.true_and, Bool.and_false, Bool.false_and, Bool.or_true, Bool.true_or, Bool.or_false, Bool.false_or, Bool.not_true, Bool.not_false, if_true, if_false, Bool.false_eq_true]), b2i_cond q29 (by simp only [c9, decide_true, decide_false, Bool.and_true, Bool.true_and, Bool.and_false, Bool.false_and, Bool.or_true, Bool.true_or, Bool.or_false, Bool.false_or, Bool.not_true, Bool.not_false, if_true, if_false, Bool.false_eq_true]), by show (decZ (ρ 12)).length ≤ 1000000; rw [q12]; omega, b2i_cond q30 (by simp only [c10, decide_true, decide_false, Bool.and_true, Bool.true_and, Bool.and_false, Bool.false_and, Bool.or_true, Bool.true_or, Bool.or_false, Bool.false_or, Bool.not_true, Bool.not_false, if_true, if_false, Bool.false_eq_true]), trivial⟩
                        · show [0] = [b2i (goodE [a0, a1, a2, a3, a4, a5, a6, a7, a8, a9, a10, a11, a12, a13, a14])]
                          rw [show goodE [a0, a1, a2, a3, a4, a5, a6, a7, a8, a9, a10, a11, a12, a13, a14] = false by simp only [goodE, c0, c1, c2, c3, c4, c5, c6, c7, c8, c9, c10, decide_true, decide_false, Bool.and_true, Bool.true_and, Bool.and_false, Bool.false_and, Bool.or_true, Bool.true_or, Bool.or_false, Bool.false_or, Bool.not_true, Bool.not_false, if_true, if_false, Bool.false_eq_true]]; rfl
                      · refine Go.Sx.Way.of (dec := [true, false, false, false, false, false, false, false, false, true, true]) (fs := [.cmp 15 .geq (.v 0) (.l 0), .cond 15 true, .cmp 16 .lss (.v 0) (.l 8), .not 17 (.v 16), .cond 17 false, .cmp 18 .lss (.v 1) (.l 1), .cond 18 false, .cmp 19 .gtr (.v 1) (.l 1099511627776), .cond 19 false, .need 4 [[.v 2, .v 3, .v 4, .v 5, .v 6, .v 7, .v 8, .v 9]], .call 20 4 [[.v 2, .v 3, .v 4, .v 5, .v 6, .v 7, .v 8, .v 9]] 1, .not 21 (.v 20), .cond 21 false, .idx 0 8, .sel 22 [.v 2, .v 3, .v 4, .v 5, .v 6, .v 7, .v 8, .v 9] 0, .bin 23 .sub .i64 (.v 1) (.l 1), .cmp 24 .neq (.v 22) (.v 23), .cond 24 false, .cmp 25 .lss (.v 14) (.l 0), .cond 25 false, .cmp 26 .gtr (.v 14) (.l 1099511627776), .cond 26 false, .need 5 [[.v 11]], .call 27 5 [[.v 11]] 1, .not 28 (.v 27), .cond 28 false, .cmp 29 .eql (.v 10) (.l 1), .cond 29 true, .need 5 [[.v 12]], .call 30 5 [[.v 12]] 1, .cond 30 true, .prim 31 0 [.v 13], .cmp 32 .leq (.v 31) (.l 200)]) (refs := [.v 32]) (by kernel_rfl) fun ρ hρ hd => ?_
                        simp only [D_nil, D_add, D_sub, D_mul, D_and, D_or, D_xor, D_shl, D_shr, D_andNot, D_quo, D_rem, D_add_i64, D_sub_i64, D_mul_i64, D_add_u32, D_sub_u32, D_mul_u32, D_add_u8, D_sub_u8, D_mul_u8, D_eql, D_neq, D_lss, D_leq, D_gtr, D_geq, D_not, D_conv, D_eqs, D_call, D_cond, D_need, D_idx, D_sel, D_upd, D_shv, D_beq, D_len, D_byte, D_cut, D_cat, D_must, List.map_cons, List.map_nil, Ref.den] at hd
                        obtain ⟨f15, f16, f17, f18, f19, f20, f21, f22, f23, f24, f25, f26, f27, f28, f29, f30, f31, f32, -⟩ := hd
                        have q0 : ρ 0 = a0 := hρ 0 (by decide)
                        have q1 : ρ 1 = a1 := hρ 1 (by decide)
                        have q2 : ρ 2 = a2 := hρ 2 (by decide)
                        have q3 : ρ 3 = a3 := hρ 3 (by decide)
                        have q4 : ρ 4 = a4 := hρ 4 (by decide)
                        have q5 : ρ 5 = a5 := hρ 5 (by decide)
                        have q6 : ρ 6 = a6 := hρ 6 (by decide)
                        have q7 : ρ 7 = a7 := hρ 7 (by decide)
                        have q8 : ρ 8 = a8 := hρ 8 (by decide)
                        have q9 : ρ 9 = a9 := hρ 9 (by decide)
                        have q10 : ρ 10 = a10 := hρ 10 (by decide)
                        have q11 : ρ 11 = a11 := hρ 11 (by decide)
                        have q12 : ρ 12 = a12 := hρ 12 (by decide)
                        have q13 : ρ 13 = a13 := hρ 13 (by decide)
                        have q14 : ρ 14 = a14 := hρ 14 (by decide)
                        have q15 : ρ 15 = (b2i (decide (0 ≤ a0))) := b2i_dec f15 (by simp only [q0])
                        have q16 : ρ 16 = (b2i (decide (a0 < 8))) := b2i_dec f16 (by simp only [q0])
                        have q17 : ρ 17 = (b2i (!(decide (a0 < 8)))) := b2i_not f17 q16
                        have q18 : ρ 18 = (b2i (decide (a1 < 1))) := b2i_dec f18 (by simp only [q1])
                        have q19 : ρ 19 = (b2i (decide (1099511627776 < a1))) := b2i_dec f19 (by simp only [q1])
                        have q20 : ρ 20 = (b2i (goodB [a2, a3, a4, a5, a6, a7, a8, a9])) := by
                            have t := f20 0 (by decide)
                            simp only [q2, q3, q4, q5, q6, q7, q8, q9] at t
                            exact t
                        have q21 : ρ 21 = (b2i (!(goodB [a2, a3, a4, a5, a6, a7, a8, a9]))) := b2i_not f21 q20
                        have q22 : ρ 22 = ([a2, a3, a4, a5, a6, a7, a8, a9].getD (a0).toNat 0) := by rw [f22, q2, q3, q4, q5, q6, q7, q8, q9, q0]
                        have q23 : ρ 23 = (IntKind.i64.wrap (a1 - 1)) := by rw [f23, q1]
                        have q24 : ρ 24 = (b2i (decide (([a2, a3, a4, a5, a6, a7, a8, a9].getD (a0).toNat 0) ≠ (IntKind.i64.wrap (a1 - 1))))) := b2i_dec f24 (by simp only [q22, q23])
                        have q25 : ρ 25 = (b2i (decide (a14 < 0))) := b2i_dec f25 (by simp only [q14])
                        have q26 : ρ 26 = (b2i (decide (1099511627776 < a14))) := b2i_dec f26 (by simp only [q14])
                        have q27 : ρ 27 = (b2i (nameB (decZ a11))) := by
                            have t := f27 0 (by decide)
                            simp only [q11] at t
                            exact t
                        have q28 : ρ 28 = (b2i (!(nameB (decZ a11)))) := b2i_not f28 q27
                        have q29 : ρ 29 = (b2i (decide (a10 = 1))) := b2i_dec f29 (by simp only [q10])
                        have q30 : ρ 30 = (b2i (nameB (decZ a12))) := by
                            have t := f30 0 (by decide)
                            simp only [q12] at t
                            exact t
                        have q31 : ρ 31 = ((decZ a13).length : Int) := by rw [f31, q13]
                        have q32 : ρ 32 = (b2i (decide (((decZ a13).length : Int) ≤ 200))) := b2i_dec f32 (by simp only [q31])
                        refine ⟨?_, ?_⟩
                        · simp only [G_nil, G_bin, G_cmp, G_not, G_conv, G_eqs, G_call, G_cond, G_need, G_idx, G_sel, G_upd, G_shv, G_beq, G_prim, G_byte, G_cut, G_cat, List.map_cons, List.map_nil, Ref.den]
                          exact ⟨b2i_cond q15 (by simp only [c0, decide_true, decide_false, Bool.and_true, Bool.true_and, Bool.and_false, Bool.false_and, Bool.or_true, Bool.true_or, Bool.or_false, Bool.false_or, Bool.not_true, Bool.not_false, if_true, if_false, Bool.false_eq_true]), b2i_cond q17 (by simp only [c1, decide_true, decide_false, Bool.and_true, Bool.true_and, Bool.and_false, Bool.false_and, Bool.or_true, Bool.true_or, Bool.or_false, Bool.false_or, Bool.not_true, Bool.not_false, if_true, if_false, Bool.false_eq_true]), b2i_cond q18 (by simp only [c2, decide_true, decide_false, Bool.and_true, Bool.true_and, Bool.and_false, Bool.false_and, Bool.or_true, Bool.true_or, Bool.or_false, Bool.false_or, Bool.not_true, Bool.not_false, if_true, if_false, Bool.false_eq_true]), b2i_cond q19 (by simp only [c3, decide_true, decide_false, Bool.and_true, Bool.true_and, Bool.and_false, Bool.false_and, Bool.or_true, Bool.true_or, Bool.or_false, Bool.false_or, Bool.not_true, Bool.not_false, if_true, if_false, Bool.false_eq_true]), trivial, b2i_cond q21 (by simp only [c4, decide_true, decide_false, Bool.and_true, Bool.true_and, Bool.and_false, Bool.false_and, Bool.or_true, Bool.true_or, Bool.or_false, Bool.false_or, Bool.not_true, Bool.not_false, if_true, if_false, Bool.false_eq_true]), ⟨by rw [q0]; exact of_decide_eq_true (by assumption), by rw [q0]; exact of_decide_eq_true (by assumption)⟩, b2i_cond q24 (by simp only [c5, decide_true, decide_false, Bool.and_true, Bool.true_and, Bool.and_false, Bool.false_and, Bool.or_true, Bool.true_or, Bool.or_false, Bool.false_or, Bool.not_true, Bool.not_false, if_true, if_false, Bool.false_eq_true]), b2i_cond q25 (by simp only [c6, decide_true, decide_false, Bool.and_true, Bool.true_and, Bool.and_false, Bool.false_and, Bool.or_true, Bool.true_or, Bool.or_false, Bool.false_or, Bool.not_true, Bool.not_false, if_true, if_false, Bool.false_eq_true]), b2i_cond q26 (by simp only [c7, decide_true, decide_false, Bool.and_true, Bool.true_and, Bool.and_false, Bool.false_and, Bool.or_true, Bool.true_or, Bool.or_false, Bool.false_or, Bool.not_true, Bool.not_false, if_true, if_false, Bool.false_eq_true]), by show (decZ (ρ 11)).length ≤ 1000000; rw [q11]; omega, b2i_cond q28 (by simp only [c8, decide_true, decide_false, Bool.and_true, Bool.true_and, Bool.and_false, Bool.false_and, Bool.or_true, Bool.true_or, Bool.or_false, Bool.false_or, Bool.not_true, Bool.not_false, if_true, if_false, Bool.false_eq_true]), b2i_cond q29 (by simp only [c9, decide_true, decide_false, Bool.and_true, Bool.true_and, Bool.and_false, Bool.false_and, Bool.or_true, Bool.true_or, Bool.or_false, Bool.false_or, Bool.not_true, Bool.not_false, if_true, if_false, Bool.false_eq_true]), by show (decZ (ρ 12)).length ≤ 1000000; rw [q12]; omega, b2i_cond q30 (by simp only [c10, decide_true, decide_false, Bool.and_true, Bool.true_and, Bool.and_false, Bool.false_and, Bool.or_true, Bool.true_or, Bool.or_false, Bool.false_or, Bool.not_true, Bool.not_false, if_true, if_false, Bool.false_eq_true]), trivial⟩
                        · show [ρ 32] = [b2i (goodE [a0, a1, a2, a3, a4, a5, a6, a7, a8, a9, a10, a11, a12, a13, a14])]
                          rw [q32]
                          exact congrArg (fun b => [b2i b]) (by simp only [goodE, c0, c1, c2, c3, c4, c5, c6, c7, c8, c9, c10, decide_true, decide_false, Bool.and_true, Bool.true_and, Bool.and_false, Bool.false_and, Bool.or_true, Bool.true_or, Bool.or_false, Bool.false_or, Bool.not_true, Bool.not_false, if_true, if_false, Bool.false_eq_true])
                · refine Go.Sx.Way.of (dec := [true, false, false, false, false, false, false, true]) (fs := [.cmp 15 .geq (.v 0) (.l 0), .cond 15 true, .cmp 16 .lss (.v 0) (.l 8), .not 17 (.v 16), .cond 17 false, .cmp 18 .lss (.v 1) (.l 1), .cond 18 false, .cmp 19 .gtr (.v 1) (.l 1099511627776), .cond 19 false, .need 4 [[.v 2, .v 3, .v 4, .v 5, .v 6, .v 7, .v 8, .v 9]], .call 20 4 [[.v 2, .v 3, .v 4, .v 5, .v 6, .v 7, .v 8, .v 9]] 1, .not 21 (.v 20), .cond 21 false, .idx 0 8, .sel 22 [.v 2, .v 3, .v 4, .v 5, .v 6, .v 7, .v 8, .v 9] 0, .bin 23 .sub .i64 (.v 1) (.l 1), .cmp 24 .neq (.v 22) (.v 23), .cond 24 false, .cmp 25 .lss (.v 14) (.l 0), .cond 25 false, .cmp 26 .gtr (.v 14) (.l 1099511627776), .cond 26 true]) (refs := [.l 0]) (by kernel_rfl) fun ρ hρ hd => ?_
                  simp only [D_nil, D_add, D_sub, D_mul, D_and, D_or, D_xor, D_shl, D_shr, D_andNot, D_quo, D_rem, D_add_i64, D_sub_i64, D_mul_i64, D_add_u32, D_sub_u32, D_mul_u32, D_add_u8, D_sub_u8, D_mul_u8, D_eql, D_neq, D_lss, D_leq, D_gtr, D_geq, D_not, D_conv, D_eqs, D_call, D_cond, D_need, D_idx, D_sel, D_upd, D_shv, D_beq, D_len, D_byte, D_cut, D_cat, D_must, List.map_cons, List.map_nil, Ref.den] at hd
                  obtain ⟨f15, f16, f17, f18, f19, f20, f21, f22, f23, f24, f25, f26, -⟩ := hd
                  have q0 : ρ 0 = a0 := hρ 0 (by decide)
                  have q1 : ρ 1 = a1 := hρ 1 (by decide)
                  have q2 : ρ 2 = a2 := hρ 2 (by decide)
                  have q3 : ρ 3 = a3 := hρ 3 (by decide)
                  have q4 : ρ 4 = a4 := hρ 4 (by decide)
                  have q5 : ρ 5 = a5 := hρ 5 (by decide)
                  have q6 : ρ 6 = a6 := hρ 6 (by decide)
                  have q7 : ρ 7 = a7 := hρ 7 (by decide)
                  have q8 : ρ 8 = a8 := hρ 8 (by decide)
                  have q9 : ρ 9 = a9 := hρ 9 (by decide)
                  have q14 : ρ 14 = a14 := hρ 14 (by decide)
                  have q15 : ρ 15 = (b2i (decide (0 ≤ a0))) := b2i_dec f15 (by simp only [q0])
                  have q16 : ρ 16 = (b2i (decide (a0 < 8))) := b2i_dec f16 (by simp only [q0])
                  have q17 : ρ 17 = (b2i (!(decide (a0 < 8)))) := b2i_not f17 q16
                  have q18 : ρ 18 = (b2i (decide (a1 < 1))) := b2i_dec f18 (by simp only [q1])
                  have q19 : ρ 19 = (b2i (decide (1099511627776 < a1))) := b2i_dec f19 (by simp only [q1])
                  have q20 : ρ 20 = (b2i (goodB [a2, a3, a4, a5, a6, a7, a8, a9])) := by
                      have t := f20 0 (by decide)
                      simp only [q2, q3, q4, q5, q6, q7, q8, q9] at t
                      exact t
                  have q21 : ρ 21 = (b2i (!(goodB [a2, a3, a4, a5, a6, a7, a8, a9]))) := b2i_not f21 q20
                  have q22 : ρ 22 = ([a2, a3, a4, a5, a6, a7, a8, a9].getD (a0).toNat 0) := by rw [f22, q2, q3, q4, q5, q6, q7, q8, q9, q0]
                  have q23 : ρ 23 = (IntKind.i64.wrap (a1 - 1)) := by rw [f23, q1]
                  have q24 : ρ 24 = (b2i (decide (([a2, a3, a4, a5, a6, a7, a8, a9].getD (a0).toNat 0) ≠ (IntKind.i64.wrap (a1 - 1))))) := b2i_dec f24 (by simp only [q22, q23])
                  have q25 : ρ 25 = (b2i (decide (a14 < 0))) := b2i_dec f25 (by simp only [q14])
                  have q26 : ρ 26 = (b2i (decide (1099511627776 < a14))) := b2i_dec f26 (by simp only [q14])
                  refine ⟨?_, ?_⟩
                  · simp only [G_nil, G_bin, G_cmp, G_not, G_conv, G_eqs, G_call, G_cond, G_need, G_idx, G_sel, G_upd, G_shv, G_beq, G_prim, G_byte, G_cut, G_cat, List.map_cons, List.map_nil, Ref.den]
                    exact ⟨b2i_cond q15 (by simp only [c0, decide_true, decide_false, Bool.and_true, Bool.true_and, Bool.and_false, Bool.false_and, Bool.or_true, Bool.true_or, Bool.or_false, Bool.false_or, Bool.not_true, Bool.not_false, if_true, if_false, Bool.false_eq_true]), b2i_cond q17 (by simp only [c1, decide_true, decide_false, Bool.and_true, Bool.true_and, Bool.and_false, Bool.false_and, Bool.or_true, Bool.true_or, Bool.or_false, Bool.false_or, Bool.not_true, Bool.not_false, if_true, if_false, Bool.false_eq_true]), b2i_cond q18 (by simp only [c2, decide_true, decide_false, Bool.and_true, Bool.true_and, Bool.and_false, Bool.false_and, Bool.or_true, Bool.true_or, Bool.or_false, Bool.false_or, Bool.not_true, Bool.not_false, if_true, if_false, Bool.false_eq_true]), b2i_cond q19 (by simp only [c3, decide_true, decide_false, Bool.and_true, Bool.true_and, Bool.and_false, Bool.false_and, Bool.or_true, Bool.true_or, Bool.or_false, Bool.false_or, Bool.not_true, Bool.not_false, if_true, if_false, Bool.false_eq_true]), trivial, b2i_cond q21 (by simp only [c4, decide_true, decide_false, Bool.and_true, Bool.true_and, Bool.and_false, Bool.false_and, Bool.or_true, Bool.true_or, Bool.or_false, Bool.false_or, Bool.not_true, Bool.not_false, if_true, if_false, Bool.false_eq_true]), ⟨by rw [q0]; exact of_decide_eq_true (by assumption), by rw [q0]; exact of_decide_eq_true (by assumption)⟩, b2i_cond q24 (by simp only [c5, decide_true, decide_false, Bool.and_true, Bool.true_and, Bool.and_false, Bool.false_and, Bool.or_true, Bool.true_or, Bool.or_false, Bool.false_or, Bool.not_true, Bool.not_false, if_true, if_false, Bool.false_eq_true]), b2i_cond q25 (by simp only [c6, decide_true, decide_false, Bool.and_true, Bool.true_and, Bool.and_false, Bool.false_and, Bool.or_true, Bool.true_or, Bool.or_false, Bool.false_or, Bool.not_true, Bool.not_false, if_true, if_false, Bool.false_eq_true]), b2i_cond q26 (by simp only [c7, decide_true, decide_false, Bool.and_true, Bool.true_and, Bool.and_false, Bool.false_and, Bool.or_true, Bool.true_or, Bool.or_false, Bool.false_or, Bool.not_true, Bool.not_false, if_true, if_false, Bool.false_eq_true]), trivial⟩
                  · show [0] = [b2i (goodE [a0, a1, a2, a3, a4, a5, a6, a7, a8, a9, a10, a11, a12, a13, a14])]
                    rw [show goodE [a0, a1, a2, a3, a4, a5, a6, a7, a8, a9, a10, a11, a12, a13, a14] = false by simp only [goodE, c0, c1, c2, c3, c4, c5, c6, c7, decide_true, decide_false, Bool.and_true, Bool.true_and, Bool.and_false, Bool.false_and, Bool.or_true, Bool.true_or, Bool.or_false, Bool.false_or, Bool.not_true, Bool.not_false, if_true, if_false, Bool.false_eq_true]]; rfl
              · refine Go.Sx.Way.of (dec := [true, false, false, false, false, false, true]) (fs := [.cmp 15 .geq (.v 0) (.l 0), .cond 15 true, .cmp 16 .lss (.v 0) (.l 8), .not 17 (.v 16), .cond 17 false, .cmp 18 .lss (.v 1) (.l 1), .cond 18 false, .cmp 19 .gtr (.v 1) (.l 1099511627776), .cond 19 false, .need 4 [[.v 2, .v 3, .v 4, .v 5, .v 6, .v 7, .v 8, .v 9]], .call 20 4 [[.v 2, .v 3, .v 4, .v 5, .v 6, .v 7, .v 8, .v 9]] 1, .not 21 (.v 20), .cond 21 false, .idx 0 8, .sel 22 [.v 2, .v 3, .v 4, .v 5, .v 6, .v 7, .v 8, .v 9] 0, .bin 23 .sub .i64 (.v 1) (.l 1), .cmp 24 .neq (.v 22) (.v 23), .cond 24 false, .cmp 25 .lss (.v 14) (.l 0), .cond 25 true]) (refs := [.l 0]) (by kernel_rfl) fun ρ hρ hd => ?_
                simp only [D_nil, D_add, D_sub, D_mul, D_and, D_or, D_xor, D_shl, D_shr, D_andNot, D_quo, D_rem, D_add_i64, D_sub_i64, D_mul_i64, D_add_u32, D_sub_u32, D_mul_u32, D_add_u8, D_sub_u8, D_mul_u8, D_eql, D_neq, D_lss, D_leq, D_gtr, D_geq, D_not, D_conv, D_eqs, D_call, D_cond, D_need, D_idx, D_sel, D_upd, D_shv, D_beq, D_len, D_byte, D_cut, D_cat, D_must, List.map_cons, List.map_nil, Ref.den] at hd
                obtain ⟨f15, f16, f17, f18, f19, f20, f21, f22, f23, f24, f25, -⟩ := hd
                have q0 : ρ 0 = a0 := hρ 0 (by decide)
                have q1 : ρ 1 = a1 := hρ 1 (by decide)
                have q2 : ρ 2 = a2 := hρ 2 (by decide)
                have q3 : ρ 3 = a3 := hρ 3 (by decide)
                have q4 : ρ 4 = a4 := hρ 4 (by decide)
                have q5 : ρ 5 = a5 := hρ 5 (by decide)
                have q6 : ρ 6 = a6 := hρ 6 (by decide)
                have q7 : ρ 7 = a7 := hρ 7 (by decide)
                have q8 : ρ 8 = a8 := hρ 8 (by decide)
                have q9 : ρ 9 = a9 := hρ 9 (by decide)
                have q14 : ρ 14 = a14 := hρ 14 (by decide)
                have q15 : ρ 15 = (b2i (decide (0 ≤ a0))) := b2i_dec f15 (by simp only [q0])
                have q16 : ρ 16 = (b2i (decide (a0 < 8))) := b2i_dec f16 (by simp only [q0])
                have q17 : ρ 17 = (b2i (!(decide (a0 < 8)))) := b2i_not f17 q16
                have q18 : ρ 18 = (b2i (decide (a1 < 1))) := b2i_dec f18 (by simp only [q1])
                have q19 : ρ 19 = (b2i (decide (1099511627776 < a1))) := b2i_dec f19 (by simp only [q1])
                have q20 : ρ 20 = (b2i (goodB [a2, a3, a4, a5, a6, a7, a8, a9])) := by
                    have t := f20 0 (by decide)
                    simp only [q2, q3, q4, q5, q6, q7, q8, q9] at t
                    exact t
                have q21 : ρ 21 = (b2i (!(goodB [a2, a3, a4, a5, a6, a7, a8, a9]))) := b2i_not f21 q20
                have q22 : ρ 22 = ([a2, a3, a4, a5, a6, a7, a8, a9].getD (a0).toNat 0) := by rw [f22, q2, q3, q4, q5, q6, q7, q8, q9, q0]
                have q23 : ρ 23 = (IntKind.i64.wrap (a1 - 1)) := by rw [f23, q1]
                have q24 : ρ 24 = (b2i (decide (([a2, a3, a4, a5, a6, a7, a8, a9].getD (a0).toNat 0) ≠ (IntKind.i64.wrap (a1 - 1))))) := b2i_dec f24 (by simp only [q22, q23])
                have q25 : ρ 25 = (b2i (decide (a14 < 0))) := b2i_dec f25 (by simp only [q14])
                refine ⟨?_, ?_⟩
                · simp only [G_nil, G_bin, G_cmp, G_not, G_conv, G_eqs, G_call, G_cond, G_need, G_idx, G_sel, G_upd, G_shv, G_beq, G_prim, G_byte, G_cut, G_cat, List.map_cons, List.map_nil, Ref.den]
                  exact ⟨b2i_cond q15 (by simp only [c0, decide_true, decide_false, Bool.and_true, Bool.true_and, Bool.and_false, Bool.false_and, Bool.or_true, Bool.true_or, Bool.or_false, Bool.false_or, Bool.not_true, Bool.not_false, if_true, if_false, Bool.false_eq_true]), b2i_cond q17 (by simp only [c1, decide_true, decide_false, Bool.and_true, Bool.true_and, Bool.and_false, Bool.false_and, Bool.or_true, Bool.true_or, Bool.or_false, Bool.false_or, Bool.not_true, Bool.not_false, if_true, if_false, Bool.false_eq_true]), b2i_cond q18 (by simp only [c2, decide_true, decide_false, Bool.and_true, Bool.true_and, Bool.and_false, Bool.false_and, Bool.or_true, Bool.true_or, Bool.or_false, Bool.false_or, Bool.not_true, Bool.not_false, if_true, if_false, Bool.false_eq_true]), b2i_cond q19 (by simp only [c3, decide_true, decide_false, Bool.and_true, Bool.true_and, Bool.and_false, Bool.false_and, Bool.or_true, Bool.true_or, Bool.or_false, Bool.false_or, Bool.not_true, Bool.not_false, if_true, if_false, Bool.false_eq_true]), trivial, b2i_cond q21 (by simp only [c4, decide_true, decide_false, Bool.and_true, Bool.true_and, Bool.and_false, Bool.false_and, Bool.or_true, Bool.true_or, Bool.or_false, Bool.false_or, Bool.not_true, Bool.not_false, if_true, if_false, Bool.false_eq_true]), ⟨by rw [q0]; exact of_decide_eq_true (by assumption), by rw [q0]; exact of_decide_eq_true (by assumption)⟩, b2i_cond q24 (by simp only [c5, decide_true, decide_false, Bool.and_true, Bool.true_and, Bool.and_false, Bool.false_and, Bool.or_true, Bool.true_or, Bool.or_false, Bool.false_or, Bool.not_true, Bool.not_false, if_true, if_false, Bool.false_eq_true]), b2i_cond q25 (by simp only [c6, decide_true, decide_false, Bool.and_true, Bool.true_and, Bool.and_false, Bool.false_and, Bool.or_true, Bool.true_or, Bool.or_false, Bool.false_or, Bool.not_true, Bool.not_false, if_true, if_false, Bool.false_eq_true]), trivial⟩
                · show [0] = [b2i (goodE [a0, a1, a2, a3, a4, a5, a6, a7, a8, a9, a10, a11, a12, a13, a14])]
                  rw [show goodE [a0, a1, a2, a3, a4, a5, a6, a7, a8, a9, a10, a11, a12, a13, a14] = false by simp only [goodE, c0, c1, c2, c3, c4, c5, c6, decide_true, decide_false, Bool.and_true, Bool.true_and, Bool.and_false, Bool.false_and, Bool.or_true, Bool.true_or, Bool.or_false, Bool.false_or, Bool.not_true, Bool.not_false, if_true, if_false, Bool.false_eq_true]]; rfl
            · refine Go.Sx.Way.of (dec := [true, false, false, false, false, true]) (fs := [.cmp 15 .geq (.v 0) (.l 0), .cond 15 true, .cmp 16 .lss (.v 0) (.l 8), .not 17 (.v 16), .cond 17 false, .cmp 18 .lss (.v 1) (.l 1), .cond 18 false, .cmp 19 .gtr (.v 1) (.l 1099511627776), .cond 19 false, .need 4 [[.v 2, .v 3, .v 4, .v 5, .v 6, .v 7, .v 8, .v 9]], .call 20 4 [[.v 2, .v 3, .v 4, .v 5, .v 6, .v 7, .v 8, .v 9]] 1, .not 21 (.v 20), .cond 21 false, .idx 0 8, .sel 22 [.v 2, .v 3, .v 4, .v 5, .v 6, .v 7, .v 8, .v 9] 0, .bin 23 .sub .i64 (.v 1) (.l 1), .cmp 24 .neq (.v 22) (.v 23), .cond 24 true]) (refs := [.l 0]) (by kernel_rfl) fun ρ hρ hd => ?_
              simp only [D_nil, D_add, D_sub, D_mul, D_and, D_or, D_xor, D_shl, D_shr, D_andNot, D_quo, D_rem, D_add_i64, D_sub_i64, D_mul_i64, D_add_u32, D_sub_u32, D_mul_u32, D_add_u8, D_sub_u8, D_mul_u8, D_eql, D_neq, D_lss, D_leq, D_gtr, D_geq, D_not, D_conv, D_eqs, D_call, D_cond, D_need, D_idx, D_sel, D_upd, D_shv, D_beq, D_len, D_byte, D_cut, D_cat, D_must, List.map_cons, List.map_nil, Ref.den] at hd
              obtain ⟨f15, f16, f17, f18, f19, f20, f21, f22, f23, f24, -⟩ := hd
              have q0 : ρ 0 = a0 := hρ 0 (by decide)
              have q1 : ρ 1 = a1 := hρ 1 (by decide)
              have q2 : ρ 2 = a2 := hρ 2 (by decide)
              have q3 : ρ 3 = a3 := hρ 3 (by decide)
              have q4 : ρ 4 = a4 := hρ 4 (by decide)
              have q5 : ρ 5 = a5 := hρ 5 (by decide)
              have q6 : ρ 6 = a6 := hρ 6 (by decide)
              have q7 : ρ 7 = a7 := hρ 7 (by decide)
              have q8 : ρ 8 = a8 := hρ 8 (by decide)
              have q9 : ρ 9 = a9 := hρ 9 (by decide)
              have q15 : ρ 15 = (b2i (decide (0 ≤ a0))) := b2i_dec f15 (by simp only [q0])
              have q16 : ρ 16 = (b2i (decide (a0 < 8))) := b2i_dec f16 (by simp only [q0])
              have q17 : ρ 17 = (b2i (!(decide (a0 < 8)))) := b2i_not f17 q16
              have q18 : ρ 18 = (b2i (decide (a1 < 1))) := b2i_dec f18 (by simp only [q1])
              have q19 : ρ 19 = (b2i (decide (1099511627776 < a1))) := b2i_dec f19 (by simp only [q1])
              have q20 : ρ 20 = (b2i (goodB [a2, a3, a4, a5, a6, a7, a8, a9])) := by
                  have t := f20 0 (by decide)
                  simp only [q2, q3, q4, q5, q6, q7, q8, q9] at t
                  exact t
              have q21 : ρ 21 = (b2i (!(goodB [a2, a3, a4, a5, a6, a7, a8, a9]))) := b2i_not f21 q20
              have q22 : ρ 22 = ([a2, a3, a4, a5, a6, a7, a8, a9].getD (a0).toNat 0) := by rw [f22, q2, q3, q4, q5, q6, q7, q8, q9, q0]
              have q23 : ρ 23 = (IntKind.i64.wrap (a1 - 1)) := by rw [f23, q1]
              have q24 : ρ 24 = (b2i (decide (([a2, a3, a4, a5, a6, a7, a8, a9].getD (a0).toNat 0) ≠ (IntKind.i64.wrap (a1 - 1))))) := b2i_dec f24 (by simp only [q22, q23])
              refine ⟨?_, ?_⟩
              · simp only [G_nil, G_bin, G_cmp, G_not, G_conv, G_eqs, G_call, G_cond, G_need, G_idx, G_sel, G_upd, G_shv, G_beq, G_prim, G_byte, G_cut, G_cat, List.map_cons, List.map_nil, Ref.den]
                exact ⟨b2i_cond q15 (by simp only [c0, decide_true, decide_false, Bool.and_true, Bool.true_and, Bool.and_false, Bool.false_and, Bool.or_true, Bool.true_or, Bool.or_false, Bool.false_or, Bool.not_true, Bool.not_false, if_true, if_false, Bool.false_eq_true]), b2i_cond q17 (by simp only [c1, decide_true, decide_false, Bool.and_true, Bool.true_and, Bool.and_false, Bool.false_and, Bool.or_true, Bool.true_or, Bool.or_false, Bool.false_or, Bool.not_true, Bool.not_false, if_true, if_false, Bool.false_eq_true]), b2i_cond q18 (by simp only [c2, decide_true, decide_false, Bool.and_true, Bool.true_and, Bool.and_false, Bool.false_and, Bool.or_true, Bool.true_or, Bool.or_false, Bool.false_or, Bool.not_true, Bool.not_false, if_true, if_false, Bool.false_eq_true]), b2i_cond q19 (by simp only [c3, decide_true, decide_false, Bool.and_true, Bool.true_and, Bool.and_false, Bool.false_and, Bool.or_true, Bool.true_or, Bool.or_false, Bool.false_or, Bool.not_true, Bool.not_false, if_true, if_false, Bool.false_eq_true]), trivial, b2i_cond q21 (by simp only [c4, decide_true, decide_false, Bool.and_true, Bool.true_and, Bool.and_false, Bool.false_and, Bool.or_true, Bool.true_or, Bool.or_false, Bool.false_or, Bool.not_true, Bool.not_false, if_true, if_false, Bool.false_eq_true]), ⟨by rw [q0]; exact of_decide_eq_true (by assumption), by rw [q0]; exact of_decide_eq_true (by assumption)⟩, b2i_cond q24 (by simp only [c5, decide_true, decide_false, Bool.and_true, Bool.true_and, Bool.and_false, Bool.false_and, Bool.or_true, Bool.true_or, Bool.or_false, Bool.false_or, Bool.not_true, Bool.not_false, if_true, if_false, Bool.false_eq_true]), trivial⟩
              · show [0] = [b2i (goodE [a0, a1, a2, a3, a4, a5, a6, a7, a8, a9, a10, a11, a12, a13, a14])]
                rw [show goodE [a0, a1, a2, a3, a4, a5, a6, a7, a8, a9, a10, a11, a12, a13, a14] = false by simp only [goodE, c0, c1, c2, c3, c4, c5, decide_true, decide_false, Bool.and_true, Bool.true_and, Bool.and_false, Bool.false_and, Bool.or_true, Bool.true_or, Bool.or_false, Bool.false_or, Bool.not_true, Bool.not_false, if_true, if_false, Bool.false_eq_true]]; rfl
        · refine Go.Sx.Way.of (dec := [true, false, false, true]) (fs := [.cmp 15 .geq (.v 0) (.l 0), .cond 15 true, .cmp 16 .lss (.v 0) (.l 8), .not 17 (.v 16), .cond 17 false, .cmp 18 .lss (.v 1) (.l 1), .cond 18 false, .cmp 19 .gtr (.v 1) (.l 1099511627776), .cond 19 true]) (refs := [.l 0]) (by kernel_rfl) fun ρ hρ hd => ?_
          simp only [D_nil, D_add, D_sub, D_mul, D_and, D_or, D_xor, D_shl, D_shr, D_andNot, D_quo, D_rem, D_add_i64, D_sub_i64, D_mul_i64, D_add_u32, D_sub_u32, D_mul_u32, D_add_u8, D_sub_u8, D_mul_u8, D_eql, D_neq, D_lss, D_leq, D_gtr, D_geq, D_not, D_conv, D_eqs, D_call, D_cond, D_need, D_idx, D_sel, D_upd, D_shv, D_beq, D_len, D_byte, D_cut, D_cat, D_must, List.map_cons, List.map_nil, Ref.den] at hd
          obtain ⟨f15, f16, f17, f18, f19, -⟩ := hd
          have q0 : ρ 0 = a0 := hρ 0 (by decide)
          have q1 : ρ 1 = a1 := hρ 1 (by decide)
          have q15 : ρ 15 = (b2i (decide (0 ≤ a0))) := b2i_dec f15 (by simp only [q0])
          have q16 : ρ 16 = (b2i (decide (a0 < 8))) := b2i_dec f16 (by simp only [q0])
          have q17 : ρ 17 = (b2i (!(decide (a0 < 8)))) := b2i_not f17 q16
          have q18 : ρ 18 = (b2i (decide (a1 < 1))) := b2i_dec f18 (by simp only [q1])
          have q19 : ρ 19 = (b2i (decide (1099511627776 < a1))) := b2i_dec f19 (by simp only [q1])
          refine ⟨?_, ?_⟩
          · simp only [G_nil, G_bin, G_cmp, G_not, G_conv, G_eqs, G_call, G_cond, G_need, G_idx, G_sel, G_upd, G_shv, G_beq, G_prim, G_byte, G_cut, G_cat, List.map_cons, List.map_nil, Ref.den]
            exact ⟨b2i_cond q15 (by simp only [c0, decide_true, decide_false, Bool.and_true, Bool.true_and, Bool.and_false, Bool.false_and, Bool.or_true, Bool.true_or, Bool.or_false, Bool.false_or, Bool.not_true, Bool.not_false, if_true, if_false, Bool.false_eq_true]), b2i_cond q17 (by simp only [c1, decide_true, decide_false, Bool.and_true, Bool.true_and, Bool.and_false, Bool.false_and, Bool.or_true, Bool.true_or, Bool.or_false, Bool.false_or, Bool.not_true, Bool.not_false, if_true, if_false, Bool.false_eq_true]), b2i_cond q18 (by simp only [c2, decide_true, decide_false, Bool.and_true, Bool.true_and, Bool.and_false, Bool.false_and, Bool.or_true, Bool.true_or, Bool.or_false, Bool.false_or, Bool.not_true, Bool.not_false, if_true, if_false, Bool.false_eq_true]), b2i_cond q19 (by simp only [c3, decide_true, decide_false, Bool.and_true, Bool.true_and, Bool.and_false, Bool.false_and, Bool.or_true, Bool.true_or, Bool.or_false, Bool.false_or, Bool.not_true, Bool.not_false, if_true, if_false, Bool.false_eq_true]), trivial⟩
          · show [0] = [b2i (goodE [a0, a1, a2, a3, a4, a5, a6, a7, a8, a9, a10, a11, a12, a13, a14])]
            rw [show goodE [a0, a1, a2, a3, a4, a5, a6, a7, a8, a9, a10, a11, a12, a13, a14] = false by simp only [goodE, c0, c1, c2, c3, decide_true, decide_false, Bool.and_true, Bool.true_and, Bool.and_false, Bool.false_and, Bool.or_true, Bool.true_or, Bool.or_false, Bool.false_or, Bool.not_true, Bool.not_false, if_true, if_false, Bool.false_eq_true]]; rfl
      · refine Go.Sx.Way.of (dec := [true, false, true]) (fs := [.cmp 15 .geq (.v 0) (.l 0), .cond 15 true, .cmp 16 .lss (.v 0) (.l 8), .not 17 (.v 16), .cond 17 false, .cmp 18 .lss (.v 1) (.l 1), .cond 18 true]) (refs := [.l 0]) (by kernel_rfl) fun ρ hρ hd => ?_
        simp only [D_nil, D_add, D_sub, D_mul, D_and, D_or, D_xor, D_shl, D_shr, D_andNot, D_quo, D_rem, D_add_i64, D_sub_i64, D_mul_i64, D_add_u32, D_sub_u32, D_mul_u32, D_add_u8, D_sub_u8, D_mul_u8, D_eql, D_neq, D_lss, D_leq, D_gtr, D_geq, D_not, D_conv, D_eqs, D_call, D_cond, D_need, D_idx, D_sel, D_upd, D_shv, D_beq, D_len, D_byte, D_cut, D_cat, D_must, List.map_cons, List.map_nil, Ref.den] at hd
        obtain ⟨f15, f16, f17, f18, -⟩ := hd
        have q0 : ρ 0 = a0 := hρ 0 (by decide)
        have q1 : ρ 1 = a1 := hρ 1 (by decide)
        have q15 : ρ 15 = (b2i (decide (0 ≤ a0))) := b2i_dec f15 (by simp only [q0])
        have q16 : ρ 16 = (b2i (decide (a0 < 8))) := b2i_dec f16 (by simp only [q0])
        have q17 : ρ 17 = (b2i (!(decide (a0 < 8)))) := b2i_not f17 q16
        have q18 : ρ 18 = (b2i (decide (a1 < 1))) := b2i_dec f18 (by simp only [q1])
        refine ⟨?_, ?_⟩
        · simp only [G_nil, G_bin, G_cmp, G_not, G_conv, G_eqs, G_call, G_cond, G_need, G_idx, G_sel, G_upd, G_shv, G_beq, G_prim, G_byte, G_cut, G_cat, List.map_cons, List.map_nil, Ref.den]
          exact ⟨b2i_cond q15 (by simp only [c0, decide_true, decide_false, Bool.and_true, Bool.true_and, Bool.and_false, Bool.false_and, Bool.or_true, Bool.true_or, Bool.or_false, Bool.false_or, Bool.not_true, Bool.not_false, if_true, if_false, Bool.false_eq_true]), b2i_cond q17 (by simp only [c1, decide_true, decide_false, Bool.and_true, Bool.true_and, Bool.and_false, Bool.false_and, Bool.or_true, Bool.true_or, Bool.or_false, Bool.false_or, Bool.not_true, Bool.not_false, if_true, if_false, Bool.false_eq_true]), b2i_cond q18 (by simp only [c2, decide_true, decide_false, Bool.and_true, Bool.true_and, Bool.and_false, Bool.false_and, Bool.or_true, Bool.true_or, Bool.or_false, Bool.false_or, Bool.not_true, Bool.not_false, if_true, if_false, Bool.false_eq_true]), trivial⟩
        · show [0] = [b2i (goodE [a0, a1, a2, a3, a4, a5, a6, a7, a8, a9, a10, a11, a12, a13, a14])]
          rw [show goodE [a0, a1, a2, a3, a4, a5, a6, a7, a8, a9, a10, a11, a12, a13, a14] = false by simp only [goodE, c0, c1, c2, decide_true, decide_false, Bool.and_true, Bool.true_and, Bool.and_false, Bool.false_and, Bool.or_true, Bool.true_or, Bool.or_false, Bool.false_or, Bool.not_true, Bool.not_false, if_true, if_false, Bool.false_eq_true]]; rfl
def cCmp64 : Ctr := ⟨44, 7, [.int .i64, .int .i64], [.int .i64]⟩
def cCmpI : Ctr := ⟨45, 7, [.int .i64, .int .i64], [.int .i64]⟩
def cLess : Ctr := ⟨19, 12, [ED, ED], [.bool]⟩
def cPut : Ctr := ⟨10, 14, [ED], [.opq]⟩
theorem okCmp64 : CtrOK Try.prog ofns cCmp64 := by
  refine CtrOK.of (T := []) (fun _ h => by cases h) mixed (lf := 300) (d := 5) rfl fun w vs xs ha hp => ?_
  obtain ⟨v, u, x, y, rfl, rfl, ⟨a0, rfl, rfl, _⟩, ⟨a1, rfl, rfl, _⟩⟩ := open2 ha
  cases c0 : decide (a0 < a1)
  · cases c1 : decide (a1 < a0)
    · refine Go.Sx.Way.of (dec := [false, false, false, false]) (fs := [.cmp 2 .neq (.v 0) (.v 0), .cmp 3 .neq (.v 1) (.v 1), .cond 2 false, .cond 3 false, .cmp 4 .lss (.v 0) (.v 1), .cond 4 false, .cmp 5 .gtr (.v 0) (.v 1), .cond 5 false]) (refs := [.l 0]) (by kernel_rfl) fun ρ hρ hd => ?_
      simp only [D_nil, D_add, D_sub, D_mul, D_and, D_or, D_xor, D_shl, D_shr, D_andNot, D_quo, D_rem, D_add_i64, D_sub_i64, D_mul_i64, D_add_u32, D_sub_u32, D_mul_u32, D_add_u8, D_sub_u8, D_mul_u8, D_eql, D_neq, D_lss, D_leq, D_gtr, D_geq, D_not, D_conv, D_eqs, D_call, D_cond, D_need, D_idx, D_sel, D_upd, D_shv, D_beq, D_len, D_byte, D_cut, D_cat, D_must, List.map_cons, List.map_nil, Ref.den] at hd
      obtain ⟨f2, f3, f4, f5, -⟩ := hd
      have q0 : ρ 0 = a0 := hρ 0 (by decide)
      have q1 : ρ 1 = a1 := hρ 1 (by decide)
      have q2 : ρ 2 = (b2i (decide (a0 ≠ a0))) := b2i_dec f2 (by simp only [q0])
      have q3 : ρ 3 = (b2i (decide (a1 ≠ a1))) := b2i_dec f3 (by simp only [q1])
      have q4 : ρ 4 = (b2i (decide (a0 < a1))) := b2i_dec f4 (by simp only [q0, q1])
      have q5 : ρ 5 = (b2i (decide (a1 < a0))) := b2i_dec f5 (by simp only [q0, q1])
      refine ⟨?_, ?_⟩
      · simp only [G_nil, G_bin, G_cmp, G_not, G_conv, G_eqs, G_call, G_cond, G_need, G_idx, G_sel, G_upd, G_shv, G_beq, G_prim, G_byte, G_cut, G_cat, List.map_cons, List.map_nil, Ref.den]
        exact ⟨b2i_cond q2 (by simp), b2i_cond q3 (by simp), b2i_cond q4 (by simp only [c0, decide_true, decide_false, Bool.and_true, Bool.true_and, Bool.and_false, Bool.false_and, Bool.or_true, Bool.true_or, Bool.or_false, Bool.false_or, Bool.not_true, Bool.not_false, if_true, if_false, Bool.false_eq_true]), b2i_cond q5 (by simp only [c1, decide_true, decide_false, Bool.and_true, Bool.true_and, Bool.and_false, Bool.false_and, Bool.or_true, Bool.true_or, Bool.or_false, Bool.false_or, Bool.not_true, Bool.not_false, if_true, if_false, Bool.false_eq_true]), trivial⟩
      · show [0] = [cmpI a0 a1]
        simp only [cmpI, c0, c1, decide_true, decide_false, Bool.and_true, Bool.true_and, Bool.and_false, Bool.false_and, Bool.or_true, Bool.true_or, Bool.or_false, Bool.false_or, Bool.not_true, Bool.not_false, if_true, if_false, Bool.false_eq_true]
    · refine Go.Sx.Way.of (dec := [false, false, false, true]) (fs := [.cmp 2 .neq (.v 0) (.v 0), .cmp 3 .neq (.v 1) (.v 1), .cond 2 false, .cond 3 false, .cmp 4 .lss (.v 0) (.v 1), .cond 4 false, .cmp 5 .gtr (.v 0) (.v 1), .cond 5 true]) (refs := [.l 1]) (by kernel_rfl) fun ρ hρ hd => ?_
      simp only [D_nil, D_add, D_sub, D_mul, D_and, D_or, D_xor, D_shl, D_shr, D_andNot, D_quo, D_rem, D_add_i64, D_sub_i64, D_mul_i64, D_add_u32, D_sub_u32, D_mul_u32, D_add_u8, D_sub_u8, D_mul_u8, D_eql, D_neq, D_lss, D_leq, D_gtr, D_geq, D_not, D_conv, D_eqs, D_call, D_cond, D_need, D_idx, D_sel, D_upd, D_shv, D_beq, D_len, D_byte, D_cut, D_cat, D_must, List.map_cons, List.map_nil, Ref.den] at hd
      obtain ⟨f2, f3, f4, f5, -⟩ := hd
      have q0 : ρ 0 = a0 := hρ 0 (by decide)
      have q1 : ρ 1 = a1 := hρ 1 (by decide)
      have q2 : ρ 2 = (b2i (decide (a0 ≠ a0))) := b2i_dec f2 (by simp only [q0])
      have q3 : ρ 3 = (b2i (decide (a1 ≠ a1))) := b2i_dec f3 (by simp only [q1])
      have q4 : ρ 4 = (b2i (decide (a0 < a1))) := b2i_dec f4 (by simp only [q0, q1])
      have q5 : ρ 5 = (b2i (decide (a1 < a0))) := b2i_dec f5 (by simp only [q0, q1])
      refine ⟨?_, ?_⟩
      · simp only [G_nil, G_bin, G_cmp, G_not, G_conv, G_eqs, G_call, G_cond, G_need, G_idx, G_sel, G_upd, G_shv, G_beq, G_prim, G_byte, G_cut, G_cat, List.map_cons, List.map_nil, Ref.den]
        exact ⟨b2i_cond q2 (by simp), b2i_cond q3 (by simp), b2i_cond q4 (by simp only [c0, decide_true, decide_false, Bool.and_true, Bool.true_and, Bool.and_false, Bool.false_and, Bool.or_true, Bool.true_or, Bool.or_false, Bool.false_or, Bool.not_true, Bool.not_false, if_true, if_false, Bool.false_eq_true]), b2i_cond q5 (by simp only [c1, decide_true, decide_false, Bool.and_true, Bool.true_and, Bool.and_false, Bool.false_and, Bool.or_true, Bool.true_or, Bool.or_false, Bool.false_or, Bool.not_true, Bool.not_false, if_true, if_false, Bool.false_eq_true]), trivial⟩
      · show [1] = [cmpI a0 a1]
        simp only [cmpI, c0, c1, decide_true, decide_false, Bool.and_true, Bool.true_and, Bool.and_false, Bool.false_and, Bool.or_true, Bool.true_or, Bool.or_false, Bool.false_or, Bool.not_true, Bool.not_false, if_true, if_false, Bool.false_eq_true]
  · refine Go.Sx.Way.of (dec := [false, false, true]) (fs := [.cmp 2 .neq (.v 0) (.v 0), .cmp 3 .neq (.v 1) (.v 1), .cond 2 false, .cond 3 false, .cmp 4 .lss (.v 0) (.v 1), .cond 4 true]) (refs := [.l (-1)]) (by kernel_rfl) fun ρ hρ hd => ?_
    simp only [D_nil, D_add, D_sub, D_mul, D_and, D_or, D_xor, D_shl, D_shr, D_andNot, D_quo, D_rem, D_add_i64, D_sub_i64, D_mul_i64, D_add_u32, D_sub_u32, D_mul_u32, D_add_u8, D_sub_u8, D_mul_u8, D_eql, D_neq, D_lss, D_leq, D_gtr, D_geq, D_not, D_conv, D_eqs, D_call, D_cond, D_need, D_idx, D_sel, D_upd, D_shv, D_beq, D_len, D_byte, D_cut, D_cat, D_must, List.map_cons, List.map_nil, Ref.den] at hd
    obtain ⟨f2, f3, f4, -⟩ := hd
    have q0 : ρ 0 = a0 := hρ 0 (by decide)
    have q1 : ρ 1 = a1 := hρ 1 (by decide)
    have q2 : ρ 2 = (b2i (decide (a0 ≠ a0))) := b2i_dec f2 (by simp only [q0])
    have q3 : ρ 3 = (b2i (decide (a1 ≠ a1))) := b2i_dec f3 (by simp only [q1])
    have q4 : ρ 4 = (b2i (decide (a0 < a1))) := b2i_dec f4 (by simp only [q0, q1])
    refine ⟨?_, ?_⟩
    · simp only [G_nil, G_bin, G_cmp, G_not, G_conv, G_eqs, G_call, G_cond, G_need, G_idx, G_sel, G_upd, G_shv, G_beq, G_prim, G_byte, G_cut, G_cat, List.map_cons, List.map_nil, Ref.den]
      exact ⟨b2i_cond q2 (by simp), b2i_cond q3 (by simp), b2i_cond q4 (by simp only [c0, decide_true, decide_false, Bool.and_true, Bool.true_and, Bool.and_false, Bool.false_and, Bool.or_true, Bool.true_or, Bool.or_false, Bool.false_or, Bool.not_true, Bool.not_false, if_true, if_false, Bool.false_eq_true]), trivial⟩
    · show [-1] = [cmpI a0 a1]
      simp only [cmpI, c0, decide_true, decide_false, Bool.and_true, Bool.true_and, Bool.and_false, Bool.false_and, Bool.or_true, Bool.true_or, Bool.or_false, Bool.false_or, Bool.not_true, Bool.not_false, if_true, if_false, Bool.false_eq_true]
theorem okCmpI : CtrOK Try.prog ofns cCmpI := by
  refine CtrOK.of (T := []) (fun _ h => by cases h) mixed (lf := 300) (d := 5) rfl fun w vs xs ha hp => ?_
  obtain ⟨v, u, x, y, rfl, rfl, ⟨a0, rfl, rfl, _⟩, ⟨a1, rfl, rfl, _⟩⟩ := open2 ha
  cases c0 : decide (a0 < a1)
  · cases c1 : decide (a1 < a0)
    · refine Go.Sx.Way.of (dec := [false, false, false, false]) (fs := [.cmp 2 .neq (.v 0) (.v 0), .cmp 3 .neq (.v 1) (.v 1), .cond 2 false, .cond 3 false, .cmp 4 .lss (.v 0) (.v 1), .cond 4 false, .cmp 5 .gtr (.v 0) (.v 1), .cond 5 false]) (refs := [.l 0]) (by kernel_rfl) fun ρ hρ hd => ?_
      simp only [D_nil, D_add, D_sub, D_mul, D_and, D_or, D_xor, D_shl, D_shr, D_andNot, D_quo, D_rem, D_add_i64, D_sub_i64, D_mul_i64, D_add_u32, D_sub_u32, D_mul_u32, D_add_u8, D_sub_u8, D_mul_u8, D_eql, D_neq, D_lss, D_leq, D_gtr, D_geq, D_not, D_conv, D_eqs, D_call, D_cond, D_need, D_idx, D_sel, D_upd, D_shv, D_beq, D_len, D_byte, D_cut, D_cat, D_must, List.map_cons, List.map_nil, Ref.den] at hd
      obtain ⟨f2, f3, f4, f5, -⟩ := hd
      have q0 : ρ 0 = a0 := hρ 0 (by decide)
      have q1 : ρ 1 = a1 := hρ 1 (by decide)
      have q2 : ρ 2 = (b2i (decide (a0 ≠ a0))) := b2i_dec f2 (by simp only [q0])
      have q3 : ρ 3 = (b2i (decide (a1 ≠ a1))) := b2i_dec f3 (by simp only [q1])
      have q4 : ρ 4 = (b2i (decide (a0 < a1))) := b2i_dec f4 (by simp only [q0, q1])
      have q5 : ρ 5 = (b2i (decide (a1 < a0))) := b2i_dec f5 (by simp only [q0, q1])
      refine ⟨?_, ?_⟩
      · simp only [G_nil, G_bin, G_cmp, G_not, G_conv, G_eqs, G_call, G_cond, G_need, G_idx, G_sel, G_upd, G_shv, G_beq, G_prim, G_byte, G_cut, G_cat, List.map_cons, List.map_nil, Ref.den]
        exact ⟨b2i_cond q2 (by simp), b2i_cond q3 (by simp), b2i_cond q4 (by simp only [c0, decide_true, decide_false, Bool.and_true, Bool.true_and, Bool.and_false, Bool.false_and, Bool.or_true, Bool.true_or, Bool.or_false, Bool.false_or, Bool.not_true, Bool.not_false, if_true, if_false, Bool.false_eq_true]), b2i_cond q5 (by simp only [c1, decide_true, decide_false, Bool.and_true, Bool.true_and, Bool.and_false, Bool.false_and, Bool.or_true, Bool.true_or, Bool.or_false, Bool.false_or, Bool.not_true, Bool.not_false, if_true, if_false, Bool.false_eq_true]), trivial⟩
      · show [0] = [cmpI a0 a1]
        simp only [cmpI, c0, c1, decide_true, decide_false, Bool.and_true, Bool.true_and, Bool.and_false, Bool.false_and, Bool.or_true, Bool.true_or, Bool.or_false, Bool.false_or, Bool.not_true, Bool.not_false, if_true, if_false, Bool.false_eq_true]
    · refine Go.Sx.Way.of (dec := [false, false, false, true]) (fs := [.cmp 2 .neq (.v 0) (.v 0), .cmp 3 .neq (.v 1) (.v 1), .cond 2 false, .cond 3 false, .cmp 4 .lss (.v 0) (.v 1), .cond 4 false, .cmp 5 .gtr (.v 0) (.v 1), .cond 5 true]) (refs := [.l 1]) (by kernel_rfl) fun ρ hρ hd => ?_
      simp only [D_nil, D_add, D_sub, D_mul, D_and, D_or, D_xor, D_shl, D_shr, D_andNot, D_quo, D_rem, D_add_i64, D_sub_i64, D_mul_i64, D_add_u32, D_sub_u32, D_mul_u32, D_add_u8, D_sub_u8, D_mul_u8, D_eql, D_neq, D_lss, D_leq, D_gtr, D_geq, D_not, D_conv, D_eqs, D_call, D_cond, D_need, D_idx, D_sel, D_upd, D_shv, D_beq, D_len, D_byte, D_cut, D_cat, D_must, List.map_cons, List.map_nil, Ref.den] at hd
      obtain ⟨f2, f3, f4, f5, -⟩ := hd
      have q0 : ρ 0 = a0 := hρ 0 (by decide)
      have q1 : ρ 1 = a1 := hρ 1 (by decide)
      have q2 : ρ 2 = (b2i (decide (a0 ≠ a0))) := b2i_dec f2 (by simp only [q0])
      have q3 : ρ 3 = (b2i (decide (a1 ≠ a1))) := b2i_dec f3 (by simp only [q1])
      have q4 : ρ 4 = (b2i (decide (a0 < a1))) := b2i_dec f4 (by simp only [q0, q1])
      have q5 : ρ 5 = (b2i (decide (a1 < a0))) := b2i_dec f5 (by simp only [q0, q1])
      refine ⟨?_, ?_⟩
      · simp only [G_nil, G_bin, G_cmp, G_not, G_conv, G_eqs, G_call, G_cond, G_need, G_idx, G_sel, G_upd, G_shv, G_beq, G_prim, G_byte, G_cut, G_cat, List.map_cons, List.map_nil, Ref.den]
        exact ⟨b2i_cond q2 (by simp), b2i_cond q3 (by simp), b2i_cond q4 (by simp only [c0, decide_true, decide_false, Bool.and_true, Bool.true_and, Bool.and_false, Bool.false_and, Bool.or_true, Bool.true_or, Bool.or_false, Bool.false_or, Bool.not_true, Bool.not_false, if_true, if_false, Bool.false_eq_true]), b2i_cond q5 (by simp only [c1, decide_true, decide_false, Bool.and_true, Bool.true_and, Bool.and_false, Bool.false_and, Bool.or_true, Bool.true_or, Bool.or_false, Bool.false_or, Bool.not_true, Bool.not_false, if_true, if_false, Bool.false_eq_true]), trivial⟩
      · show [1] = [cmpI a0 a1]
        simp only [cmpI, c0, c1, decide_true, decide_false, Bool.and_true, Bool.true_and, Bool.and_false, Bool.false_and, Bool.or_true, Bool.true_or, Bool.or_false, Bool.false_or, Bool.not_true, Bool.not_false, if_true, if_false, Bool.false_eq_true]
  · refine Go.Sx.Way.of (dec := [false, false, true]) (fs := [.cmp 2 .neq (.v 0) (.v 0), .cmp 3 .neq (.v 1) (.v 1), .cond 2 false, .cond 3 false, .cmp 4 .lss (.v 0) (.v 1), .cond 4 true]) (refs := [.l (-1)]) (by kernel_rfl) fun ρ hρ hd => ?_
    simp only [D_nil, D_add, D_sub, D_mul, D_and, D_or, D_xor, D_shl, D_shr, D_andNot, D_quo, D_rem, D_add_i64, D_sub_i64, D_mul_i64, D_add_u32, D_sub_u32, D_mul_u32, D_add_u8, D_sub_u8, D_mul_u8, D_eql, D_neq, D_lss, D_leq, D_gtr, D_geq, D_not, D_conv, D_eqs, D_call, D_cond, D_need, D_idx, D_sel, D_upd, D_shv, D_beq, D_len, D_byte, D_cut, D_cat, D_must, List.map_cons, List.map_nil, Ref.den] at hd
    obtain ⟨f2, f3, f4, -⟩ := hd
    have q0 : ρ 0 = a0 := hρ 0 (by decide)
    have q1 : ρ 1 = a1 := hρ 1 (by decide)
    have q2 : ρ 2 = (b2i (decide (a0 ≠ a0))) := b2i_dec f2 (by simp only [q0])
    have q3 : ρ 3 = (b2i (decide (a1 ≠ a1))) := b2i_dec f3 (by simp only [q1])
    have q4 : ρ 4 = (b2i (decide (a0 < a1))) := b2i_dec f4 (by simp only [q0, q1])
    refine ⟨?_, ?_⟩
    · simp only [G_nil, G_bin, G_cmp, G_not, G_conv, G_eqs, G_call, G_cond, G_need, G_idx, G_sel, G_upd, G_shv, G_beq, G_prim, G_byte, G_cut, G_cat, List.map_cons, List.map_nil, Ref.den]
      exact ⟨b2i_cond q2 (by simp), b2i_cond q3 (by simp), b2i_cond q4 (by simp only [c0, decide_true, decide_false, Bool.and_true, Bool.true_and, Bool.and_false, Bool.false_and, Bool.or_true, Bool.true_or, Bool.or_false, Bool.false_or, Bool.not_true, Bool.not_false, if_true, if_false, Bool.false_eq_true]), trivial⟩
    · show [-1] = [cmpI a0 a1]
      simp only [cmpI, c0, decide_true, decide_false, Bool.and_true, Bool.true_and, Bool.and_false, Bool.false_and, Bool.or_true, Bool.true_or, Bool.or_false, Bool.false_or, Bool.not_true, Bool.not_false, if_true, if_false, Bool.false_eq_true]
def OT2 : List Ctr := cCmp64 :: cCmpI :: OT1
theorem okOT2 : ∀ c ∈ OT2, CtrOK Try.prog ofns c := by
  intro c hc
  rcases List.mem_cons.1 hc with rfl | hc
  · exact okCmp64
  · rcases List.mem_cons.1 hc with rfl | hc
    · exact okCmpI
    · exact okOT1 c hc
theorem okLess : CtrOK Try.prog ofns cLess := by
  refine CtrOK.of okOT2 mixed (lf := 300) (d := 5) rfl fun w vs xs ha hp => ?_
  obtain ⟨v, u, x, y, rfl, rfl, ⟨hl, rfl, hg⟩, ⟨hl2, rfl, hg2⟩⟩ := open2 ha
  obtain ⟨a0, a1, a2, a3, a4, a5, a6, a7, a8, a9, a10, a11, a12, a13, a14, rfl⟩ := len15 hl
  obtain ⟨b0, b1, b2, b3, b4, b5, b6, b7, b8, b9, b10, b11, b12, b13, b14, rfl⟩ := len15 hl2
  cases c0 : decide ((cmpI a14 b14) ≠ 0)
  · cases c1 : decide ((cmpI a0 b0) ≠ 0)
    · cases c2 : decide ((cmpI a1 b1) ≠ 0)
      · refine Go.Sx.Way.of (dec := [false, false, false]) (fs := [.need 7 [[.v 14], [.v 29]], .call 30 7 [[.v 14], [.v 29]] 1, .need 7 [[.v 0], [.v 15]], .call 31 7 [[.v 0], [.v 15]] 1, .need 7 [[.v 1], [.v 16]], .call 32 7 [[.v 1], [.v 16]] 1, .cmp 33 .neq (.v 30) (.l 0), .cond 33 false, .cmp 34 .neq (.v 31) (.l 0), .cond 34 false, .cmp 35 .neq (.v 32) (.l 0), .cond 35 false]) (refs := [.l 0]) (by kernel_rfl) fun ρ hρ hd => ?_
        simp only [D_nil, D_add, D_sub, D_mul, D_and, D_or, D_xor, D_shl, D_shr, D_andNot, D_quo, D_rem, D_add_i64, D_sub_i64, D_mul_i64, D_add_u32, D_sub_u32, D_mul_u32, D_add_u8, D_sub_u8, D_mul_u8, D_eql, D_neq, D_lss, D_leq, D_gtr, D_geq, D_not, D_conv, D_eqs, D_call, D_cond, D_need, D_idx, D_sel, D_upd, D_shv, D_beq, D_len, D_byte, D_cut, D_cat, D_must, List.map_cons, List.map_nil, Ref.den] at hd
        obtain ⟨f30, f31, f32, f33, f34, f35, -⟩ := hd
        have q0 : ρ 0 = a0 := hρ 0 (by decide)
        have q1 : ρ 1 = a1 := hρ 1 (by decide)
        have q14 : ρ 14 = a14 := hρ 14 (by decide)
        have q15 : ρ 15 = b0 := hρ 15 (by decide)
        have q16 : ρ 16 = b1 := hρ 16 (by decide)
        have q29 : ρ 29 = b14 := hρ 29 (by decide)
        have q30 : ρ 30 = (cmpI a14 b14) := by
            have t := f30 0 (by decide)
            simp only [q14, q29] at t
            exact t
        have q31 : ρ 31 = (cmpI a0 b0) := by
            have t := f31 0 (by decide)
            simp only [q0, q15] at t
            exact t
        have q32 : ρ 32 = (cmpI a1 b1) := by
            have t := f32 0 (by decide)
            simp only [q1, q16] at t
            exact t
        have q33 : ρ 33 = (b2i (decide ((cmpI a14 b14) ≠ 0))) := b2i_dec f33 (by simp only [q30])
        have q34 : ρ 34 = (b2i (decide ((cmpI a0 b0) ≠ 0))) := b2i_dec f34 (by simp only [q31])
        have q35 : ρ 35 = (b2i (decide ((cmpI a1 b1) ≠ 0))) := b2i_dec f35 (by simp only [q32])
        refine ⟨?_, ?_⟩
        · simp only [G_nil, G_bin, G_cmp, G_not, G_conv, G_eqs, G_call, G_cond, G_need, G_idx, G_sel, G_upd, G_shv, G_beq, G_prim, G_byte, G_cut, G_cat, List.map_cons, List.map_nil, Ref.den]
          exact ⟨trivial, trivial, trivial, b2i_cond q33 (by simp only [c0, decide_true, decide_false, Bool.and_true, Bool.true_and, Bool.and_false, Bool.false_and, Bool.or_true, Bool.true_or, Bool.or_false, Bool.false_or, Bool.not_true, Bool.not_false, if_true, if_false, Bool.false_eq_true]), b2i_cond q34 (by simp only [c1, decide_true, decide_false, Bool.and_true, Bool.true_and, Bool.and_false, Bool.false_and, Bool.or_true, Bool.true_or, Bool.or_false, Bool.false_or, Bool.not_true, Bool.not_false, if_true, if_false, Bool.false_eq_true]), b2i_cond q35 (by simp only [c2, decide_true, decide_false, Bool.and_true, Bool.true_and, Bool.and_false, Bool.false_and, Bool.or_true, Bool.true_or, Bool.or_false, Bool.false_or, Bool.not_true, Bool.not_false, if_true, if_false, Bool.false_eq_true]), trivial⟩
        · show [0] = [b2i (lessE [a0, a1, a2, a3, a4, a5, a6, a7, a8, a9, a10, a11, a12, a13, a14] [b0, b1, b2, b3, b4, b5, b6, b7, b8, b9, b10, b11, b12, b13, b14])]
          rw [show lessE [a0, a1, a2, a3, a4, a5, a6, a7, a8, a9, a10, a11, a12, a13, a14] [b0, b1, b2, b3, b4, b5, b6, b7, b8, b9, b10, b11, b12, b13, b14] = false by simp only [lessE, c0, c1, c2, decide_true, decide_false, Bool.and_true, Bool.true_and, Bool.and_false, Bool.false_and, Bool.or_true, Bool.true_or, Bool.or_false, Bool.false_or, Bool.not_true, Bool.not_false, if_true, if_false, Bool.false_eq_true]]; rfl
      · refine Go.Sx.Way.of (dec := [false, false, true]) (fs := [.need 7 [[.v 14], [.v 29]], .call 30 7 [[.v 14], [.v 29]] 1, .need 7 [[.v 0], [.v 15]], .call 31 7 [[.v 0], [.v 15]] 1, .need 7 [[.v 1], [.v 16]], .call 32 7 [[.v 1], [.v 16]] 1, .cmp 33 .neq (.v 30) (.l 0), .cond 33 false, .cmp 34 .neq (.v 31) (.l 0), .cond 34 false, .cmp 35 .neq (.v 32) (.l 0), .cond 35 true, .cmp 36 .lss (.v 32) (.l 0)]) (refs := [.v 36]) (by kernel_rfl) fun ρ hρ hd => ?_
        simp only [D_nil, D_add, D_sub, D_mul, D_and, D_or, D_xor, D_shl, D_shr, D_andNot, D_quo, D_rem, D_add_i64, D_sub_i64, D_mul_i64, D_add_u32, D_sub_u32, D_mul_u32, D_add_u8, D_sub_u8, D_mul_u8, D_eql, D_neq, D_lss, D_leq, D_gtr, D_geq, D_not, D_conv, D_eqs, D_call, D_cond, D_need, D_idx, D_sel, D_upd, D_shv, D_beq, D_len, D_byte, D_cut, D_cat, D_must, List.map_cons, List.map_nil, Ref.den] at hd
        obtain ⟨f30, f31, f32, f33, f34, f35, f36, -⟩ := hd
        have q0 : ρ 0 = a0 := hρ 0 (by decide)
        have q1 : ρ 1 = a1 := hρ 1 (by decide)
        have q14 : ρ 14 = a14 := hρ 14 (by decide)
        have q15 : ρ 15 = b0 := hρ 15 (by decide)
        have q16 : ρ 16 = b1 := hρ 16 (by decide)
        have q29 : ρ 29 = b14 := hρ 29 (by decide)
        have q30 : ρ 30 = (cmpI a14 b14) := by
            have t := f30 0 (by decide)
            simp only [q14, q29] at t
            exact t
        have q31 : ρ 31 = (cmpI a0 b0) := by
            have t := f31 0 (by decide)
            simp only [q0, q15] at t
            exact t
        have q32 : ρ 32 = (cmpI a1 b1) := by
            have t := f32 0 (by decide)
            simp only [q1, q16] at t
            exact t
        have q33 : ρ 33 = (b2i (decide ((cmpI a14 b14) ≠ 0))) := b2i_dec f33 (by simp only [q30])
        have q34 : ρ 34 = (b2i (decide ((cmpI a0 b0) ≠ 0))) := b2i_dec f34 (by simp only [q31])
        have q35 : ρ 35 = (b2i (decide ((cmpI a1 b1) ≠ 0))) := b2i_dec f35 (by simp only [q32])
        have q36 : ρ 36 = (b2i (decide ((cmpI a1 b1) < 0))) := b2i_dec f36 (by simp only [q32])
        refine ⟨?_, ?_⟩
        · simp only [G_nil, G_bin, G_cmp, G_not, G_conv, G_eqs, G_call, G_cond, G_need, G_idx, G_sel, G_upd, G_shv, G_beq, G_prim, G_byte, G_cut, G_cat, List.map_cons, List.map_nil, Ref.den]
          exact ⟨trivial, trivial, trivial, b2i_cond q33 (by simp only [c0, decide_true, decide_false, Bool.and_true, Bool.true_and, Bool.and_false, Bool.false_and, Bool.or_true, Bool.true_or, Bool.or_false, Bool.false_or, Bool.not_true, Bool.not_false, if_true, if_false, Bool.false_eq_true]), b2i_cond q34 (by simp only [c1, decide_true, decide_false, Bool.and_true, Bool.true_and, Bool.and_false, Bool.false_and, Bool.or_true, Bool.true_or, Bool.or_false, Bool.false_or, Bool.not_true, Bool.not_false, if_true, if_false, Bool.false_eq_true]), b2i_cond q35 (by simp only [c2, decide_true, decide_false, Bool.and_true, Bool.true_and, Bool.and_false, Bool.false_and, Bool.or_true, Bool.true_or, Bool.or_false, Bool.false_or, Bool.not_true, Bool.not_false, if_true, if_false, Bool.false_eq_true]), trivial⟩
        · show [ρ 36] = [b2i (lessE [a0, a1, a2, a3, a4, a5, a6, a7, a8, a9, a10, a11, a12, a13, a14] [b0, b1, b2, b3, b4, b5, b6, b7, b8, b9, b10, b11, b12, b13, b14])]
          rw [q36]
          exact congrArg (fun b => [b2i b]) (by simp only [lessE, c0, c1, c2, decide_true, decide_false, Bool.and_true, Bool.true_and, Bool.and_false, Bool.false_and, Bool.or_true, Bool.true_or, Bool.or_false, Bool.false_or, Bool.not_true, Bool.not_false, if_true, if_false, Bool.false_eq_true])
    · refine Go.Sx.Way.of (dec := [false, true]) (fs := [.need 7 [[.v 14], [.v 29]], .call 30 7 [[.v 14], [.v 29]] 1, .need 7 [[.v 0], [.v 15]], .call 31 7 [[.v 0], [.v 15]] 1, .need 7 [[.v 1], [.v 16]], .call 32 7 [[.v 1], [.v 16]] 1, .cmp 33 .neq (.v 30) (.l 0), .cond 33 false, .cmp 34 .neq (.v 31) (.l 0), .cond 34 true, .cmp 35 .lss (.v 31) (.l 0)]) (refs := [.v 35]) (by kernel_rfl) fun ρ hρ hd => ?_
      simp only [D_nil, D_add, D_sub, D_mul, D_and, D_or, D_xor, D_shl, D_shr, D_andNot, D_quo, D_rem, D_add_i64, D_sub_i64, D_mul_i64, D_add_u32, D_sub_u32, D_mul_u32, D_add_u8, D_sub_u8, D_mul_u8, D_eql, D_neq, D_lss, D_leq, D_gtr, D_geq, D_not, D_conv, D_eqs, D_call, D_cond, D_need, D_idx, D_sel, D_upd, D_shv, D_beq, D_len, D_byte, D_cut, D_cat, D_must, List.map_cons, List.map_nil, Ref.den] at hd
      obtain ⟨f30, f31, f32, f33, f34, f35, -⟩ := hd
      have q0 : ρ 0 = a0 := hρ 0 (by decide)
      have q1 : ρ 1 = a1 := hρ 1 (by decide)
      have q14 : ρ 14 = a14 := hρ 14 (by decide)
      have q15 : ρ 15 = b0 := hρ 15 (by decide)
      have q16 : ρ 16 = b1 := hρ 16 (by decide)
      have q29 : ρ 29 = b14 := hρ 29 (by decide)
      have q30 : ρ 30 = (cmpI a14 b14) := by
          have t := f30 0 (by decide)
          simp only [q14, q29] at t
          exact t
      have q31 : ρ 31 = (cmpI a0 b0) := by
          have t := f31 0 (by decide)
          simp only [q0, q15] at t
          exact t
      have q32 : ρ 32 = (cmpI a1 b1) := by
          have t := f32 0 (by decide)
          simp only [q1, q16] at t
          exact t
      have q33 : ρ 33 = (b2i (decide ((cmpI a14 b14) ≠ 0))) := b2i_dec f33 (by simp only [q30])
      have q34 : ρ 34 = (b2i (decide ((cmpI a0 b0) ≠ 0))) := b2i_dec f34 (by simp only [q31])
      have q35 : ρ 35 = (b2i (decide ((cmpI a0 b0) < 0))) := b2i_dec f35 (by simp only [q31])
      refine ⟨?_, ?_⟩
      · simp only [G_nil, G_bin, G_cmp, G_not, G_conv, G_eqs, G_call, G_cond, G_need, G_idx, G_sel, G_upd, G_shv, G_beq, G_prim, G_byte, G_cut, G_cat, List.map_cons, List.map_nil, Ref.den]
        exact ⟨trivial, trivial, trivial, b2i_cond q33 (by simp only [c0, decide_true, decide_false, Bool.and_true, Bool.true_and, Bool.and_false, Bool.false_and, Bool.or_true, Bool.true_or, Bool.or_false, Bool.false_or, Bool.not_true, Bool.not_false, if_true, if_false, Bool.false_eq_true]), b2i_cond q34 (by simp only [c1, decide_true, decide_false, Bool.and_true, Bool.true_and, Bool.and_false, Bool.false_and, Bool.or_true, Bool.true_or, Bool.or_false, Bool.false_or, Bool.not_true, Bool.not_false, if_true, if_false, Bool.false_eq_true]), trivial⟩
      · show [ρ 35] = [b2i (lessE [a0, a1, a2, a3, a4, a5, a6, a7, a8, a9, a10, a11, a12, a13, a14] [b0, b1, b2, b3, b4, b5, b6, b7, b8, b9, b10, b11, b12, b13, b14])]
        rw [q35]
        exact congrArg (fun b => [b2i b]) (by simp only [lessE, c0, c1, decide_true, decide_false, Bool.and_true, Bool.true_and, Bool.and_false, Bool.false_and, Bool.or_true, Bool.true_or, Bool.or_false, Bool.false_or, Bool.not_true, Bool.not_false, if_true, if_false, Bool.false_eq_true])
  · refine Go.Sx.Way.of (dec := [true]) (fs := [.need 7 [[.v 14], [.v 29]], .call 30 7 [[.v 14], [.v 29]] 1, .need 7 [[.v 0], [.v 15]], .call 31 7 [[.v 0], [.v 15]] 1, .need 7 [[.v 1], [.v 16]], .call 32 7 [[.v 1], [.v 16]] 1, .cmp 33 .neq (.v 30) (.l 0), .cond 33 true, .cmp 34 .lss (.v 30) (.l 0)]) (refs := [.v 34]) (by kernel_rfl) fun ρ hρ hd => ?_
    simp only [D_nil, D_add, D_sub, D_mul, D_and, D_or, D_xor, D_shl, D_shr, D_andNot, D_quo, D_rem, D_add_i64, D_sub_i64, D_mul_i64, D_add_u32, D_sub_u32, D_mul_u32, D_add_u8, D_sub_u8, D_mul_u8, D_eql, D_neq, D_lss, D_leq, D_gtr, D_geq, D_not, D_conv, D_eqs, D_call, D_cond, D_need, D_idx, D_sel, D_upd, D_shv, D_beq, D_len, D_byte, D_cut, D_cat, D_must, List.map_cons, List.map_nil, Ref.den] at hd
    obtain ⟨f30, f31, f32, f33, f34, -⟩ := hd
    have q0 : ρ 0 = a0 := hρ 0 (by decide)
    have q1 : ρ 1 = a1 := hρ 1 (by decide)
    have q14 : ρ 14 = a14 := hρ 14 (by decide)
    have q15 : ρ 15 = b0 := hρ 15 (by decide)
    have q16 : ρ 16 = b1 := hρ 16 (by decide)
    have q29 : ρ 29 = b14 := hρ 29 (by decide)
    have q30 : ρ 30 = (cmpI a14 b14) := by
        have t := f30 0 (by decide)
        simp only [q14, q29] at t
        exact t
    have q31 : ρ 31 = (cmpI a0 b0) := by
        have t := f31 0 (by decide)
        simp only [q0, q15] at t
        exact t
    have q32 : ρ 32 = (cmpI a1 b1) := by
        have t := f32 0 (by decide)
        simp only [q1, q16] at t
        exact t
    have q33 : ρ 33 = (b2i (decide ((cmpI a14 b14) ≠ 0))) := b2i_dec f33 (by simp only [q30])
    have q34 : ρ 34 = (b2i (decide ((cmpI a14 b14) < 0))) := b2i_dec f34 (by simp only [q30])
    refine ⟨?_, ?_⟩
    · simp only [G_nil, G_bin, G_cmp, G_not, G_conv, G_eqs, G_call, G_cond, G_need, G_idx, G_sel, G_upd, G_shv, G_beq, G_prim, G_byte, G_cut, G_cat, List.map_cons, List.map_nil, Ref.den]
      exact ⟨trivial, trivial, trivial, b2i_cond q33 (by simp only [c0, decide_true, decide_false, Bool.and_true, Bool.true_and, Bool.and_false, Bool.false_and, Bool.or_true, Bool.true_or, Bool.or_false, Bool.false_or, Bool.not_true, Bool.not_false, if_true, if_false, Bool.false_eq_true]), trivial⟩
    · show [ρ 34] = [b2i (lessE [a0, a1, a2, a3, a4, a5, a6, a7, a8, a9, a10, a11, a12, a13, a14] [b0, b1, b2, b3, b4, b5, b6, b7, b8, b9, b10, b11, b12, b13, b14])]
      rw [q34]
      exact congrArg (fun b => [b2i b]) (by simp only [lessE, c0, decide_true, decide_false, Bool.and_true, Bool.true_and, Bool.and_false, Bool.false_and, Bool.or_true, Bool.true_or, Bool.or_false, Bool.false_or, Bool.not_true, Bool.not_false, if_true, if_false, Bool.false_eq_true])
def OT3 : List Ctr := cGood :: OT2
theorem okOT3 : ∀ c ∈ OT3, CtrOK Try.prog ofns c := by
  intro c hc
  rcases List.mem_cons.1 hc with rfl | hc
  · exact okGood
  · exact okOT2 c hc
theorem okPut : CtrOK Try.prog ofns cPut := by
  refine CtrOK.of okOT3 mixed (lf := 300) (d := 5) rfl fun w vs xs ha hp => ?_
  obtain ⟨v, x, rfl, rfl, ⟨hl, rfl, hg⟩⟩ := open1 ha
  obtain ⟨a0, a1, a2, a3, a4, a5, a6, a7, a8, a9, a10, a11, a12, a13, a14, rfl⟩ := len15 hl
  obtain ⟨hc, hf, hv⟩ : (decZ a11).length ≤ 1000 ∧ (decZ a12).length ≤ 1000 ∧ (decZ a13).length ≤ 1000 := hp
  obtain ⟨g0, g1, s0, s1, s2, s3, s4, s5, s6, s7, g10, -, -, -, g14, -⟩ := hg
  have g8 : ∀ x ∈ [a2, a3, a4, a5, a6, a7, a8, a9], InR .i64 x := by
    intro x hx
    simp only [List.mem_cons, List.not_mem_nil, or_false] at hx
    rcases hx with rfl | rfl | rfl | rfl | rfl | rfl | rfl | rfl
    · exact s0
    · exact s1
    · exact s2
    · exact s3
    · exact s4
    · exact s5
    · exact s6
    · exact s7
  cases c0 : goodE [a0, a1, a2, a3, a4, a5, a6, a7, a8, a9, a10, a11, a12, a13, a14]
  · refine Go.Sx.Way.of (dec := [true]) (fs := [.need 10 [[.v 0, .v 1, .v 2, .v 3, .v 4, .v 5, .v 6, .v 7, .v 8, .v 9, .v 10, .v 11, .v 12, .v 13, .v 14]], .call 15 10 [[.v 0, .v 1, .v 2, .v 3, .v 4, .v 5, .v 6, .v 7, .v 8, .v 9, .v 10, .v 11, .v 12, .v 13, .v 14]] 1, .not 16 (.v 15), .cond 16 true]) (refs := [.l 0]) (by kernel_rfl) fun ρ hρ hd => ?_
    simp only [D_nil, D_add, D_sub, D_mul, D_and, D_or, D_xor, D_shl, D_shr, D_andNot, D_quo, D_rem, D_add_i64, D_sub_i64, D_mul_i64, D_add_u32, D_sub_u32, D_mul_u32, D_add_u8, D_sub_u8, D_mul_u8, D_eql, D_neq, D_lss, D_leq, D_gtr, D_geq, D_not, D_conv, D_eqs, D_call, D_cond, D_need, D_idx, D_sel, D_upd, D_shv, D_beq, D_len, D_byte, D_cut, D_cat, D_must, List.map_cons, List.map_nil, Ref.den] at hd
    obtain ⟨f15, f16, -⟩ := hd
    have q0 : ρ 0 = a0 := hρ 0 (by decide)
    have q1 : ρ 1 = a1 := hρ 1 (by decide)
    have q2 : ρ 2 = a2 := hρ 2 (by decide)
    have q3 : ρ 3 = a3 := hρ 3 (by decide)
    have q4 : ρ 4 = a4 := hρ 4 (by decide)
    have q5 : ρ 5 = a5 := hρ 5 (by decide)
    have q6 : ρ 6 = a6 := hρ 6 (by decide)
    have q7 : ρ 7 = a7 := hρ 7 (by decide)
    have q8 : ρ 8 = a8 := hρ 8 (by decide)
    have q9 : ρ 9 = a9 := hρ 9 (by decide)
    have q10 : ρ 10 = a10 := hρ 10 (by decide)
    have q11 : ρ 11 = a11 := hρ 11 (by decide)
    have q12 : ρ 12 = a12 := hρ 12 (by decide)
    have q13 : ρ 13 = a13 := hρ 13 (by decide)
    have q14 : ρ 14 = a14 := hρ 14 (by decide)
    have q15 : ρ 15 = (b2i (goodE [a0, a1, a2, a3, a4, a5, a6, a7, a8, a9, a10, a11, a12, a13, a14])) := by
        have t := f15 0 (by decide)
        simp only [q0, q1, q2, q3, q4, q5, q6, q7, q8, q9, q10, q11, q12, q13, q14] at t
        exact t
    have q16 : ρ 16 = (b2i (!(goodE [a0, a1, a2, a3, a4, a5, a6, a7, a8, a9, a10, a11, a12, a13, a14]))) := b2i_not f16 q15
    refine ⟨?_, ?_⟩
    · simp only [G_nil, G_bin, G_cmp, G_not, G_conv, G_eqs, G_call, G_cond, G_need, G_idx, G_sel, G_upd, G_shv, G_beq, G_prim, G_byte, G_cut, G_cat, List.map_cons, List.map_nil, Ref.den]
      exact ⟨by show (decZ (ρ 11)).length ≤ 1000 ∧ (decZ (ρ 12)).length ≤ 1000 ∧ (decZ (ρ 13)).length ≤ 1000; rw [q11, q12, q13]; exact ⟨hc, hf, hv⟩, b2i_cond q16 (by simp only [c0, decide_true, decide_false, Bool.and_true, Bool.true_and, Bool.and_false, Bool.false_and, Bool.or_true, Bool.true_or, Bool.or_false, Bool.false_or, Bool.not_true, Bool.not_false, if_true, if_false, Bool.false_eq_true]), trivial⟩
    · show [0] = [codZ (putE [a0, a1, a2, a3, a4, a5, a6, a7, a8, a9, a10, a11, a12, a13, a14])]
      simp only [putE, c0, decide_true, decide_false, Bool.and_true, Bool.true_and, Bool.and_false, Bool.false_and, Bool.or_true, Bool.true_or, Bool.or_false, Bool.false_or, Bool.not_true, Bool.not_false, if_true, if_false, Bool.false_eq_true, codZ_nil]
  · refine Go.Sx.Way.of (dec := [false]) (fs := [.need 10 [[.v 0, .v 1, .v 2, .v 3, .v 4, .v 5, .v 6, .v 7, .v 8, .v 9, .v 10, .v 11, .v 12, .v 13, .v 14]], .call 15 10 [[.v 0, .v 1, .v 2, .v 3, .v 4, .v 5, .v 6, .v 7, .v 8, .v 9, .v 10, .v 11, .v 12, .v 13, .v 14]] 1, .not 16 (.v 15), .cond 16 false, .need 1 [[.l 0], [.v 0]], .call 17 1 [[.l 0], [.v 0]] 1, .need 1 [[.v 17], [.v 1]], .call 18 1 [[.v 17], [.v 1]] 1, .need 3 [[.v 18], [.v 2, .v 3, .v 4, .v 5, .v 6, .v 7, .v 8, .v 9]], .call 19 3 [[.v 18], [.v 2, .v 3, .v 4, .v 5, .v 6, .v 7, .v 8, .v 9]] 1, .need 1 [[.v 19], [.v 10]], .call 20 1 [[.v 19], [.v 10]] 1, .need 1 [[.v 20], [.v 14]], .call 21 1 [[.v 20], [.v 14]] 1, .need 2 [[.v 21], [.v 11]], .call 22 2 [[.v 21], [.v 11]] 1, .need 2 [[.v 22], [.v 12]], .call 23 2 [[.v 22], [.v 12]] 1, .need 2 [[.v 23], [.v 13]], .call 24 2 [[.v 23], [.v 13]] 1]) (refs := [.v 24]) (by kernel_rfl) fun ρ hρ hd => ?_
    simp only [D_nil, D_add, D_sub, D_mul, D_and, D_or, D_xor, D_shl, D_shr, D_andNot, D_quo, D_rem, D_add_i64, D_sub_i64, D_mul_i64, D_add_u32, D_sub_u32, D_mul_u32, D_add_u8, D_sub_u8, D_mul_u8, D_eql, D_neq, D_lss, D_leq, D_gtr, D_geq, D_not, D_conv, D_eqs, D_call, D_cond, D_need, D_idx, D_sel, D_upd, D_shv, D_beq, D_len, D_byte, D_cut, D_cat, D_must, List.map_cons, List.map_nil, Ref.den] at hd
    obtain ⟨f15, f16, f17, f18, f19, f20, f21, f22, f23, f24, -⟩ := hd
    have q0 : ρ 0 = a0 := hρ 0 (by decide)
    have q1 : ρ 1 = a1 := hρ 1 (by decide)
    have q2 : ρ 2 = a2 := hρ 2 (by decide)
    have q3 : ρ 3 = a3 := hρ 3 (by decide)
    have q4 : ρ 4 = a4 := hρ 4 (by decide)
    have q5 : ρ 5 = a5 := hρ 5 (by decide)
    have q6 : ρ 6 = a6 := hρ 6 (by decide)
    have q7 : ρ 7 = a7 := hρ 7 (by decide)
    have q8 : ρ 8 = a8 := hρ 8 (by decide)
    have q9 : ρ 9 = a9 := hρ 9 (by decide)
    have q10 : ρ 10 = a10 := hρ 10 (by decide)
    have q11 : ρ 11 = a11 := hρ 11 (by decide)
    have q12 : ρ 12 = a12 := hρ 12 (by decide)
    have q13 : ρ 13 = a13 := hρ 13 (by decide)
    have q14 : ρ 14 = a14 := hρ 14 (by decide)
    have q15 : ρ 15 = (b2i (goodE [a0, a1, a2, a3, a4, a5, a6, a7, a8, a9, a10, a11, a12, a13, a14])) := by
        have t := f15 0 (by decide)
        simp only [q0, q1, q2, q3, q4, q5, q6, q7, q8, q9, q10, q11, q12, q13, q14] at t
        exact t
    have q16 : ρ 16 = (b2i (!(goodE [a0, a1, a2, a3, a4, a5, a6, a7, a8, a9, a10, a11, a12, a13, a14]))) := b2i_not f16 q15
    have q17 : ρ 17 = (codZ (decZ 0 ++ enc (a0).toNat)) := by
        have t := f17 0 (by decide)
        simp only [q0] at t
        exact t
    have q18 : ρ 18 = (codZ (decZ (codZ (decZ 0 ++ enc (a0).toNat)) ++ enc (a1).toNat)) := by
        have t := f18 0 (by decide)
        simp only [q17, q1] at t
        exact t
    have q19 : ρ 19 = (codZ (putL (decZ (codZ (decZ (codZ (decZ 0 ++ enc (a0).toNat)) ++ enc (a1).toNat))) [a2, a3, a4, a5, a6, a7, a8, a9])) := by
        have t := f19 0 (by decide)
        simp only [q18, q2, q3, q4, q5, q6, q7, q8, q9] at t
        exact t
    have q20 : ρ 20 = (codZ (decZ (codZ (putL (decZ (codZ (decZ (codZ (decZ 0 ++ enc (a0).toNat)) ++ enc (a1).toNat))) [a2, a3, a4, a5, a6, a7, a8, a9])) ++ enc (a10).toNat)) := by
        have t := f20 0 (by decide)
        simp only [q19, q10] at t
        exact t
    have q21 : ρ 21 = (codZ (decZ (codZ (decZ (codZ (putL (decZ (codZ (decZ (codZ (decZ 0 ++ enc (a0).toNat)) ++ enc (a1).toNat))) [a2, a3, a4, a5, a6, a7, a8, a9])) ++ enc (a10).toNat)) ++ enc (a14).toNat)) := by
        have t := f21 0 (by decide)
        simp only [q20, q14] at t
        exact t
    have q22 : ρ 22 = (codZ (decZ (codZ (decZ (codZ (decZ (codZ (putL (decZ (codZ (decZ (codZ (decZ 0 ++ enc (a0).toNat)) ++ enc (a1).toNat))) [a2, a3, a4, a5, a6, a7, a8, a9])) ++ enc (a10).toNat)) ++ enc (a14).toNat)) ++ lenE (decZ a11))) := by
        have t := f22 0 (by decide)
        simp only [q21, q11] at t
        exact t
    have q23 : ρ 23 = (codZ (decZ (codZ (decZ (codZ (decZ (codZ (decZ (codZ (putL (decZ (codZ (decZ (codZ (decZ 0 ++ enc (a0).toNat)) ++ enc (a1).toNat))) [a2, a3, a4, a5, a6, a7, a8, a9])) ++ enc (a10).toNat)) ++ enc (a14).toNat)) ++ lenE (decZ a11))) ++ lenE (decZ a12))) := by
        have t := f23 0 (by decide)
        simp only [q22, q12] at t
        exact t
    have q24 : ρ 24 = (codZ (decZ (codZ (decZ (codZ (decZ (codZ (decZ (codZ (decZ (codZ (putL (decZ (codZ (decZ (codZ (decZ 0 ++ enc (a0).toNat)) ++ enc (a1).toNat))) [a2, a3, a4, a5, a6, a7, a8, a9])) ++ enc (a10).toNat)) ++ enc (a14).toNat)) ++ lenE (decZ a11))) ++ lenE (decZ a12))) ++ lenE (decZ a13))) := by
        have t := f24 0 (by decide)
        simp only [q23, q13] at t
        exact t
    refine ⟨?_, ?_⟩
    · simp only [G_nil, G_bin, G_cmp, G_not, G_conv, G_eqs, G_call, G_cond, G_need, G_idx, G_sel, G_upd, G_shv, G_beq, G_prim, G_byte, G_cut, G_cat, List.map_cons, List.map_nil, Ref.den]
      exact ⟨by show (decZ (ρ 11)).length ≤ 1000 ∧ (decZ (ρ 12)).length ≤ 1000 ∧ (decZ (ρ 13)).length ≤ 1000; rw [q11, q12, q13]; exact ⟨hc, hf, hv⟩, b2i_cond q16 (by simp only [c0, decide_true, decide_false, Bool.and_true, Bool.true_and, Bool.and_false, Bool.false_and, Bool.or_true, Bool.true_or, Bool.or_false, Bool.false_or, Bool.not_true, Bool.not_false, if_true, if_false, Bool.false_eq_true]), by show (decZ 0).length ≤ 1000000; exact Nat.le_trans len_nil (by decide), by show (decZ (ρ 17)).length ≤ 1000000; rw [q17]; exact Nat.le_trans (len_num len_nil g0) (by decide), by show (decZ (ρ 18)).length ≤ 1000000; rw [q18]; exact Nat.le_trans (len_num (len_num len_nil g0) g1) (by decide), by show (decZ (ρ 19)).length ≤ 1000000; rw [q19]; exact Nat.le_trans (len_put (len_num (len_num len_nil g0) g1) rfl g8) (by decide), by show (decZ (ρ 20)).length ≤ 1000000; rw [q20]; exact Nat.le_trans (len_num (len_put (len_num (len_num len_nil g0) g1) rfl g8) g10) (by decide), ⟨by show (decZ (ρ 21)).length ≤ 1000000; rw [q21]; exact Nat.le_trans (len_num (len_num (len_put (len_num (len_num len_nil g0) g1) rfl g8) g10) g14) (by decide), by show (decZ (ρ 11)).length ≤ 1000000; rw [q11]; exact Nat.le_trans hc (by decide)⟩, ⟨by show (decZ (ρ 22)).length ≤ 1000000; rw [q22]; exact Nat.le_trans (len_txt (len_num (len_num (len_put (len_num (len_num len_nil g0) g1) rfl g8) g10) g14) hc (by decide)) (by decide), by show (decZ (ρ 12)).length ≤ 1000000; rw [q12]; exact Nat.le_trans hf (by decide)⟩, ⟨by show (decZ (ρ 23)).length ≤ 1000000; rw [q23]; exact Nat.le_trans (len_txt (len_txt (len_num (len_num (len_put (len_num (len_num len_nil g0) g1) rfl g8) g10) g14) hc (by decide)) hf (by decide)) (by decide), by show (decZ (ρ 13)).length ≤ 1000000; rw [q13]; exact Nat.le_trans hv (by decide)⟩, trivial⟩
    · show [ρ 24] = [codZ (putE [a0, a1, a2, a3, a4, a5, a6, a7, a8, a9, a10, a11, a12, a13, a14])]
      rw [q24]
      simp only [putE, c0, decZ_codZ, decZ_zero, decide_true, decide_false, Bool.and_true, Bool.true_and, Bool.and_false, Bool.false_and, Bool.or_true, Bool.true_or, Bool.or_false, Bool.false_or, Bool.not_true, Bool.not_false, if_true, if_false, Bool.false_eq_true]
#print axioms okLess
#print axioms okPut
#print axioms okGood
end Go.Proofs.Ytbhflfdlkiihgaa
