/- What is shown of the function that reads an edit. No condition. -/
import Derived.Test.YtbhflfdlkiihgaaOk3
namespace Go.Proofs.Ytbhflfdlkiihgaa
open Go.RowKit Go.Bx Go.Sx
set_option linter.unusedSimpArgs false
set_option linter.unusedVariables false
theorem is_empty (l : List UInt8) : l.isEmpty = decide (((decZ (codZ l)).length : Int) = 0) := by
  rw [decZ_codZ]; cases l <;> simp <;> omega
theorem g15 (z : Int) : ofns.g 15 [[z]] = getE 8 0 3 (decZ z) := by kernel_rfl
theorem g35 (z : Int) : ofns.g 35 [[z]] = getE 7 1 0 (decZ z) := by kernel_rfl
theorem g20a (z x : Int) : ofns.g 20 [[z, 0], [x]] = [codZ (numL x (decZ z)), b2i (numB x (decZ z) false), numV x (decZ z)] := rfl
theorem g20b (l : List UInt8) (b : Bool) (x : Int) : ofns.g 20 [[codZ l, b2i b], [x]] = [codZ (numL x l), b2i (numB x l b), numV x l] := by
  show [_, _, _] = _
  rw [decZ_codZ, b2i_ne]
theorem g21b (l : List UInt8) (b : Bool) (x : Int) : ofns.g 21 [[codZ l, b2i b], [x]] = [codZ (bytL x l), b2i (bytB x l b), codZ (bytV x l)] := by
  show [_, _, _] = _
  rw [decZ_codZ, b2i_ne]
theorem g22b (l : List UInt8) (b : Bool) : ofns.g 22 [[codZ l, b2i b]] = codZ (rl l 8) :: b2i (rb l b 8) :: getV l b := by
  show _ :: _ :: _ = _
  rw [decZ_codZ, b2i_ne]
def cGet : Ctr := ⟨9, 15, [.opq], [ED, .int .i64]⟩
set_option maxHeartbeats 400000 in
theorem okGet : CtrOK Try.prog ofns cGet := by
  refine CtrOK.of okOT4 mixed (lf := 300) (d := 5) rfl fun w vs xs ha hp => ?_
  obtain ⟨v, x, rfl, rfl, ⟨z, rfl, hs, hstr⟩⟩ := open1 ha
  have hz : (decZ z).length ≤ 1000 := hp
  obtain ⟨l1, hl1⟩ : ∃ l, l = numL 8 (decZ z) := ⟨_, rfl⟩
  obtain ⟨b1, hb1⟩ : ∃ b, b = numB 8 (decZ z) false := ⟨_, rfl⟩
  obtain ⟨v1, hv1⟩ : ∃ v, v = numV 8 (decZ z) := ⟨_, rfl⟩
  have hG2 : ofns.g 20 [[z, 0], [8]] = [codZ l1, b2i b1, v1] := by rw [g20a, hl1, hb1, hv1]
  have hn1 : l1.length ≤ 1000 := by rw [hl1]; exact Nat.le_trans (numL_len _ _) hz
  obtain ⟨l2, hl2⟩ : ∃ l, l = numL 1099511627776 l1 := ⟨_, rfl⟩
  obtain ⟨b2, hb2⟩ : ∃ b, b = numB 1099511627776 l1 b1 := ⟨_, rfl⟩
  obtain ⟨v2, hv2⟩ : ∃ v, v = numV 1099511627776 l1 := ⟨_, rfl⟩
  have hG5 : ofns.g 20 [[codZ l1, b2i b1], [1099511627776]] = [codZ l2, b2i b2, v2] := by rw [g20b, hl2, hb2, hv2]
  have hn2 : l2.length ≤ 1000 := by rw [hl2]; exact Nat.le_trans (numL_len _ _) hn1
  obtain ⟨l3, hl3⟩ : ∃ l, l = rl l2 8 := ⟨_, rfl⟩
  obtain ⟨b3, hb3⟩ : ∃ b, b = rb l2 b2 8 := ⟨_, rfl⟩
  obtain ⟨s0, s1, s2, s3, s4, s5, s6, s7, hv3⟩ := eight (getV_len l2 b2)
  have hG8 : ofns.g 22 [[codZ l2, b2i b2]] = [codZ l3, b2i b3, s0, s1, s2, s3, s4, s5, s6, s7] := by rw [g22b, hl3, hb3, hv3]
  have hn3 : l3.length ≤ 1000 := by rw [hl3]; exact Nat.le_trans (rl_len _ 8) hn2
  obtain ⟨l4, hl4⟩ : ∃ l, l = numL 2 l3 := ⟨_, rfl⟩
  obtain ⟨b4, hb4⟩ : ∃ b, b = numB 2 l3 b3 := ⟨_, rfl⟩
  obtain ⟨v4, hv4⟩ : ∃ v, v = numV 2 l3 := ⟨_, rfl⟩
  have hG18 : ofns.g 20 [[codZ l3, b2i b3], [2]] = [codZ l4, b2i b4, v4] := by rw [g20b, hl4, hb4, hv4]
  have hn4 : l4.length ≤ 1000 := by rw [hl4]; exact Nat.le_trans (numL_len _ _) hn3
  obtain ⟨l5, hl5⟩ : ∃ l, l = numL 1099511627776 l4 := ⟨_, rfl⟩
  obtain ⟨b5, hb5⟩ : ∃ b, b = numB 1099511627776 l4 b4 := ⟨_, rfl⟩
  obtain ⟨v5, hv5⟩ : ∃ v, v = numV 1099511627776 l4 := ⟨_, rfl⟩
  have hG21 : ofns.g 20 [[codZ l4, b2i b4], [1099511627776]] = [codZ l5, b2i b5, v5] := by rw [g20b, hl5, hb5, hv5]
  have hn5 : l5.length ≤ 1000 := by rw [hl5]; exact Nat.le_trans (numL_len _ _) hn4
  obtain ⟨l6, hl6⟩ : ∃ l, l = bytL 40 l5 := ⟨_, rfl⟩
  obtain ⟨b6, hb6⟩ : ∃ b, b = bytB 40 l5 b5 := ⟨_, rfl⟩
  obtain ⟨v6, hv6⟩ : ∃ v, v = bytV 40 l5 := ⟨_, rfl⟩
  have hG24 : ofns.g 21 [[codZ l5, b2i b5], [40]] = [codZ l6, b2i b6, codZ v6] := by rw [g21b, hl6, hb6, hv6]
  have hn6 : l6.length ≤ 1000 := by rw [hl6]; exact Nat.le_trans (bytL_len _ _) hn5
  have hm6 : v6.length ≤ 1000 := by rw [hv6]; exact Nat.le_trans (bytV_len _ _) hn5
  obtain ⟨l7, hl7⟩ : ∃ l, l = bytL 40 l6 := ⟨_, rfl⟩
  obtain ⟨b7, hb7⟩ : ∃ b, b = bytB 40 l6 b6 := ⟨_, rfl⟩
  obtain ⟨v7, hv7⟩ : ∃ v, v = bytV 40 l6 := ⟨_, rfl⟩
  have hG27 : ofns.g 21 [[codZ l6, b2i b6], [40]] = [codZ l7, b2i b7, codZ v7] := by rw [g21b, hl7, hb7, hv7]
  have hn7 : l7.length ≤ 1000 := by rw [hl7]; exact Nat.le_trans (bytL_len _ _) hn6
  have hm7 : v7.length ≤ 1000 := by rw [hv7]; exact Nat.le_trans (bytV_len _ _) hn6
  obtain ⟨l8, hl8⟩ : ∃ l, l = bytL 200 l7 := ⟨_, rfl⟩
  obtain ⟨b8, hb8⟩ : ∃ b, b = bytB 200 l7 b7 := ⟨_, rfl⟩
  obtain ⟨v8, hv8⟩ : ∃ v, v = bytV 200 l7 := ⟨_, rfl⟩
  have hG30 : ofns.g 21 [[codZ l7, b2i b7], [200]] = [codZ l8, b2i b8, codZ v8] := by rw [g21b, hl8, hb8, hv8]
  have hn8 : l8.length ≤ 1000 := by rw [hl8]; exact Nat.le_trans (bytL_len _ _) hn7
  have hm8 : v8.length ≤ 1000 := by rw [hv8]; exact Nat.le_trans (bytV_len _ _) hn7
  have hR : rdE (decZ z) 8 = ([v1, v2, s0, s1, s2, s3, s4, s5, s6, s7, v4, codZ v6, codZ v7, codZ v8, v5], l8, b8) := by
    simp only [rdE, ← hl1, ← hb1, ← hv1, ← hl2, ← hb2, ← hv2, ← hl3, ← hb3, hv3, ← hl4, ← hb4, ← hv4, ← hl5, ← hb5, ← hv5, ← hl6, ← hb6, ← hv6, ← hl7, ← hb7, ← hv7, ← hl8, ← hb8, ← hv8, List.cons_append, List.nil_append]
  cases c0 : b8
  · cases c1 : decide (((decZ (codZ l8)).length : Int) = 0)
    · refine Go.Sx.Way.of (dec := [true, true]) (fs := [.need 23 [[.v 0]], .call 1 23 [[.v 0]] 1, .need 20 [[.v 1, .l 0], [.l 8]], .call 2 20 [[.v 1, .l 0], [.l 8]] 3, .need 20 [[.v 2, .v 3], [.l 1099511627776]], .call 5 20 [[.v 2, .v 3], [.l 1099511627776]] 3, .need 22 [[.v 5, .v 6]], .call 8 22 [[.v 5, .v 6]] 10, .need 20 [[.v 8, .v 9], [.l 2]], .call 18 20 [[.v 8, .v 9], [.l 2]] 3, .need 20 [[.v 18, .v 19], [.l 1099511627776]], .call 21 20 [[.v 18, .v 19], [.l 1099511627776]] 3, .need 21 [[.v 21, .v 22], [.l 40]], .call 24 21 [[.v 21, .v 22], [.l 40]] 3, .need 21 [[.v 24, .v 25], [.l 40]], .call 27 21 [[.v 24, .v 25], [.l 40]] 3, .need 21 [[.v 27, .v 28], [.l 200]], .call 30 21 [[.v 27, .v 28], [.l 200]] 3, .not 33 (.v 31), .cond 33 true, .prim 34 0 [.v 30], .cmp 35 .eql (.v 34) (.l 0), .not 36 (.v 35), .cond 36 true]) (refs := [.l 0, .l 0, .l 0, .l 0, .l 0, .l 0, .l 0, .l 0, .l 0, .l 0, .l 0, .l 0, .l 0, .l 0, .l 0, .l 3]) (by kernel_rfl) fun ρ hρ hd => ?_
      simp only [D_nil, D_add, D_sub, D_mul, D_and, D_or, D_xor, D_shl, D_shr, D_andNot, D_quo, D_rem, D_add_i64, D_sub_i64, D_mul_i64, D_add_u32, D_sub_u32, D_mul_u32, D_add_u8, D_sub_u8, D_mul_u8, D_eql, D_neq, D_lss, D_leq, D_gtr, D_geq, D_not, D_conv, D_eqs, D_call, D_cond, D_need, D_idx, D_sel, D_upd, D_shv, D_beq, D_len, D_byte, D_cut, D_cat, D_must, List.map_cons, List.map_nil, Ref.den] at hd
      obtain ⟨f1, f2, f5, f8, f18, f21, f24, f27, f30, f33, f34, f35, f36, -⟩ := hd
      have q0 : ρ 0 = z := hρ 0 (by decide)
      have q1 : ρ 1 = z := by
          have t := f1 0 (by decide)
          simp only [q0] at t
          exact t
      have q2 : ρ 2 = (codZ l1) := by
          have t := f2 0 (by decide)
          simp only [q1, hG2] at t
          exact t
      have q3 : ρ 3 = (b2i (b1)) := by
          have t := f2 1 (by decide)
          simp only [q1, hG2] at t
          exact t
      have q4 : ρ 4 = v1 := by
          have t := f2 2 (by decide)
          simp only [q1, hG2] at t
          exact t
      have q5 : ρ 5 = (codZ l2) := by
          have t := f5 0 (by decide)
          simp only [q2, q3, hG5] at t
          exact t
      have q6 : ρ 6 = (b2i (b2)) := by
          have t := f5 1 (by decide)
          simp only [q2, q3, hG5] at t
          exact t
      have q7 : ρ 7 = v2 := by
          have t := f5 2 (by decide)
          simp only [q2, q3, hG5] at t
          exact t
      have q8 : ρ 8 = (codZ l3) := by
          have t := f8 0 (by decide)
          simp only [q5, q6, hG8] at t
          exact t
      have q9 : ρ 9 = (b2i (b3)) := by
          have t := f8 1 (by decide)
          simp only [q5, q6, hG8] at t
          exact t
      have q10 : ρ 10 = s0 := by
          have t := f8 2 (by decide)
          simp only [q5, q6, hG8] at t
          exact t
      have q11 : ρ 11 = s1 := by
          have t := f8 3 (by decide)
          simp only [q5, q6, hG8] at t
          exact t
      have q12 : ρ 12 = s2 := by
          have t := f8 4 (by decide)
          simp only [q5, q6, hG8] at t
          exact t
      have q13 : ρ 13 = s3 := by
          have t := f8 5 (by decide)
          simp only [q5, q6, hG8] at t
          exact t
      have q14 : ρ 14 = s4 := by
          have t := f8 6 (by decide)
          simp only [q5, q6, hG8] at t
          exact t
      have q15 : ρ 15 = s5 := by
          have t := f8 7 (by decide)
          simp only [q5, q6, hG8] at t
          exact t
      have q16 : ρ 16 = s6 := by
          have t := f8 8 (by decide)
          simp only [q5, q6, hG8] at t
          exact t
      have q17 : ρ 17 = s7 := by
          have t := f8 9 (by decide)
          simp only [q5, q6, hG8] at t
          exact t
      have q18 : ρ 18 = (codZ l4) := by
          have t := f18 0 (by decide)
          simp only [q8, q9, hG18] at t
          exact t
      have q19 : ρ 19 = (b2i (b4)) := by
          have t := f18 1 (by decide)
          simp only [q8, q9, hG18] at t
          exact t
      have q20 : ρ 20 = v4 := by
          have t := f18 2 (by decide)
          simp only [q8, q9, hG18] at t
          exact t
      have q21 : ρ 21 = (codZ l5) := by
          have t := f21 0 (by decide)
          simp only [q18, q19, hG21] at t
          exact t
      have q22 : ρ 22 = (b2i (b5)) := by
          have t := f21 1 (by decide)
          simp only [q18, q19, hG21] at t
          exact t
      have q23 : ρ 23 = v5 := by
          have t := f21 2 (by decide)
          simp only [q18, q19, hG21] at t
          exact t
      have q24 : ρ 24 = (codZ l6) := by
          have t := f24 0 (by decide)
          simp only [q21, q22, hG24] at t
          exact t
      have q25 : ρ 25 = (b2i (b6)) := by
          have t := f24 1 (by decide)
          simp only [q21, q22, hG24] at t
          exact t
      have q26 : ρ 26 = (codZ v6) := by
          have t := f24 2 (by decide)
          simp only [q21, q22, hG24] at t
          exact t
      have q27 : ρ 27 = (codZ l7) := by
          have t := f27 0 (by decide)
          simp only [q24, q25, hG27] at t
          exact t
      have q28 : ρ 28 = (b2i (b7)) := by
          have t := f27 1 (by decide)
          simp only [q24, q25, hG27] at t
          exact t
      have q29 : ρ 29 = (codZ v7) := by
          have t := f27 2 (by decide)
          simp only [q24, q25, hG27] at t
          exact t
      have q30 : ρ 30 = (codZ l8) := by
          have t := f30 0 (by decide)
          simp only [q27, q28, hG30] at t
          exact t
      have q31 : ρ 31 = (b2i (b8)) := by
          have t := f30 1 (by decide)
          simp only [q27, q28, hG30] at t
          exact t
      have q32 : ρ 32 = (codZ v8) := by
          have t := f30 2 (by decide)
          simp only [q27, q28, hG30] at t
          exact t
      have q33 : ρ 33 = (b2i (!b8)) := b2i_not f33 q31
      have q34 : ρ 34 = ((decZ (codZ l8)).length : Int) := by rw [f34, q30]
      have q35 : ρ 35 = (b2i (decide (((decZ (codZ l8)).length : Int) = 0))) := b2i_dec f35 (by simp only [q34])
      have q36 : ρ 36 = (b2i (!(decide (((decZ (codZ l8)).length : Int) = 0)))) := b2i_not f36 q35
      refine ⟨?_, ?_⟩
      · simp only [G_nil, G_bin, G_cmp, G_not, G_conv, G_eqs, G_call, G_cond, G_need, G_idx, G_sel, G_upd, G_shv, G_beq, G_prim, G_byte, G_cut, G_cat, List.map_cons, List.map_nil, Ref.den]
        refine ⟨?_, ?_, ?_, ?_, ?_, ?_, ?_, ?_, ?_, ?_, ?_, trivial⟩
        · exact by show (decZ (ρ 0)).length ≤ 1000000; rw [q0]; omega
        · exact by show (decZ (ρ 1)).length ≤ 1000000; rw [q1]; omega
        · exact by show (decZ (ρ 2)).length ≤ 1000000; rw [q2, decZ_codZ]; omega
        · exact by show (decZ (ρ 5)).length ≤ 1000000; rw [q5, decZ_codZ]; omega
        · exact by show (decZ (ρ 8)).length ≤ 1000000; rw [q8, decZ_codZ]; omega
        · exact by show (decZ (ρ 18)).length ≤ 1000000; rw [q18, decZ_codZ]; omega
        · exact by show (decZ (ρ 21)).length ≤ 1000000; rw [q21, decZ_codZ]; omega
        · exact by show (decZ (ρ 24)).length ≤ 1000000; rw [q24, decZ_codZ]; omega
        · exact by show (decZ (ρ 27)).length ≤ 1000000; rw [q27, decZ_codZ]; omega
        · exact b2i_cond q33 (by simp only [c0, decide_true, decide_false, Bool.and_true, Bool.true_and, Bool.and_false, Bool.false_and, Bool.or_true, Bool.true_or, Bool.or_false, Bool.false_or, Bool.not_true, Bool.not_false, if_true, if_false, Bool.false_eq_true])
        · exact b2i_cond q36 (by simp only [c1, decide_true, decide_false, Bool.and_true, Bool.true_and, Bool.and_false, Bool.false_and, Bool.or_true, Bool.true_or, Bool.or_false, Bool.false_or, Bool.not_true, Bool.not_false, if_true, if_false, Bool.false_eq_true])
      · show _ = ofns.g 15 [[z]]
        rw [g15]
        show [0, 0, 0, 0, 0, 0, 0, 0, 0, 0, 0, 0, 0, 0, 0, 3] = getE 8 0 3 (decZ z)
        simp only [getE, hR, is_empty, decide_true, decide_false, Bool.and_true, Bool.true_and, Bool.and_false, Bool.false_and, Bool.or_true, Bool.true_or, Bool.or_false, Bool.false_or, Bool.not_true, Bool.not_false, if_true, if_false, Bool.false_eq_true, c0, c1]
        try rfl
    · cases c2 : goodE [v1, v2, s0, s1, s2, s3, s4, s5, s6, s7, v4, (codZ v6), (codZ v7), (codZ v8), v5]
      · refine Go.Sx.Way.of (dec := [true, false, true]) (fs := [.need 23 [[.v 0]], .call 1 23 [[.v 0]] 1, .need 20 [[.v 1, .l 0], [.l 8]], .call 2 20 [[.v 1, .l 0], [.l 8]] 3, .need 20 [[.v 2, .v 3], [.l 1099511627776]], .call 5 20 [[.v 2, .v 3], [.l 1099511627776]] 3, .need 22 [[.v 5, .v 6]], .call 8 22 [[.v 5, .v 6]] 10, .need 20 [[.v 8, .v 9], [.l 2]], .call 18 20 [[.v 8, .v 9], [.l 2]] 3, .need 20 [[.v 18, .v 19], [.l 1099511627776]], .call 21 20 [[.v 18, .v 19], [.l 1099511627776]] 3, .need 21 [[.v 21, .v 22], [.l 40]], .call 24 21 [[.v 21, .v 22], [.l 40]] 3, .need 21 [[.v 24, .v 25], [.l 40]], .call 27 21 [[.v 24, .v 25], [.l 40]] 3, .need 21 [[.v 27, .v 28], [.l 200]], .call 30 21 [[.v 27, .v 28], [.l 200]] 3, .not 33 (.v 31), .cond 33 true, .prim 34 0 [.v 30], .cmp 35 .eql (.v 34) (.l 0), .not 36 (.v 35), .cond 36 false, .need 10 [[.v 4, .v 7, .v 10, .v 11, .v 12, .v 13, .v 14, .v 15, .v 16, .v 17, .v 20, .v 26, .v 29, .v 32, .v 23]], .call 37 10 [[.v 4, .v 7, .v 10, .v 11, .v 12, .v 13, .v 14, .v 15, .v 16, .v 17, .v 20, .v 26, .v 29, .v 32, .v 23]] 1, .not 38 (.v 37), .cond 38 true]) (refs := [.l 0, .l 0, .l 0, .l 0, .l 0, .l 0, .l 0, .l 0, .l 0, .l 0, .l 0, .l 0, .l 0, .l 0, .l 0, .l 3]) (by kernel_rfl) fun ρ hρ hd => ?_
        simp only [D_nil, D_add, D_sub, D_mul, D_and, D_or, D_xor, D_shl, D_shr, D_andNot, D_quo, D_rem, D_add_i64, D_sub_i64, D_mul_i64, D_add_u32, D_sub_u32, D_mul_u32, D_add_u8, D_sub_u8, D_mul_u8, D_eql, D_neq, D_lss, D_leq, D_gtr, D_geq, D_not, D_conv, D_eqs, D_call, D_cond, D_need, D_idx, D_sel, D_upd, D_shv, D_beq, D_len, D_byte, D_cut, D_cat, D_must, List.map_cons, List.map_nil, Ref.den] at hd
        obtain ⟨f1, f2, f5, f8, f18, f21, f24, f27, f30, f33, f34, f35, f36, f37, f38, -⟩ := hd
        have q0 : ρ 0 = z := hρ 0 (by decide)
        have q1 : ρ 1 = z := by
            have t := f1 0 (by decide)
            simp only [q0] at t
            exact t
        have q2 : ρ 2 = (codZ l1) := by
            have t := f2 0 (by decide)
            simp only [q1, hG2] at t
            exact t
        have q3 : ρ 3 = (b2i (b1)) := by
            have t := f2 1 (by decide)
            simp only [q1, hG2] at t
            exact t
        have q4 : ρ 4 = v1 := by
            have t := f2 2 (by decide)
            simp only [q1, hG2] at t
            exact t
        have q5 : ρ 5 = (codZ l2) := by
            have t := f5 0 (by decide)
            simp only [q2, q3, hG5] at t
            exact t
        have q6 : ρ 6 = (b2i (b2)) := by
            have t := f5 1 (by decide)
            simp only [q2, q3, hG5] at t
            exact t
        have q7 : ρ 7 = v2 := by
            have t := f5 2 (by decide)
            simp only [q2, q3, hG5] at t
            exact t
        have q8 : ρ 8 = (codZ l3) := by
            have t := f8 0 (by decide)
            simp only [q5, q6, hG8] at t
            exact t
        have q9 : ρ 9 = (b2i (b3)) := by
            have t := f8 1 (by decide)
            simp only [q5, q6, hG8] at t
            exact t
        have q10 : ρ 10 = s0 := by
            have t := f8 2 (by decide)
            simp only [q5, q6, hG8] at t
            exact t
        have q11 : ρ 11 = s1 := by
            have t := f8 3 (by decide)
            simp only [q5, q6, hG8] at t
            exact t
        have q12 : ρ 12 = s2 := by
            have t := f8 4 (by decide)
            simp only [q5, q6, hG8] at t
            exact t
        have q13 : ρ 13 = s3 := by
            have t := f8 5 (by decide)
            simp only [q5, q6, hG8] at t
            exact t
        have q14 : ρ 14 = s4 := by
            have t := f8 6 (by decide)
            simp only [q5, q6, hG8] at t
            exact t
        have q15 : ρ 15 = s5 := by
            have t := f8 7 (by decide)
            simp only [q5, q6, hG8] at t
            exact t
        have q16 : ρ 16 = s6 := by
            have t := f8 8 (by decide)
            simp only [q5, q6, hG8] at t
            exact t
        have q17 : ρ 17 = s7 := by
            have t := f8 9 (by decide)
            simp only [q5, q6, hG8] at t
            exact t
        have q18 : ρ 18 = (codZ l4) := by
            have t := f18 0 (by decide)
            simp only [q8, q9, hG18] at t
            exact t
        have q19 : ρ 19 = (b2i (b4)) := by
            have t := f18 1 (by decide)
            simp only [q8, q9, hG18] at t
            exact t
        have q20 : ρ 20 = v4 := by
            have t := f18 2 (by decide)
            simp only [q8, q9, hG18] at t
            exact t
        have q21 : ρ 21 = (codZ l5) := by
            have t := f21 0 (by decide)
            simp only [q18, q19, hG21] at t
            exact t
        have q22 : ρ 22 = (b2i (b5)) := by
            have t := f21 1 (by decide)
            simp only [q18, q19, hG21] at t
            exact t
        have q23 : ρ 23 = v5 := by
            have t := f21 2 (by decide)
            simp only [q18, q19, hG21] at t
            exact t
        have q24 : ρ 24 = (codZ l6) := by
            have t := f24 0 (by decide)
            simp only [q21, q22, hG24] at t
            exact t
        have q25 : ρ 25 = (b2i (b6)) := by
            have t := f24 1 (by decide)
            simp only [q21, q22, hG24] at t
            exact t
        have q26 : ρ 26 = (codZ v6) := by
            have t := f24 2 (by decide)
            simp only [q21, q22, hG24] at t
            exact t
        have q27 : ρ 27 = (codZ l7) := by
            have t := f27 0 (by decide)
            simp only [q24, q25, hG27] at t
            exact t
        have q28 : ρ 28 = (b2i (b7)) := by
            have t := f27 1 (by decide)
            simp only [q24, q25, hG27] at t
            exact t
        have q29 : ρ 29 = (codZ v7) := by
            have t := f27 2 (by decide)
            simp only [q24, q25, hG27] at t
            exact t
        have q30 : ρ 30 = (codZ l8) := by
            have t := f30 0 (by decide)
            simp only [q27, q28, hG30] at t
            exact t
        have q31 : ρ 31 = (b2i (b8)) := by
            have t := f30 1 (by decide)
            simp only [q27, q28, hG30] at t
            exact t
        have q32 : ρ 32 = (codZ v8) := by
            have t := f30 2 (by decide)
            simp only [q27, q28, hG30] at t
            exact t
        have q33 : ρ 33 = (b2i (!b8)) := b2i_not f33 q31
        have q34 : ρ 34 = ((decZ (codZ l8)).length : Int) := by rw [f34, q30]
        have q35 : ρ 35 = (b2i (decide (((decZ (codZ l8)).length : Int) = 0))) := b2i_dec f35 (by simp only [q34])
        have q36 : ρ 36 = (b2i (!(decide (((decZ (codZ l8)).length : Int) = 0)))) := b2i_not f36 q35
        have q37 : ρ 37 = (b2i (goodE [v1, v2, s0, s1, s2, s3, s4, s5, s6, s7, v4, (codZ v6), (codZ v7), (codZ v8), v5])) := by
            have t := f37 0 (by decide)
            simp only [q4, q7, q10, q11, q12, q13, q14, q15, q16, q17, q20, q26, q29, q32, q23] at t
            exact t
        have q38 : ρ 38 = (b2i (!(goodE [v1, v2, s0, s1, s2, s3, s4, s5, s6, s7, v4, (codZ v6), (codZ v7), (codZ v8), v5]))) := b2i_not f38 q37
        refine ⟨?_, ?_⟩
        · simp only [G_nil, G_bin, G_cmp, G_not, G_conv, G_eqs, G_call, G_cond, G_need, G_idx, G_sel, G_upd, G_shv, G_beq, G_prim, G_byte, G_cut, G_cat, List.map_cons, List.map_nil, Ref.den]
          refine ⟨?_, ?_, ?_, ?_, ?_, ?_, ?_, ?_, ?_, ?_, ?_, ?_, ?_, trivial⟩
          · exact by show (decZ (ρ 0)).length ≤ 1000000; rw [q0]; omega
          · exact by show (decZ (ρ 1)).length ≤ 1000000; rw [q1]; omega
          · exact by show (decZ (ρ 2)).length ≤ 1000000; rw [q2, decZ_codZ]; omega
          · exact by show (decZ (ρ 5)).length ≤ 1000000; rw [q5, decZ_codZ]; omega
          · exact by show (decZ (ρ 8)).length ≤ 1000000; rw [q8, decZ_codZ]; omega
          · exact by show (decZ (ρ 18)).length ≤ 1000000; rw [q18, decZ_codZ]; omega
          · exact by show (decZ (ρ 21)).length ≤ 1000000; rw [q21, decZ_codZ]; omega
          · exact by show (decZ (ρ 24)).length ≤ 1000000; rw [q24, decZ_codZ]; omega
          · exact by show (decZ (ρ 27)).length ≤ 1000000; rw [q27, decZ_codZ]; omega
          · exact b2i_cond q33 (by simp only [c0, decide_true, decide_false, Bool.and_true, Bool.true_and, Bool.and_false, Bool.false_and, Bool.or_true, Bool.true_or, Bool.or_false, Bool.false_or, Bool.not_true, Bool.not_false, if_true, if_false, Bool.false_eq_true])
          · exact b2i_cond q36 (by simp only [c1, decide_true, decide_false, Bool.and_true, Bool.true_and, Bool.and_false, Bool.false_and, Bool.or_true, Bool.true_or, Bool.or_false, Bool.false_or, Bool.not_true, Bool.not_false, if_true, if_false, Bool.false_eq_true])
          · exact by show (decZ (ρ 26)).length ≤ 1000 ∧ (decZ (ρ 29)).length ≤ 1000 ∧ (decZ (ρ 32)).length ≤ 1000; rw [q26, q29, q32, decZ_codZ, decZ_codZ, decZ_codZ]; exact ⟨hm6, hm7, hm8⟩
          · exact b2i_cond q38 (by simp only [c2, decide_true, decide_false, Bool.and_true, Bool.true_and, Bool.and_false, Bool.false_and, Bool.or_true, Bool.true_or, Bool.or_false, Bool.false_or, Bool.not_true, Bool.not_false, if_true, if_false, Bool.false_eq_true])
        · show _ = ofns.g 15 [[z]]
          rw [g15]
          show [0, 0, 0, 0, 0, 0, 0, 0, 0, 0, 0, 0, 0, 0, 0, 3] = getE 8 0 3 (decZ z)
          simp only [getE, hR, is_empty, decide_true, decide_false, Bool.and_true, Bool.true_and, Bool.and_false, Bool.false_and, Bool.or_true, Bool.true_or, Bool.or_false, Bool.false_or, Bool.not_true, Bool.not_false, if_true, if_false, Bool.false_eq_true, c0, c1, c2]
          try rfl
      · refine Go.Sx.Way.of (dec := [true, false, false]) (fs := [.need 23 [[.v 0]], .call 1 23 [[.v 0]] 1, .need 20 [[.v 1, .l 0], [.l 8]], .call 2 20 [[.v 1, .l 0], [.l 8]] 3, .need 20 [[.v 2, .v 3], [.l 1099511627776]], .call 5 20 [[.v 2, .v 3], [.l 1099511627776]] 3, .need 22 [[.v 5, .v 6]], .call 8 22 [[.v 5, .v 6]] 10, .need 20 [[.v 8, .v 9], [.l 2]], .call 18 20 [[.v 8, .v 9], [.l 2]] 3, .need 20 [[.v 18, .v 19], [.l 1099511627776]], .call 21 20 [[.v 18, .v 19], [.l 1099511627776]] 3, .need 21 [[.v 21, .v 22], [.l 40]], .call 24 21 [[.v 21, .v 22], [.l 40]] 3, .need 21 [[.v 24, .v 25], [.l 40]], .call 27 21 [[.v 24, .v 25], [.l 40]] 3, .need 21 [[.v 27, .v 28], [.l 200]], .call 30 21 [[.v 27, .v 28], [.l 200]] 3, .not 33 (.v 31), .cond 33 true, .prim 34 0 [.v 30], .cmp 35 .eql (.v 34) (.l 0), .not 36 (.v 35), .cond 36 false, .need 10 [[.v 4, .v 7, .v 10, .v 11, .v 12, .v 13, .v 14, .v 15, .v 16, .v 17, .v 20, .v 26, .v 29, .v 32, .v 23]], .call 37 10 [[.v 4, .v 7, .v 10, .v 11, .v 12, .v 13, .v 14, .v 15, .v 16, .v 17, .v 20, .v 26, .v 29, .v 32, .v 23]] 1, .not 38 (.v 37), .cond 38 false]) (refs := [.v 4, .v 7, .v 10, .v 11, .v 12, .v 13, .v 14, .v 15, .v 16, .v 17, .v 20, .v 26, .v 29, .v 32, .v 23, .l 0]) (by kernel_rfl) fun ρ hρ hd => ?_
        simp only [D_nil, D_add, D_sub, D_mul, D_and, D_or, D_xor, D_shl, D_shr, D_andNot, D_quo, D_rem, D_add_i64, D_sub_i64, D_mul_i64, D_add_u32, D_sub_u32, D_mul_u32, D_add_u8, D_sub_u8, D_mul_u8, D_eql, D_neq, D_lss, D_leq, D_gtr, D_geq, D_not, D_conv, D_eqs, D_call, D_cond, D_need, D_idx, D_sel, D_upd, D_shv, D_beq, D_len, D_byte, D_cut, D_cat, D_must, List.map_cons, List.map_nil, Ref.den] at hd
        obtain ⟨f1, f2, f5, f8, f18, f21, f24, f27, f30, f33, f34, f35, f36, f37, f38, -⟩ := hd
        have q0 : ρ 0 = z := hρ 0 (by decide)
        have q1 : ρ 1 = z := by
            have t := f1 0 (by decide)
            simp only [q0] at t
            exact t
        have q2 : ρ 2 = (codZ l1) := by
            have t := f2 0 (by decide)
            simp only [q1, hG2] at t
            exact t
        have q3 : ρ 3 = (b2i (b1)) := by
            have t := f2 1 (by decide)
            simp only [q1, hG2] at t
            exact t
        have q4 : ρ 4 = v1 := by
            have t := f2 2 (by decide)
            simp only [q1, hG2] at t
            exact t
        have q5 : ρ 5 = (codZ l2) := by
            have t := f5 0 (by decide)
            simp only [q2, q3, hG5] at t
            exact t
        have q6 : ρ 6 = (b2i (b2)) := by
            have t := f5 1 (by decide)
            simp only [q2, q3, hG5] at t
            exact t
        have q7 : ρ 7 = v2 := by
            have t := f5 2 (by decide)
            simp only [q2, q3, hG5] at t
            exact t
        have q8 : ρ 8 = (codZ l3) := by
            have t := f8 0 (by decide)
            simp only [q5, q6, hG8] at t
            exact t
        have q9 : ρ 9 = (b2i (b3)) := by
            have t := f8 1 (by decide)
            simp only [q5, q6, hG8] at t
            exact t
        have q10 : ρ 10 = s0 := by
            have t := f8 2 (by decide)
            simp only [q5, q6, hG8] at t
            exact t
        have q11 : ρ 11 = s1 := by
            have t := f8 3 (by decide)
            simp only [q5, q6, hG8] at t
            exact t
        have q12 : ρ 12 = s2 := by
            have t := f8 4 (by decide)
            simp only [q5, q6, hG8] at t
            exact t
        have q13 : ρ 13 = s3 := by
            have t := f8 5 (by decide)
            simp only [q5, q6, hG8] at t
            exact t
        have q14 : ρ 14 = s4 := by
            have t := f8 6 (by decide)
            simp only [q5, q6, hG8] at t
            exact t
        have q15 : ρ 15 = s5 := by
            have t := f8 7 (by decide)
            simp only [q5, q6, hG8] at t
            exact t
        have q16 : ρ 16 = s6 := by
            have t := f8 8 (by decide)
            simp only [q5, q6, hG8] at t
            exact t
        have q17 : ρ 17 = s7 := by
            have t := f8 9 (by decide)
            simp only [q5, q6, hG8] at t
            exact t
        have q18 : ρ 18 = (codZ l4) := by
            have t := f18 0 (by decide)
            simp only [q8, q9, hG18] at t
            exact t
        have q19 : ρ 19 = (b2i (b4)) := by
            have t := f18 1 (by decide)
            simp only [q8, q9, hG18] at t
            exact t
        have q20 : ρ 20 = v4 := by
            have t := f18 2 (by decide)
            simp only [q8, q9, hG18] at t
            exact t
        have q21 : ρ 21 = (codZ l5) := by
            have t := f21 0 (by decide)
            simp only [q18, q19, hG21] at t
            exact t
        have q22 : ρ 22 = (b2i (b5)) := by
            have t := f21 1 (by decide)
            simp only [q18, q19, hG21] at t
            exact t
        have q23 : ρ 23 = v5 := by
            have t := f21 2 (by decide)
            simp only [q18, q19, hG21] at t
            exact t
        have q24 : ρ 24 = (codZ l6) := by
            have t := f24 0 (by decide)
            simp only [q21, q22, hG24] at t
            exact t
        have q25 : ρ 25 = (b2i (b6)) := by
            have t := f24 1 (by decide)
            simp only [q21, q22, hG24] at t
            exact t
        have q26 : ρ 26 = (codZ v6) := by
            have t := f24 2 (by decide)
            simp only [q21, q22, hG24] at t
            exact t
        have q27 : ρ 27 = (codZ l7) := by
            have t := f27 0 (by decide)
            simp only [q24, q25, hG27] at t
            exact t
        have q28 : ρ 28 = (b2i (b7)) := by
            have t := f27 1 (by decide)
            simp only [q24, q25, hG27] at t
            exact t
        have q29 : ρ 29 = (codZ v7) := by
            have t := f27 2 (by decide)
            simp only [q24, q25, hG27] at t
            exact t
        have q30 : ρ 30 = (codZ l8) := by
            have t := f30 0 (by decide)
            simp only [q27, q28, hG30] at t
            exact t
        have q31 : ρ 31 = (b2i (b8)) := by
            have t := f30 1 (by decide)
            simp only [q27, q28, hG30] at t
            exact t
        have q32 : ρ 32 = (codZ v8) := by
            have t := f30 2 (by decide)
            simp only [q27, q28, hG30] at t
            exact t
        have q33 : ρ 33 = (b2i (!b8)) := b2i_not f33 q31
        have q34 : ρ 34 = ((decZ (codZ l8)).length : Int) := by rw [f34, q30]
        have q35 : ρ 35 = (b2i (decide (((decZ (codZ l8)).length : Int) = 0))) := b2i_dec f35 (by simp only [q34])
        have q36 : ρ 36 = (b2i (!(decide (((decZ (codZ l8)).length : Int) = 0)))) := b2i_not f36 q35
        have q37 : ρ 37 = (b2i (goodE [v1, v2, s0, s1, s2, s3, s4, s5, s6, s7, v4, (codZ v6), (codZ v7), (codZ v8), v5])) := by
            have t := f37 0 (by decide)
            simp only [q4, q7, q10, q11, q12, q13, q14, q15, q16, q17, q20, q26, q29, q32, q23] at t
            exact t
        have q38 : ρ 38 = (b2i (!(goodE [v1, v2, s0, s1, s2, s3, s4, s5, s6, s7, v4, (codZ v6), (codZ v7), (codZ v8), v5]))) := b2i_not f38 q37
        refine ⟨?_, ?_⟩
        · simp only [G_nil, G_bin, G_cmp, G_not, G_conv, G_eqs, G_call, G_cond, G_need, G_idx, G_sel, G_upd, G_shv, G_beq, G_prim, G_byte, G_cut, G_cat, List.map_cons, List.map_nil, Ref.den]
          refine ⟨?_, ?_, ?_, ?_, ?_, ?_, ?_, ?_, ?_, ?_, ?_, ?_, ?_, trivial⟩
          · exact by show (decZ (ρ 0)).length ≤ 1000000; rw [q0]; omega
          · exact by show (decZ (ρ 1)).length ≤ 1000000; rw [q1]; omega
          · exact by show (decZ (ρ 2)).length ≤ 1000000; rw [q2, decZ_codZ]; omega
          · exact by show (decZ (ρ 5)).length ≤ 1000000; rw [q5, decZ_codZ]; omega
          · exact by show (decZ (ρ 8)).length ≤ 1000000; rw [q8, decZ_codZ]; omega
          · exact by show (decZ (ρ 18)).length ≤ 1000000; rw [q18, decZ_codZ]; omega
          · exact by show (decZ (ρ 21)).length ≤ 1000000; rw [q21, decZ_codZ]; omega
          · exact by show (decZ (ρ 24)).length ≤ 1000000; rw [q24, decZ_codZ]; omega
          · exact by show (decZ (ρ 27)).length ≤ 1000000; rw [q27, decZ_codZ]; omega
          · exact b2i_cond q33 (by simp only [c0, decide_true, decide_false, Bool.and_true, Bool.true_and, Bool.and_false, Bool.false_and, Bool.or_true, Bool.true_or, Bool.or_false, Bool.false_or, Bool.not_true, Bool.not_false, if_true, if_false, Bool.false_eq_true])
          · exact b2i_cond q36 (by simp only [c1, decide_true, decide_false, Bool.and_true, Bool.true_and, Bool.and_false, Bool.false_and, Bool.or_true, Bool.true_or, Bool.or_false, Bool.false_or, Bool.not_true, Bool.not_false, if_true, if_false, Bool.false_eq_true])
          · exact by show (decZ (ρ 26)).length ≤ 1000 ∧ (decZ (ρ 29)).length ≤ 1000 ∧ (decZ (ρ 32)).length ≤ 1000; rw [q26, q29, q32, decZ_codZ, decZ_codZ, decZ_codZ]; exact ⟨hm6, hm7, hm8⟩
          · exact b2i_cond q38 (by simp only [c2, decide_true, decide_false, Bool.and_true, Bool.true_and, Bool.and_false, Bool.false_and, Bool.or_true, Bool.true_or, Bool.or_false, Bool.false_or, Bool.not_true, Bool.not_false, if_true, if_false, Bool.false_eq_true])
        · show _ = ofns.g 15 [[z]]
          rw [g15]
          show [ρ 4, ρ 7, ρ 10, ρ 11, ρ 12, ρ 13, ρ 14, ρ 15, ρ 16, ρ 17, ρ 20, ρ 26, ρ 29, ρ 32, ρ 23, 0] = getE 8 0 3 (decZ z)
          simp only [getE, hR, is_empty, q4, q7, q10, q11, q12, q13, q14, q15, q16, q17, q20, q26, q29, q32, q23, decide_true, decide_false, Bool.and_true, Bool.true_and, Bool.and_false, Bool.false_and, Bool.or_true, Bool.true_or, Bool.or_false, Bool.false_or, Bool.not_true, Bool.not_false, if_true, if_false, Bool.false_eq_true, c0, c1, c2]
          try rfl
  · refine Go.Sx.Way.of (dec := [false]) (fs := [.need 23 [[.v 0]], .call 1 23 [[.v 0]] 1, .need 20 [[.v 1, .l 0], [.l 8]], .call 2 20 [[.v 1, .l 0], [.l 8]] 3, .need 20 [[.v 2, .v 3], [.l 1099511627776]], .call 5 20 [[.v 2, .v 3], [.l 1099511627776]] 3, .need 22 [[.v 5, .v 6]], .call 8 22 [[.v 5, .v 6]] 10, .need 20 [[.v 8, .v 9], [.l 2]], .call 18 20 [[.v 8, .v 9], [.l 2]] 3, .need 20 [[.v 18, .v 19], [.l 1099511627776]], .call 21 20 [[.v 18, .v 19], [.l 1099511627776]] 3, .need 21 [[.v 21, .v 22], [.l 40]], .call 24 21 [[.v 21, .v 22], [.l 40]] 3, .need 21 [[.v 24, .v 25], [.l 40]], .call 27 21 [[.v 24, .v 25], [.l 40]] 3, .need 21 [[.v 27, .v 28], [.l 200]], .call 30 21 [[.v 27, .v 28], [.l 200]] 3, .not 33 (.v 31), .cond 33 false]) (refs := [.l 0, .l 0, .l 0, .l 0, .l 0, .l 0, .l 0, .l 0, .l 0, .l 0, .l 0, .l 0, .l 0, .l 0, .l 0, .l 3]) (by kernel_rfl) fun ρ hρ hd => ?_
    simp only [D_nil, D_add, D_sub, D_mul, D_and, D_or, D_xor, D_shl, D_shr, D_andNot, D_quo, D_rem, D_add_i64, D_sub_i64, D_mul_i64, D_add_u32, D_sub_u32, D_mul_u32, D_add_u8, D_sub_u8, D_mul_u8, D_eql, D_neq, D_lss, D_leq, D_gtr, D_geq, D_not, D_conv, D_eqs, D_call, D_cond, D_need, D_idx, D_sel, D_upd, D_shv, D_beq, D_len, D_byte, D_cut, D_cat, D_must, List.map_cons, List.map_nil, Ref.den] at hd
    obtain ⟨f1, f2, f5, f8, f18, f21, f24, f27, f30, f33, -⟩ := hd
    have q0 : ρ 0 = z := hρ 0 (by decide)
    have q1 : ρ 1 = z := by
        have t := f1 0 (by decide)
        simp only [q0] at t
        exact t
    have q2 : ρ 2 = (codZ l1) := by
        have t := f2 0 (by decide)
        simp only [q1, hG2] at t
        exact t
    have q3 : ρ 3 = (b2i (b1)) := by
        have t := f2 1 (by decide)
        simp only [q1, hG2] at t
        exact t
    have q4 : ρ 4 = v1 := by
        have t := f2 2 (by decide)
        simp only [q1, hG2] at t
        exact t
    have q5 : ρ 5 = (codZ l2) := by
        have t := f5 0 (by decide)
        simp only [q2, q3, hG5] at t
        exact t
    have q6 : ρ 6 = (b2i (b2)) := by
        have t := f5 1 (by decide)
        simp only [q2, q3, hG5] at t
        exact t
    have q7 : ρ 7 = v2 := by
        have t := f5 2 (by decide)
        simp only [q2, q3, hG5] at t
        exact t
    have q8 : ρ 8 = (codZ l3) := by
        have t := f8 0 (by decide)
        simp only [q5, q6, hG8] at t
        exact t
    have q9 : ρ 9 = (b2i (b3)) := by
        have t := f8 1 (by decide)
        simp only [q5, q6, hG8] at t
        exact t
    have q10 : ρ 10 = s0 := by
        have t := f8 2 (by decide)
        simp only [q5, q6, hG8] at t
        exact t
    have q11 : ρ 11 = s1 := by
        have t := f8 3 (by decide)
        simp only [q5, q6, hG8] at t
        exact t
    have q12 : ρ 12 = s2 := by
        have t := f8 4 (by decide)
        simp only [q5, q6, hG8] at t
        exact t
    have q13 : ρ 13 = s3 := by
        have t := f8 5 (by decide)
        simp only [q5, q6, hG8] at t
        exact t
    have q14 : ρ 14 = s4 := by
        have t := f8 6 (by decide)
        simp only [q5, q6, hG8] at t
        exact t
    have q15 : ρ 15 = s5 := by
        have t := f8 7 (by decide)
        simp only [q5, q6, hG8] at t
        exact t
    have q16 : ρ 16 = s6 := by
        have t := f8 8 (by decide)
        simp only [q5, q6, hG8] at t
        exact t
    have q17 : ρ 17 = s7 := by
        have t := f8 9 (by decide)
        simp only [q5, q6, hG8] at t
        exact t
    have q18 : ρ 18 = (codZ l4) := by
        have t := f18 0 (by decide)
        simp only [q8, q9, hG18] at t
        exact t
    have q19 : ρ 19 = (b2i (b4)) := by
        have t := f18 1 (by decide)
        simp only [q8, q9, hG18] at t
        exact t
    have q20 : ρ 20 = v4 := by
        have t := f18 2 (by decide)
        simp only [q8, q9, hG18] at t
        exact t
    have q21 : ρ 21 = (codZ l5) := by
        have t := f21 0 (by decide)
        simp only [q18, q19, hG21] at t
        exact t
    have q22 : ρ 22 = (b2i (b5)) := by
        have t := f21 1 (by decide)
        simp only [q18, q19, hG21] at t
        exact t
    have q23 : ρ 23 = v5 := by
        have t := f21 2 (by decide)
        simp only [q18, q19, hG21] at t
        exact t
    have q24 : ρ 24 = (codZ l6) := by
        have t := f24 0 (by decide)
        simp only [q21, q22, hG24] at t
        exact t
    have q25 : ρ 25 = (b2i (b6)) := by
        have t := f24 1 (by decide)
        simp only [q21, q22, hG24] at t
        exact t
    have q26 : ρ 26 = (codZ v6) := by
        have t := f24 2 (by decide)
        simp only [q21, q22, hG24] at t
        exact t
    have q27 : ρ 27 = (codZ l7) := by
        have t := f27 0 (by decide)
        simp only [q24, q25, hG27] at t
        exact t
    have q28 : ρ 28 = (b2i (b7)) := by
        have t := f27 1 (by decide)
        simp only [q24, q25, hG27] at t
        exact t
    have q29 : ρ 29 = (codZ v7) := by
        have t := f27 2 (by decide)
        simp only [q24, q25, hG27] at t
        exact t
    have q30 : ρ 30 = (codZ l8) := by
        have t := f30 0 (by decide)
        simp only [q27, q28, hG30] at t
        exact t
    have q31 : ρ 31 = (b2i (b8)) := by
        have t := f30 1 (by decide)
        simp only [q27, q28, hG30] at t
        exact t
    have q32 : ρ 32 = (codZ v8) := by
        have t := f30 2 (by decide)
        simp only [q27, q28, hG30] at t
        exact t
    have q33 : ρ 33 = (b2i (!b8)) := b2i_not f33 q31
    refine ⟨?_, ?_⟩
    · simp only [G_nil, G_bin, G_cmp, G_not, G_conv, G_eqs, G_call, G_cond, G_need, G_idx, G_sel, G_upd, G_shv, G_beq, G_prim, G_byte, G_cut, G_cat, List.map_cons, List.map_nil, Ref.den]
      refine ⟨?_, ?_, ?_, ?_, ?_, ?_, ?_, ?_, ?_, ?_, trivial⟩
      · exact by show (decZ (ρ 0)).length ≤ 1000000; rw [q0]; omega
      · exact by show (decZ (ρ 1)).length ≤ 1000000; rw [q1]; omega
      · exact by show (decZ (ρ 2)).length ≤ 1000000; rw [q2, decZ_codZ]; omega
      · exact by show (decZ (ρ 5)).length ≤ 1000000; rw [q5, decZ_codZ]; omega
      · exact by show (decZ (ρ 8)).length ≤ 1000000; rw [q8, decZ_codZ]; omega
      · exact by show (decZ (ρ 18)).length ≤ 1000000; rw [q18, decZ_codZ]; omega
      · exact by show (decZ (ρ 21)).length ≤ 1000000; rw [q21, decZ_codZ]; omega
      · exact by show (decZ (ρ 24)).length ≤ 1000000; rw [q24, decZ_codZ]; omega
      · exact by show (decZ (ρ 27)).length ≤ 1000000; rw [q27, decZ_codZ]; omega
      · exact b2i_cond q33 (by simp only [c0, decide_true, decide_false, Bool.and_true, Bool.true_and, Bool.and_false, Bool.false_and, Bool.or_true, Bool.true_or, Bool.or_false, Bool.false_or, Bool.not_true, Bool.not_false, if_true, if_false, Bool.false_eq_true])
    · show _ = ofns.g 15 [[z]]
      rw [g15]
      show [0, 0, 0, 0, 0, 0, 0, 0, 0, 0, 0, 0, 0, 0, 0, 3] = getE 8 0 3 (decZ z)
      simp only [getE, hR, is_empty, decide_true, decide_false, Bool.and_true, Bool.true_and, Bool.and_false, Bool.false_and, Bool.or_true, Bool.true_or, Bool.or_false, Bool.false_or, Bool.not_true, Bool.not_false, if_true, if_false, Bool.false_eq_true, c0]
      try rfl
#print axioms okGet
end Go.Proofs.Ytbhflfdlkiihgaa
