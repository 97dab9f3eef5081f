/- The statement OpBytes: the law's walk, by the reckoning. No condition. -/
import Derived.Test.YtbhflfdlkiihgaaOk8
namespace Go.Proofs.Ytbhflfdlkiihgaa
open Go.RowKit Go.Bx Go.Sx
set_option linter.unusedSimpArgs false
set_option linter.unusedVariables false
theorem rd_same {l : List UInt8} (h : numV 8 l ≤ 7) : numV 7 l = numV 8 l ∧ numL 7 l = numL 8 l ∧ numB 7 l false = numB 8 l false := by
  unfold numV numL numB dec at *
  cases hd : decF 9 0 0 l with
  | none => exact ⟨rfl, rfl, rfl⟩
  | some p =>
    obtain ⟨v, r⟩ := p
    rw [hd] at h
    by_cases h8 : v ≤ 8
    · have h8' : v ≤ (8 : Int).toNat := h8
      simp only [if_pos h8'] at h ⊢
      have h7 : v ≤ (7 : Int).toNat := by have : (7 : Int).toNat = 7 := rfl; omega
      simp only [if_pos h7]
      exact ⟨trivial, trivial, trivial⟩
    · have h8' : ¬ v ≤ (8 : Int).toNat := h8
      have h7 : ¬ v ≤ (7 : Int).toNat := by have : (7 : Int).toNat = 7 := rfl; omega
      simp only [if_neg h8', if_neg h7]
      exact ⟨trivial, trivial, trivial⟩
theorem rd_eight {l : List UInt8} (h : ¬ numV 8 l ≤ 7) : numB 7 l false = true := by
  unfold numV numB dec at *
  cases hd : decF 9 0 0 l with
  | none => rfl
  | some p =>
    obtain ⟨v, r⟩ := p
    rw [hd] at h
    by_cases h7 : v ≤ (7 : Int).toNat
    · have e7 : (7 : Int).toNat = 7 := rfl
      have e8 : (8 : Int).toNat = 8 := rfl
      have h8' : v ≤ (8 : Int).toNat := by omega
      simp only [if_pos h8'] at h
      omega
    · simp only [if_neg h7]
/-- Read by either's bound for devices: the same. -/
theorem get_same (l : List UInt8) : ∃ g0 g1 g2 g3 g4 g5 g6 g7 g8 g9 g10 g11 g12 g13 g14 : Int, getE 8 0 3 l = [g0, g1, g2, g3, g4, g5, g6, g7, g8, g9, g10, g11, g12, g13, g14, 0] ∧ getE 7 1 0 l = [g0, g1, g2, g3, g4, g5, g6, g7, g8, g9, g10, g11, g12, g13, g14, 1] ∨ getE 8 0 3 l = [g0, g1, g2, g3, g4, g5, g6, g7, g8, g9, g10, g11, g12, g13, g14, 3] ∧ getE 7 1 0 l = [g0, g1, g2, g3, g4, g5, g6, g7, g8, g9, g10, g11, g12, g13, g14, 0] := by
  by_cases h : numV 8 l ≤ 7
  · obtain ⟨h1, h2, h3⟩ := rd_same h
    have e : rdE l 7 = rdE l 8 := by simp only [rdE, h1, h2, h3]
    unfold getE
    simp only [e]
    obtain ⟨s0, s1, s2, s3, s4, s5, s6, s7, hv⟩ := eight (getV_len (numL 1099511627776 (numL 8 l)) (numB 1099511627776 (numL 8 l) (numB 8 l false)))
    split
    · have hr : ∃ g0 g1 g2 g3 g4 g5 g6 g7 g8 g9 g10 g11 g12 g13 g14 : Int, (rdE l 8).1 = [g0, g1, g2, g3, g4, g5, g6, g7, g8, g9, g10, g11, g12, g13, g14] := by
        simp only [rdE, hv, List.cons_append, List.nil_append]
        exact ⟨_, _, _, _, _, _, _, _, _, _, _, _, _, _, _, rfl⟩
      obtain ⟨g0, g1, g2, g3, g4, g5, g6, g7, g8, g9, g10, g11, g12, g13, g14, hr⟩ := hr
      rw [hr]
      exact ⟨g0, g1, g2, g3, g4, g5, g6, g7, g8, g9, g10, g11, g12, g13, g14, .inl ⟨rfl, rfl⟩⟩
    · exact ⟨0, 0, 0, 0, 0, 0, 0, 0, 0, 0, 0, 0, 0, 0, 0, .inr ⟨rfl, rfl⟩⟩
  · have h7 := rd_eight h
    refine ⟨0, 0, 0, 0, 0, 0, 0, 0, 0, 0, 0, 0, 0, 0, 0, .inr ⟨?_, ?_⟩⟩
    · unfold getE
      simp only
      rw [if_neg]
      · rfl
      · intro hh
        simp only [Bool.and_eq_true] at hh
        have hg := hh.2
        obtain ⟨s0, s1, s2, s3, s4, s5, s6, s7, hv⟩ := eight (getV_len (numL 1099511627776 (numL 8 l)) (numB 1099511627776 (numL 8 l) (numB 8 l false)))
        simp only [rdE, hv, List.cons_append, List.nil_append] at hg
        have := good_is hg
        omega
    · unfold getE
      simp only
      rw [if_neg]
      · rfl
      · intro hh
        simp only [Bool.and_eq_true, Bool.not_eq_true'] at hh
        have hb := hh.1.1
        simp only [rdE] at hb
        obtain ⟨h8, -⟩ := byt_more [] hb
        obtain ⟨h7', -⟩ := byt_more [] h8
        obtain ⟨h6, -⟩ := byt_more [] h7'
        obtain ⟨h5, -⟩ := num_more [] h6
        obtain ⟨h4, -⟩ := num_more [] h5
        obtain ⟨h3, -⟩ := vec_more [] h4
        obtain ⟨h2, -⟩ := num_more [] h3
        rw [h7] at h2
        cases h2
def OT7 : List Ctr := cPGoodE :: cPOver :: cPLess :: cPPutE :: cPGet :: OT6
theorem okOT7 : ∀ c ∈ OT7, CtrOK Try.prog ofns c := by
  intro c hc
  simp only [OT7, List.mem_cons] at hc
  rcases hc with rfl | rfl | rfl | rfl | rfl | hc
  · exact okPGoodE
  · exact okPOver
  · exact okPLess
  · exact okPPutE
  · exact okPGet
  · exact okOT6 c hc
def cOpBytes : Ctr := ⟨4, 41, [ED, ED, .opq], [.bool]⟩
set_option maxHeartbeats 1600000 in
theorem okOpBytes : CtrOK Try.prog ofns cOpBytes := by
  refine CtrOK.of okOT7 mixed (lf := 300) (d := 5) rfl fun w vs xs ha hp => ?_
  obtain ⟨v0, v1, v2, x0, x1, x2, rfl, rfl, h0, h1, ⟨z, rfl, hs, hstr⟩⟩ := open3 ha
  obtain ⟨hl0, rfl, hg0⟩ := h0
  obtain ⟨a0, a1, a2, a3, a4, a5, a6, a7, a8, a9, a10, a11, a12, a13, a14, rfl⟩ := len15 hl0
  obtain ⟨-, -, -, -, -, -, -, -, -, -, -, ⟨z0c, -⟩, ⟨z0f, -⟩, ⟨z0v, -⟩, -, -⟩ := hg0
  have z0c : 0 ≤ a11 := z0c
  have z0f : 0 ≤ a12 := z0f
  have z0v : 0 ≤ a13 := z0v
  obtain ⟨hl1, rfl, hg1⟩ := h1
  obtain ⟨b0, b1, b2, b3, b4, b5, b6, b7, b8, b9, b10, b11, b12, b13, b14, rfl⟩ := len15 hl1
  obtain ⟨-, -, -, -, -, -, -, -, -, -, -, ⟨z1c, -⟩, ⟨z1f, -⟩, ⟨z1v, -⟩, -, -⟩ := hg1
  have z1c : 0 ≤ b11 := z1c
  have z1f : 0 ≤ b12 := z1f
  have z1v : 0 ≤ b13 := z1v
  obtain ⟨g0, g1, g2, g3, g4, g5, g6, g7, g8, g9, g10, g11, g12, g13, g14, hG⟩ := get_same (decZ z)
  rw [← g15, ← g35] at hG
  rcases hG with ⟨hG8, hG7⟩ | ⟨hG8, hG7⟩
  · have hG7 : ofns.g 35 [[z]] = [g0, g1, g2, g3, g4, g5, g6, g7, g8, g9, g10, g11, g12, g13, g14, b2i true] := hG7
    cases c1 : longE [a0, a1, a2, a3, a4, a5, a6, a7, a8, a9, a10, a11, a12, a13, a14]
    · have n0 := long_not c1
      have m0 : (decZ a11).length ≤ 1000 ∧ (decZ a12).length ≤ 1000 ∧ (decZ a13).length ≤ 1000 := ⟨by omega, by omega, by omega⟩
      cases c3 : longE [b0, b1, b2, b3, b4, b5, b6, b7, b8, b9, b10, b11, b12, b13, b14]
      · have n1 := long_not c3
        have m1 : (decZ b11).length ≤ 1000 ∧ (decZ b12).length ≤ 1000 ∧ (decZ b13).length ≤ 1000 := ⟨by omega, by omega, by omega⟩
        cases c5 : decide (600 < ((decZ z).length : Int))
        · have hz := of_decide_eq_false c5
          refine Go.Sx.Way.of (dec := [false, false, false, false, true, true, true, true, true, true]) (fs := [.need 40 [], .call 31 40 [] 1, .not 32 (.v 31), .cond 32 false, .need 13 [[.v 0, .v 1, .v 2, .v 3, .v 4, .v 5, .v 6, .v 7, .v 8, .v 9, .v 10, .v 11, .v 12, .v 13, .v 14]], .call 33 13 [[.v 0, .v 1, .v 2, .v 3, .v 4, .v 5, .v 6, .v 7, .v 8, .v 9, .v 10, .v 11, .v 12, .v 13, .v 14]] 1, .cond 33 false, .need 13 [[.v 15, .v 16, .v 17, .v 18, .v 19, .v 20, .v 21, .v 22, .v 23, .v 24, .v 25, .v 26, .v 27, .v 28, .v 29]], .call 34 13 [[.v 15, .v 16, .v 17, .v 18, .v 19, .v 20, .v 21, .v 22, .v 23, .v 24, .v 25, .v 26, .v 27, .v 28, .v 29]] 1, .cond 34 false, .prim 35 0 [.v 30], .cmp 36 .gtr (.v 35) (.l 600), .cond 36 false, .need 15 [[.v 30]], .call 37 15 [[.v 30]] 16, .need 35 [[.v 30]], .call 53 35 [[.v 30]] 16, .need 14 [[.v 0, .v 1, .v 2, .v 3, .v 4, .v 5, .v 6, .v 7, .v 8, .v 9, .v 10, .v 11, .v 12, .v 13, .v 14]], .call 69 14 [[.v 0, .v 1, .v 2, .v 3, .v 4, .v 5, .v 6, .v 7, .v 8, .v 9, .v 10, .v 11, .v 12, .v 13, .v 14]] 1, .need 14 [[.v 0, .v 1, .v 2, .v 3, .v 4, .v 5, .v 6, .v 7, .v 8, .v 9, .v 10, .v 11, .v 12, .v 13, .v 14]], .call 70 14 [[.v 0, .v 1, .v 2, .v 3, .v 4, .v 5, .v 6, .v 7, .v 8, .v 9, .v 10, .v 11, .v 12, .v 13, .v 14]] 1, .cmp 71 .eql (.v 69) (.v 70), .cond 71 true, .need 10 [[.v 0, .v 1, .v 2, .v 3, .v 4, .v 5, .v 6, .v 7, .v 8, .v 9, .v 10, .v 11, .v 12, .v 13, .v 14]], .call 72 10 [[.v 0, .v 1, .v 2, .v 3, .v 4, .v 5, .v 6, .v 7, .v 8, .v 9, .v 10, .v 11, .v 12, .v 13, .v 14]] 1, .need 10 [[.v 0, .v 1, .v 2, .v 3, .v 4, .v 5, .v 6, .v 7, .v 8, .v 9, .v 10, .v 11, .v 12, .v 13, .v 14]], .call 73 10 [[.v 0, .v 1, .v 2, .v 3, .v 4, .v 5, .v 6, .v 7, .v 8, .v 9, .v 10, .v 11, .v 12, .v 13, .v 14]] 1, .beq 74 false (.v 72) (.v 73), .cond 74 true, .eqs 75 [(.v 37, .v 53), (.v 38, .v 54), (.v 39, .v 55), (.v 40, .v 56), (.v 41, .v 57), (.v 42, .v 58), (.v 43, .v 59), (.v 44, .v 60), (.v 45, .v 61), (.v 46, .v 62), (.v 47, .v 63), (.v 48, .v 64), (.v 49, .v 65), (.v 50, .v 66), (.v 51, .v 67)], .cond 75 true, .cmp 76 .eql (.v 52) (.l 0), .beq 77 false (.v 76) (.v 68), .cond 77 true, .cond 68 true, .need 11 [[.v 0, .v 1, .v 2, .v 3, .v 4, .v 5, .v 6, .v 7, .v 8, .v 9, .v 10, .v 11, .v 12, .v 13, .v 14], [.v 15, .v 16, .v 17, .v 18, .v 19, .v 20, .v 21, .v 22, .v 23, .v 24, .v 25, .v 26, .v 27, .v 28, .v 29]], .call 78 11 [[.v 0, .v 1, .v 2, .v 3, .v 4, .v 5, .v 6, .v 7, .v 8, .v 9, .v 10, .v 11, .v 12, .v 13, .v 14], [.v 15, .v 16, .v 17, .v 18, .v 19, .v 20, .v 21, .v 22, .v 23, .v 24, .v 25, .v 26, .v 27, .v 28, .v 29]] 1, .need 11 [[.v 0, .v 1, .v 2, .v 3, .v 4, .v 5, .v 6, .v 7, .v 8, .v 9, .v 10, .v 11, .v 12, .v 13, .v 14], [.v 15, .v 16, .v 17, .v 18, .v 19, .v 20, .v 21, .v 22, .v 23, .v 24, .v 25, .v 26, .v 27, .v 28, .v 29]], .call 79 11 [[.v 0, .v 1, .v 2, .v 3, .v 4, .v 5, .v 6, .v 7, .v 8, .v 9, .v 10, .v 11, .v 12, .v 13, .v 14], [.v 15, .v 16, .v 17, .v 18, .v 19, .v 20, .v 21, .v 22, .v 23, .v 24, .v 25, .v 26, .v 27, .v 28, .v 29]] 1, .beq 80 false (.v 78) (.v 79), .cond 80 true, .need 12 [[.v 0, .v 1, .v 2, .v 3, .v 4, .v 5, .v 6, .v 7, .v 8, .v 9, .v 10, .v 11, .v 12, .v 13, .v 14], [.v 15, .v 16, .v 17, .v 18, .v 19, .v 20, .v 21, .v 22, .v 23, .v 24, .v 25, .v 26, .v 27, .v 28, .v 29]], .call 81 12 [[.v 0, .v 1, .v 2, .v 3, .v 4, .v 5, .v 6, .v 7, .v 8, .v 9, .v 10, .v 11, .v 12, .v 13, .v 14], [.v 15, .v 16, .v 17, .v 18, .v 19, .v 20, .v 21, .v 22, .v 23, .v 24, .v 25, .v 26, .v 27, .v 28, .v 29]] 1, .need 12 [[.v 0, .v 1, .v 2, .v 3, .v 4, .v 5, .v 6, .v 7, .v 8, .v 9, .v 10, .v 11, .v 12, .v 13, .v 14], [.v 15, .v 16, .v 17, .v 18, .v 19, .v 20, .v 21, .v 22, .v 23, .v 24, .v 25, .v 26, .v 27, .v 28, .v 29]], .call 82 12 [[.v 0, .v 1, .v 2, .v 3, .v 4, .v 5, .v 6, .v 7, .v 8, .v 9, .v 10, .v 11, .v 12, .v 13, .v 14], [.v 15, .v 16, .v 17, .v 18, .v 19, .v 20, .v 21, .v 22, .v 23, .v 24, .v 25, .v 26, .v 27, .v 28, .v 29]] 1, .beq 83 false (.v 81) (.v 82)]) (refs := [.v 83]) (by kernel_rfl) fun ρ hρ hd => ?_
          simp only [D_nil, D_add, D_sub, D_mul, D_and, D_or, D_xor, D_shl, D_shr, D_andNot, D_quo, D_rem, D_add_i64, D_sub_i64, D_mul_i64, D_add_u32, D_sub_u32, D_mul_u32, D_add_u8, D_sub_u8, D_mul_u8, D_eql, D_neq, D_lss, D_leq, D_gtr, D_geq, D_not, D_conv, D_eqs, D_call, D_cond, D_need, D_idx, D_sel, D_upd, D_shv, D_beq, D_len, D_byte, D_cut, D_cat, D_must, List.map_cons, List.map_nil, Ref.den] at hd
          obtain ⟨f31, f32, f33, f34, f35, f36, f37, f53, f69, f70, f71, f72, f73, f74, f75, f76, f77, f78, f79, f80, f81, f82, f83, -⟩ := hd
          have q0 : ρ 0 = a0 := hρ 0 (by decide)
          have q1 : ρ 1 = a1 := hρ 1 (by decide)
          have q2 : ρ 2 = a2 := hρ 2 (by decide)
          have q3 : ρ 3 = a3 := hρ 3 (by decide)
          have q4 : ρ 4 = a4 := hρ 4 (by decide)
          have q5 : ρ 5 = a5 := hρ 5 (by decide)
          have q6 : ρ 6 = a6 := hρ 6 (by decide)
          have q7 : ρ 7 = a7 := hρ 7 (by decide)
          have q8 : ρ 8 = a8 := hρ 8 (by decide)
          have q9 : ρ 9 = a9 := hρ 9 (by decide)
          have q10 : ρ 10 = a10 := hρ 10 (by decide)
          have q11 : ρ 11 = a11 := hρ 11 (by decide)
          have q12 : ρ 12 = a12 := hρ 12 (by decide)
          have q13 : ρ 13 = a13 := hρ 13 (by decide)
          have q14 : ρ 14 = a14 := hρ 14 (by decide)
          have q15 : ρ 15 = b0 := hρ 15 (by decide)
          have q16 : ρ 16 = b1 := hρ 16 (by decide)
          have q17 : ρ 17 = b2 := hρ 17 (by decide)
          have q18 : ρ 18 = b3 := hρ 18 (by decide)
          have q19 : ρ 19 = b4 := hρ 19 (by decide)
          have q20 : ρ 20 = b5 := hρ 20 (by decide)
          have q21 : ρ 21 = b6 := hρ 21 (by decide)
          have q22 : ρ 22 = b7 := hρ 22 (by decide)
          have q23 : ρ 23 = b8 := hρ 23 (by decide)
          have q24 : ρ 24 = b9 := hρ 24 (by decide)
          have q25 : ρ 25 = b10 := hρ 25 (by decide)
          have q26 : ρ 26 = b11 := hρ 26 (by decide)
          have q27 : ρ 27 = b12 := hρ 27 (by decide)
          have q28 : ρ 28 = b13 := hρ 28 (by decide)
          have q29 : ρ 29 = b14 := hρ 29 (by decide)
          have q30 : ρ 30 = z := hρ 30 (by decide)
          have q31 : ρ 31 = (b2i (true)) := by
              have t := f31 0 (by decide)
              exact t
          have q32 : ρ 32 = (b2i (!true)) := b2i_not f32 q31
          have q33 : ρ 33 = (b2i (longE [a0, a1, a2, a3, a4, a5, a6, a7, a8, a9, a10, a11, a12, a13, a14])) := by
              have t := f33 0 (by decide)
              simp only [q0, q1, q2, q3, q4, q5, q6, q7, q8, q9, q10, q11, q12, q13, q14] at t
              exact t
          have q34 : ρ 34 = (b2i (longE [b0, b1, b2, b3, b4, b5, b6, b7, b8, b9, b10, b11, b12, b13, b14])) := by
              have t := f34 0 (by decide)
              simp only [q15, q16, q17, q18, q19, q20, q21, q22, q23, q24, q25, q26, q27, q28, q29] at t
              exact t
          have q35 : ρ 35 = ((decZ z).length : Int) := by rw [f35, q30]
          have q36 : ρ 36 = (b2i (decide (600 < ((decZ z).length : Int)))) := b2i_dec f36 (by simp only [q35])
          have q37 : ρ 37 = g0 := by
              have t := f37 0 (by decide)
              simp only [q30, hG8] at t
              exact t
          have q38 : ρ 38 = g1 := by
              have t := f37 1 (by decide)
              simp only [q30, hG8] at t
              exact t
          have q39 : ρ 39 = g2 := by
              have t := f37 2 (by decide)
              simp only [q30, hG8] at t
              exact t
          have q40 : ρ 40 = g3 := by
              have t := f37 3 (by decide)
              simp only [q30, hG8] at t
              exact t
          have q41 : ρ 41 = g4 := by
              have t := f37 4 (by decide)
              simp only [q30, hG8] at t
              exact t
          have q42 : ρ 42 = g5 := by
              have t := f37 5 (by decide)
              simp only [q30, hG8] at t
              exact t
          have q43 : ρ 43 = g6 := by
              have t := f37 6 (by decide)
              simp only [q30, hG8] at t
              exact t
          have q44 : ρ 44 = g7 := by
              have t := f37 7 (by decide)
              simp only [q30, hG8] at t
              exact t
          have q45 : ρ 45 = g8 := by
              have t := f37 8 (by decide)
              simp only [q30, hG8] at t
              exact t
          have q46 : ρ 46 = g9 := by
              have t := f37 9 (by decide)
              simp only [q30, hG8] at t
              exact t
          have q47 : ρ 47 = g10 := by
              have t := f37 10 (by decide)
              simp only [q30, hG8] at t
              exact t
          have q48 : ρ 48 = g11 := by
              have t := f37 11 (by decide)
              simp only [q30, hG8] at t
              exact t
          have q49 : ρ 49 = g12 := by
              have t := f37 12 (by decide)
              simp only [q30, hG8] at t
              exact t
          have q50 : ρ 50 = g13 := by
              have t := f37 13 (by decide)
              simp only [q30, hG8] at t
              exact t
          have q51 : ρ 51 = g14 := by
              have t := f37 14 (by decide)
              simp only [q30, hG8] at t
              exact t
          have q52 : ρ 52 = 0 := by
              have t := f37 15 (by decide)
              simp only [q30, hG8] at t
              exact t
          have q53 : ρ 53 = g0 := by
              have t := f53 0 (by decide)
              simp only [q30, hG7] at t
              exact t
          have q54 : ρ 54 = g1 := by
              have t := f53 1 (by decide)
              simp only [q30, hG7] at t
              exact t
          have q55 : ρ 55 = g2 := by
              have t := f53 2 (by decide)
              simp only [q30, hG7] at t
              exact t
          have q56 : ρ 56 = g3 := by
              have t := f53 3 (by decide)
              simp only [q30, hG7] at t
              exact t
          have q57 : ρ 57 = g4 := by
              have t := f53 4 (by decide)
              simp only [q30, hG7] at t
              exact t
          have q58 : ρ 58 = g5 := by
              have t := f53 5 (by decide)
              simp only [q30, hG7] at t
              exact t
          have q59 : ρ 59 = g6 := by
              have t := f53 6 (by decide)
              simp only [q30, hG7] at t
              exact t
          have q60 : ρ 60 = g7 := by
              have t := f53 7 (by decide)
              simp only [q30, hG7] at t
              exact t
          have q61 : ρ 61 = g8 := by
              have t := f53 8 (by decide)
              simp only [q30, hG7] at t
              exact t
          have q62 : ρ 62 = g9 := by
              have t := f53 9 (by decide)
              simp only [q30, hG7] at t
              exact t
          have q63 : ρ 63 = g10 := by
              have t := f53 10 (by decide)
              simp only [q30, hG7] at t
              exact t
          have q64 : ρ 64 = g11 := by
              have t := f53 11 (by decide)
              simp only [q30, hG7] at t
              exact t
          have q65 : ρ 65 = g12 := by
              have t := f53 12 (by decide)
              simp only [q30, hG7] at t
              exact t
          have q66 : ρ 66 = g13 := by
              have t := f53 13 (by decide)
              simp only [q30, hG7] at t
              exact t
          have q67 : ρ 67 = g14 := by
              have t := f53 14 (by decide)
              simp only [q30, hG7] at t
              exact t
          have q68 : ρ 68 = (b2i (true)) := by
              have t := f53 15 (by decide)
              simp only [q30, hG7] at t
              exact t
          have q69 : ρ 69 = (codZ (putE [a0, a1, a2, a3, a4, a5, a6, a7, a8, a9, a10, a11, a12, a13, a14])) := by
              have t := f69 0 (by decide)
              simp only [q0, q1, q2, q3, q4, q5, q6, q7, q8, q9, q10, q11, q12, q13, q14] at t
              exact t
          have q70 : ρ 70 = (codZ (putE [a0, a1, a2, a3, a4, a5, a6, a7, a8, a9, a10, a11, a12, a13, a14])) := by
              have t := f70 0 (by decide)
              simp only [q0, q1, q2, q3, q4, q5, q6, q7, q8, q9, q10, q11, q12, q13, q14] at t
              exact t
          have q71 : ρ 71 = (b2i (decide ((codZ (putE [a0, a1, a2, a3, a4, a5, a6, a7, a8, a9, a10, a11, a12, a13, a14])) = (codZ (putE [a0, a1, a2, a3, a4, a5, a6, a7, a8, a9, a10, a11, a12, a13, a14]))))) := b2i_dec f71 (by simp only [q69, q70])
          have q72 : ρ 72 = (b2i (goodE [a0, a1, a2, a3, a4, a5, a6, a7, a8, a9, a10, a11, a12, a13, a14])) := by
              have t := f72 0 (by decide)
              simp only [q0, q1, q2, q3, q4, q5, q6, q7, q8, q9, q10, q11, q12, q13, q14] at t
              exact t
          have q73 : ρ 73 = (b2i (goodE [a0, a1, a2, a3, a4, a5, a6, a7, a8, a9, a10, a11, a12, a13, a14])) := by
              have t := f73 0 (by decide)
              simp only [q0, q1, q2, q3, q4, q5, q6, q7, q8, q9, q10, q11, q12, q13, q14] at t
              exact t
          have q74 : ρ 74 = (b2i (((goodE [a0, a1, a2, a3, a4, a5, a6, a7, a8, a9, a10, a11, a12, a13, a14]) == (goodE [a0, a1, a2, a3, a4, a5, a6, a7, a8, a9, a10, a11, a12, a13, a14])) != false)) := b2i_beq f74 q72 q73
          have q75 : ρ 75 = (b2i (decide ([g0, g1, g2, g3, g4, g5, g6, g7, g8, g9, g10, g11, g12, g13, g14] = [g0, g1, g2, g3, g4, g5, g6, g7, g8, g9, g10, g11, g12, g13, g14]))) := b2i_eqs (l := [g0, g1, g2, g3, g4, g5, g6, g7, g8, g9, g10, g11, g12, g13, g14]) (m := [g0, g1, g2, g3, g4, g5, g6, g7, g8, g9, g10, g11, g12, g13, g14]) f75 (by simp only [List.map_cons, List.map_nil, Ref.den, q37, q53, q38, q54, q39, q55, q40, q56, q41, q57, q42, q58, q43, q59, q44, q60, q45, q61, q46, q62, q47, q63, q48, q64, q49, q65, q50, q66, q51, q67]) (by simp only [List.map_cons, List.map_nil, Ref.den, q37, q53, q38, q54, q39, q55, q40, q56, q41, q57, q42, q58, q43, q59, q44, q60, q45, q61, q46, q62, q47, q63, q48, q64, q49, q65, q50, q66, q51, q67])
          have q76 : ρ 76 = (b2i (decide ((0 : Int) = 0))) := b2i_dec f76 (by simp only [q52])
          have q77 : ρ 77 = (b2i (((decide ((0 : Int) = 0)) == true) != false)) := b2i_beq f77 q76 q68
          have q78 : ρ 78 = (b2i (overE [a0, a1, a2, a3, a4, a5, a6, a7, a8, a9, a10, a11, a12, a13, a14] [b0, b1, b2, b3, b4, b5, b6, b7, b8, b9, b10, b11, b12, b13, b14])) := by
              have t := f78 0 (by decide)
              simp only [q0, q1, q2, q3, q4, q5, q6, q7, q8, q9, q10, q11, q12, q13, q14, q15, q16, q17, q18, q19, q20, q21, q22, q23, q24, q25, q26, q27, q28, q29] at t
              exact t
          have q79 : ρ 79 = (b2i (overE [a0, a1, a2, a3, a4, a5, a6, a7, a8, a9, a10, a11, a12, a13, a14] [b0, b1, b2, b3, b4, b5, b6, b7, b8, b9, b10, b11, b12, b13, b14])) := by
              have t := f79 0 (by decide)
              simp only [q0, q1, q2, q3, q4, q5, q6, q7, q8, q9, q10, q11, q12, q13, q14, q15, q16, q17, q18, q19, q20, q21, q22, q23, q24, q25, q26, q27, q28, q29] at t
              exact t
          have q80 : ρ 80 = (b2i (((overE [a0, a1, a2, a3, a4, a5, a6, a7, a8, a9, a10, a11, a12, a13, a14] [b0, b1, b2, b3, b4, b5, b6, b7, b8, b9, b10, b11, b12, b13, b14]) == (overE [a0, a1, a2, a3, a4, a5, a6, a7, a8, a9, a10, a11, a12, a13, a14] [b0, b1, b2, b3, b4, b5, b6, b7, b8, b9, b10, b11, b12, b13, b14])) != false)) := b2i_beq f80 q78 q79
          have q81 : ρ 81 = (b2i (lessE [a0, a1, a2, a3, a4, a5, a6, a7, a8, a9, a10, a11, a12, a13, a14] [b0, b1, b2, b3, b4, b5, b6, b7, b8, b9, b10, b11, b12, b13, b14])) := by
              have t := f81 0 (by decide)
              simp only [q0, q1, q2, q3, q4, q5, q6, q7, q8, q9, q10, q11, q12, q13, q14, q15, q16, q17, q18, q19, q20, q21, q22, q23, q24, q25, q26, q27, q28, q29] at t
              exact t
          have q82 : ρ 82 = (b2i (lessE [a0, a1, a2, a3, a4, a5, a6, a7, a8, a9, a10, a11, a12, a13, a14] [b0, b1, b2, b3, b4, b5, b6, b7, b8, b9, b10, b11, b12, b13, b14])) := by
              have t := f82 0 (by decide)
              simp only [q0, q1, q2, q3, q4, q5, q6, q7, q8, q9, q10, q11, q12, q13, q14, q15, q16, q17, q18, q19, q20, q21, q22, q23, q24, q25, q26, q27, q28, q29] at t
              exact t
          have q83 : ρ 83 = (b2i (((lessE [a0, a1, a2, a3, a4, a5, a6, a7, a8, a9, a10, a11, a12, a13, a14] [b0, b1, b2, b3, b4, b5, b6, b7, b8, b9, b10, b11, b12, b13, b14]) == (lessE [a0, a1, a2, a3, a4, a5, a6, a7, a8, a9, a10, a11, a12, a13, a14] [b0, b1, b2, b3, b4, b5, b6, b7, b8, b9, b10, b11, b12, b13, b14])) != false)) := b2i_beq f83 q81 q82
          refine ⟨?_, ?_⟩
          · simp only [G_nil, G_bin, G_cmp, G_not, G_conv, G_eqs, G_call, G_cond, G_need, G_idx, G_sel, G_upd, G_shv, G_beq, G_prim, G_byte, G_cut, G_cat, List.map_cons, List.map_nil, Ref.den]
            refine ⟨?_, ?_, ?_, ?_, ?_, ?_, ?_, ?_, ?_, ?_, ?_, ?_, ?_, ?_, ?_, ?_, ?_, ?_, ?_, ?_, ?_, ?_, ?_, trivial⟩
            · exact trivial
            · exact b2i_cond q32 (by simp only [Bool.not_true, decide_true, decide_false, Bool.and_true, Bool.true_and, Bool.and_false, Bool.false_and, Bool.or_true, Bool.true_or, Bool.or_false, Bool.false_or, Bool.not_true, Bool.not_false, if_true, if_false, Bool.false_eq_true])
            · exact trivial
            · exact b2i_cond q33 (by simp only [c1, decide_true, decide_false, Bool.and_true, Bool.true_and, Bool.and_false, Bool.false_and, Bool.or_true, Bool.true_or, Bool.or_false, Bool.false_or, Bool.not_true, Bool.not_false, if_true, if_false, Bool.false_eq_true])
            · exact trivial
            · exact b2i_cond q34 (by simp only [c3, decide_true, decide_false, Bool.and_true, Bool.true_and, Bool.and_false, Bool.false_and, Bool.or_true, Bool.true_or, Bool.or_false, Bool.false_or, Bool.not_true, Bool.not_false, if_true, if_false, Bool.false_eq_true])
            · exact b2i_cond q36 (by simp only [c5, decide_true, decide_false, Bool.and_true, Bool.true_and, Bool.and_false, Bool.false_and, Bool.or_true, Bool.true_or, Bool.or_false, Bool.false_or, Bool.not_true, Bool.not_false, if_true, if_false, Bool.false_eq_true])
            · exact by show (decZ (ρ 30)).length ≤ 1000; rw [q30]; omega
            · exact by show (decZ (ρ 30)).length ≤ 1000; rw [q30]; omega
            · exact by show (decZ (ρ 11)).length ≤ 1000 ∧ (decZ (ρ 12)).length ≤ 1000 ∧ (decZ (ρ 13)).length ≤ 1000; rw [q11, q12, q13]; exact m0
            · exact by show (decZ (ρ 11)).length ≤ 1000 ∧ (decZ (ρ 12)).length ≤ 1000 ∧ (decZ (ρ 13)).length ≤ 1000; rw [q11, q12, q13]; exact m0
            · exact b2i_cond q71 (by simp)
            · exact by show (decZ (ρ 11)).length ≤ 1000 ∧ (decZ (ρ 12)).length ≤ 1000 ∧ (decZ (ρ 13)).length ≤ 1000; rw [q11, q12, q13]; exact m0
            · exact by show (decZ (ρ 11)).length ≤ 1000 ∧ (decZ (ρ 12)).length ≤ 1000 ∧ (decZ (ρ 13)).length ≤ 1000; rw [q11, q12, q13]; exact m0
            · exact b2i_cond q74 (by simp)
            · exact b2i_cond q75 (by simp)
            · exact b2i_cond q77 (by simp)
            · exact b2i_cond q68 (by simp only [Bool.not_true, decide_true, decide_false, Bool.and_true, Bool.true_and, Bool.and_false, Bool.false_and, Bool.or_true, Bool.true_or, Bool.or_false, Bool.false_or, Bool.not_true, Bool.not_false, if_true, if_false, Bool.false_eq_true])
            · exact trivial
            · exact trivial
            · exact b2i_cond q80 (by simp)
            · exact trivial
            · exact trivial
          · show [ρ 83] = [1]
            rw [q83]
            exact congrArg (fun b => [b2i b]) (show (((lessE [a0, a1, a2, a3, a4, a5, a6, a7, a8, a9, a10, a11, a12, a13, a14] [b0, b1, b2, b3, b4, b5, b6, b7, b8, b9, b10, b11, b12, b13, b14]) == (lessE [a0, a1, a2, a3, a4, a5, a6, a7, a8, a9, a10, a11, a12, a13, a14] [b0, b1, b2, b3, b4, b5, b6, b7, b8, b9, b10, b11, b12, b13, b14])) != false) = true by simp)
        · refine Go.Sx.Way.of (dec := [false, false, false, true]) (fs := [.need 40 [], .call 31 40 [] 1, .not 32 (.v 31), .cond 32 false, .need 13 [[.v 0, .v 1, .v 2, .v 3, .v 4, .v 5, .v 6, .v 7, .v 8, .v 9, .v 10, .v 11, .v 12, .v 13, .v 14]], .call 33 13 [[.v 0, .v 1, .v 2, .v 3, .v 4, .v 5, .v 6, .v 7, .v 8, .v 9, .v 10, .v 11, .v 12, .v 13, .v 14]] 1, .cond 33 false, .need 13 [[.v 15, .v 16, .v 17, .v 18, .v 19, .v 20, .v 21, .v 22, .v 23, .v 24, .v 25, .v 26, .v 27, .v 28, .v 29]], .call 34 13 [[.v 15, .v 16, .v 17, .v 18, .v 19, .v 20, .v 21, .v 22, .v 23, .v 24, .v 25, .v 26, .v 27, .v 28, .v 29]] 1, .cond 34 false, .prim 35 0 [.v 30], .cmp 36 .gtr (.v 35) (.l 600), .cond 36 true]) (refs := [.l 1]) (by kernel_rfl) fun ρ hρ hd => ?_
          simp only [D_nil, D_add, D_sub, D_mul, D_and, D_or, D_xor, D_shl, D_shr, D_andNot, D_quo, D_rem, D_add_i64, D_sub_i64, D_mul_i64, D_add_u32, D_sub_u32, D_mul_u32, D_add_u8, D_sub_u8, D_mul_u8, D_eql, D_neq, D_lss, D_leq, D_gtr, D_geq, D_not, D_conv, D_eqs, D_call, D_cond, D_need, D_idx, D_sel, D_upd, D_shv, D_beq, D_len, D_byte, D_cut, D_cat, D_must, List.map_cons, List.map_nil, Ref.den] at hd
          obtain ⟨f31, f32, f33, f34, f35, f36, -⟩ := hd
          have q0 : ρ 0 = a0 := hρ 0 (by decide)
          have q1 : ρ 1 = a1 := hρ 1 (by decide)
          have q2 : ρ 2 = a2 := hρ 2 (by decide)
          have q3 : ρ 3 = a3 := hρ 3 (by decide)
          have q4 : ρ 4 = a4 := hρ 4 (by decide)
          have q5 : ρ 5 = a5 := hρ 5 (by decide)
          have q6 : ρ 6 = a6 := hρ 6 (by decide)
          have q7 : ρ 7 = a7 := hρ 7 (by decide)
          have q8 : ρ 8 = a8 := hρ 8 (by decide)
          have q9 : ρ 9 = a9 := hρ 9 (by decide)
          have q10 : ρ 10 = a10 := hρ 10 (by decide)
          have q11 : ρ 11 = a11 := hρ 11 (by decide)
          have q12 : ρ 12 = a12 := hρ 12 (by decide)
          have q13 : ρ 13 = a13 := hρ 13 (by decide)
          have q14 : ρ 14 = a14 := hρ 14 (by decide)
          have q15 : ρ 15 = b0 := hρ 15 (by decide)
          have q16 : ρ 16 = b1 := hρ 16 (by decide)
          have q17 : ρ 17 = b2 := hρ 17 (by decide)
          have q18 : ρ 18 = b3 := hρ 18 (by decide)
          have q19 : ρ 19 = b4 := hρ 19 (by decide)
          have q20 : ρ 20 = b5 := hρ 20 (by decide)
          have q21 : ρ 21 = b6 := hρ 21 (by decide)
          have q22 : ρ 22 = b7 := hρ 22 (by decide)
          have q23 : ρ 23 = b8 := hρ 23 (by decide)
          have q24 : ρ 24 = b9 := hρ 24 (by decide)
          have q25 : ρ 25 = b10 := hρ 25 (by decide)
          have q26 : ρ 26 = b11 := hρ 26 (by decide)
          have q27 : ρ 27 = b12 := hρ 27 (by decide)
          have q28 : ρ 28 = b13 := hρ 28 (by decide)
          have q29 : ρ 29 = b14 := hρ 29 (by decide)
          have q30 : ρ 30 = z := hρ 30 (by decide)
          have q31 : ρ 31 = (b2i (true)) := by
              have t := f31 0 (by decide)
              exact t
          have q32 : ρ 32 = (b2i (!true)) := b2i_not f32 q31
          have q33 : ρ 33 = (b2i (longE [a0, a1, a2, a3, a4, a5, a6, a7, a8, a9, a10, a11, a12, a13, a14])) := by
              have t := f33 0 (by decide)
              simp only [q0, q1, q2, q3, q4, q5, q6, q7, q8, q9, q10, q11, q12, q13, q14] at t
              exact t
          have q34 : ρ 34 = (b2i (longE [b0, b1, b2, b3, b4, b5, b6, b7, b8, b9, b10, b11, b12, b13, b14])) := by
              have t := f34 0 (by decide)
              simp only [q15, q16, q17, q18, q19, q20, q21, q22, q23, q24, q25, q26, q27, q28, q29] at t
              exact t
          have q35 : ρ 35 = ((decZ z).length : Int) := by rw [f35, q30]
          have q36 : ρ 36 = (b2i (decide (600 < ((decZ z).length : Int)))) := b2i_dec f36 (by simp only [q35])
          refine ⟨?_, ?_⟩
          · simp only [G_nil, G_bin, G_cmp, G_not, G_conv, G_eqs, G_call, G_cond, G_need, G_idx, G_sel, G_upd, G_shv, G_beq, G_prim, G_byte, G_cut, G_cat, List.map_cons, List.map_nil, Ref.den]
            refine ⟨?_, ?_, ?_, ?_, ?_, ?_, ?_, trivial⟩
            · exact trivial
            · exact b2i_cond q32 (by simp only [Bool.not_true, decide_true, decide_false, Bool.and_true, Bool.true_and, Bool.and_false, Bool.false_and, Bool.or_true, Bool.true_or, Bool.or_false, Bool.false_or, Bool.not_true, Bool.not_false, if_true, if_false, Bool.false_eq_true])
            · exact trivial
            · exact b2i_cond q33 (by simp only [c1, decide_true, decide_false, Bool.and_true, Bool.true_and, Bool.and_false, Bool.false_and, Bool.or_true, Bool.true_or, Bool.or_false, Bool.false_or, Bool.not_true, Bool.not_false, if_true, if_false, Bool.false_eq_true])
            · exact trivial
            · exact b2i_cond q34 (by simp only [c3, decide_true, decide_false, Bool.and_true, Bool.true_and, Bool.and_false, Bool.false_and, Bool.or_true, Bool.true_or, Bool.or_false, Bool.false_or, Bool.not_true, Bool.not_false, if_true, if_false, Bool.false_eq_true])
            · exact b2i_cond q36 (by simp only [c5, decide_true, decide_false, Bool.and_true, Bool.true_and, Bool.and_false, Bool.false_and, Bool.or_true, Bool.true_or, Bool.or_false, Bool.false_or, Bool.not_true, Bool.not_false, if_true, if_false, Bool.false_eq_true])
          · rfl
      · refine Go.Sx.Way.of (dec := [false, false, true]) (fs := [.need 40 [], .call 31 40 [] 1, .not 32 (.v 31), .cond 32 false, .need 13 [[.v 0, .v 1, .v 2, .v 3, .v 4, .v 5, .v 6, .v 7, .v 8, .v 9, .v 10, .v 11, .v 12, .v 13, .v 14]], .call 33 13 [[.v 0, .v 1, .v 2, .v 3, .v 4, .v 5, .v 6, .v 7, .v 8, .v 9, .v 10, .v 11, .v 12, .v 13, .v 14]] 1, .cond 33 false, .need 13 [[.v 15, .v 16, .v 17, .v 18, .v 19, .v 20, .v 21, .v 22, .v 23, .v 24, .v 25, .v 26, .v 27, .v 28, .v 29]], .call 34 13 [[.v 15, .v 16, .v 17, .v 18, .v 19, .v 20, .v 21, .v 22, .v 23, .v 24, .v 25, .v 26, .v 27, .v 28, .v 29]] 1, .cond 34 true]) (refs := [.l 1]) (by kernel_rfl) fun ρ hρ hd => ?_
        simp only [D_nil, D_add, D_sub, D_mul, D_and, D_or, D_xor, D_shl, D_shr, D_andNot, D_quo, D_rem, D_add_i64, D_sub_i64, D_mul_i64, D_add_u32, D_sub_u32, D_mul_u32, D_add_u8, D_sub_u8, D_mul_u8, D_eql, D_neq, D_lss, D_leq, D_gtr, D_geq, D_not, D_conv, D_eqs, D_call, D_cond, D_need, D_idx, D_sel, D_upd, D_shv, D_beq, D_len, D_byte, D_cut, D_cat, D_must, List.map_cons, List.map_nil, Ref.den] at hd
        obtain ⟨f31, f32, f33, f34, -⟩ := hd
        have q0 : ρ 0 = a0 := hρ 0 (by decide)
        have q1 : ρ 1 = a1 := hρ 1 (by decide)
        have q2 : ρ 2 = a2 := hρ 2 (by decide)
        have q3 : ρ 3 = a3 := hρ 3 (by decide)
        have q4 : ρ 4 = a4 := hρ 4 (by decide)
        have q5 : ρ 5 = a5 := hρ 5 (by decide)
        have q6 : ρ 6 = a6 := hρ 6 (by decide)
        have q7 : ρ 7 = a7 := hρ 7 (by decide)
        have q8 : ρ 8 = a8 := hρ 8 (by decide)
        have q9 : ρ 9 = a9 := hρ 9 (by decide)
        have q10 : ρ 10 = a10 := hρ 10 (by decide)
        have q11 : ρ 11 = a11 := hρ 11 (by decide)
        have q12 : ρ 12 = a12 := hρ 12 (by decide)
        have q13 : ρ 13 = a13 := hρ 13 (by decide)
        have q14 : ρ 14 = a14 := hρ 14 (by decide)
        have q15 : ρ 15 = b0 := hρ 15 (by decide)
        have q16 : ρ 16 = b1 := hρ 16 (by decide)
        have q17 : ρ 17 = b2 := hρ 17 (by decide)
        have q18 : ρ 18 = b3 := hρ 18 (by decide)
        have q19 : ρ 19 = b4 := hρ 19 (by decide)
        have q20 : ρ 20 = b5 := hρ 20 (by decide)
        have q21 : ρ 21 = b6 := hρ 21 (by decide)
        have q22 : ρ 22 = b7 := hρ 22 (by decide)
        have q23 : ρ 23 = b8 := hρ 23 (by decide)
        have q24 : ρ 24 = b9 := hρ 24 (by decide)
        have q25 : ρ 25 = b10 := hρ 25 (by decide)
        have q26 : ρ 26 = b11 := hρ 26 (by decide)
        have q27 : ρ 27 = b12 := hρ 27 (by decide)
        have q28 : ρ 28 = b13 := hρ 28 (by decide)
        have q29 : ρ 29 = b14 := hρ 29 (by decide)
        have q31 : ρ 31 = (b2i (true)) := by
            have t := f31 0 (by decide)
            exact t
        have q32 : ρ 32 = (b2i (!true)) := b2i_not f32 q31
        have q33 : ρ 33 = (b2i (longE [a0, a1, a2, a3, a4, a5, a6, a7, a8, a9, a10, a11, a12, a13, a14])) := by
            have t := f33 0 (by decide)
            simp only [q0, q1, q2, q3, q4, q5, q6, q7, q8, q9, q10, q11, q12, q13, q14] at t
            exact t
        have q34 : ρ 34 = (b2i (longE [b0, b1, b2, b3, b4, b5, b6, b7, b8, b9, b10, b11, b12, b13, b14])) := by
            have t := f34 0 (by decide)
            simp only [q15, q16, q17, q18, q19, q20, q21, q22, q23, q24, q25, q26, q27, q28, q29] at t
            exact t
        refine ⟨?_, ?_⟩
        · simp only [G_nil, G_bin, G_cmp, G_not, G_conv, G_eqs, G_call, G_cond, G_need, G_idx, G_sel, G_upd, G_shv, G_beq, G_prim, G_byte, G_cut, G_cat, List.map_cons, List.map_nil, Ref.den]
          refine ⟨?_, ?_, ?_, ?_, ?_, ?_, trivial⟩
          · exact trivial
          · exact b2i_cond q32 (by simp only [Bool.not_true, decide_true, decide_false, Bool.and_true, Bool.true_and, Bool.and_false, Bool.false_and, Bool.or_true, Bool.true_or, Bool.or_false, Bool.false_or, Bool.not_true, Bool.not_false, if_true, if_false, Bool.false_eq_true])
          · exact trivial
          · exact b2i_cond q33 (by simp only [c1, decide_true, decide_false, Bool.and_true, Bool.true_and, Bool.and_false, Bool.false_and, Bool.or_true, Bool.true_or, Bool.or_false, Bool.false_or, Bool.not_true, Bool.not_false, if_true, if_false, Bool.false_eq_true])
          · exact trivial
          · exact b2i_cond q34 (by simp only [c3, decide_true, decide_false, Bool.and_true, Bool.true_and, Bool.and_false, Bool.false_and, Bool.or_true, Bool.true_or, Bool.or_false, Bool.false_or, Bool.not_true, Bool.not_false, if_true, if_false, Bool.false_eq_true])
        · rfl
    · refine Go.Sx.Way.of (dec := [false, true]) (fs := [.need 40 [], .call 31 40 [] 1, .not 32 (.v 31), .cond 32 false, .need 13 [[.v 0, .v 1, .v 2, .v 3, .v 4, .v 5, .v 6, .v 7, .v 8, .v 9, .v 10, .v 11, .v 12, .v 13, .v 14]], .call 33 13 [[.v 0, .v 1, .v 2, .v 3, .v 4, .v 5, .v 6, .v 7, .v 8, .v 9, .v 10, .v 11, .v 12, .v 13, .v 14]] 1, .cond 33 true]) (refs := [.l 1]) (by kernel_rfl) fun ρ hρ hd => ?_
      simp only [D_nil, D_add, D_sub, D_mul, D_and, D_or, D_xor, D_shl, D_shr, D_andNot, D_quo, D_rem, D_add_i64, D_sub_i64, D_mul_i64, D_add_u32, D_sub_u32, D_mul_u32, D_add_u8, D_sub_u8, D_mul_u8, D_eql, D_neq, D_lss, D_leq, D_gtr, D_geq, D_not, D_conv, D_eqs, D_call, D_cond, D_need, D_idx, D_sel, D_upd, D_shv, D_beq, D_len, D_byte, D_cut, D_cat, D_must, List.map_cons, List.map_nil, Ref.den] at hd
      obtain ⟨f31, f32, f33, -⟩ := hd
      have q0 : ρ 0 = a0 := hρ 0 (by decide)
      have q1 : ρ 1 = a1 := hρ 1 (by decide)
      have q2 : ρ 2 = a2 := hρ 2 (by decide)
      have q3 : ρ 3 = a3 := hρ 3 (by decide)
      have q4 : ρ 4 = a4 := hρ 4 (by decide)
      have q5 : ρ 5 = a5 := hρ 5 (by decide)
      have q6 : ρ 6 = a6 := hρ 6 (by decide)
      have q7 : ρ 7 = a7 := hρ 7 (by decide)
      have q8 : ρ 8 = a8 := hρ 8 (by decide)
      have q9 : ρ 9 = a9 := hρ 9 (by decide)
      have q10 : ρ 10 = a10 := hρ 10 (by decide)
      have q11 : ρ 11 = a11 := hρ 11 (by decide)
      have q12 : ρ 12 = a12 := hρ 12 (by decide)
      have q13 : ρ 13 = a13 := hρ 13 (by decide)
      have q14 : ρ 14 = a14 := hρ 14 (by decide)
      have q31 : ρ 31 = (b2i (true)) := by
          have t := f31 0 (by decide)
          exact t
      have q32 : ρ 32 = (b2i (!true)) := b2i_not f32 q31
      have q33 : ρ 33 = (b2i (longE [a0, a1, a2, a3, a4, a5, a6, a7, a8, a9, a10, a11, a12, a13, a14])) := by
          have t := f33 0 (by decide)
          simp only [q0, q1, q2, q3, q4, q5, q6, q7, q8, q9, q10, q11, q12, q13, q14] at t
          exact t
      refine ⟨?_, ?_⟩
      · simp only [G_nil, G_bin, G_cmp, G_not, G_conv, G_eqs, G_call, G_cond, G_need, G_idx, G_sel, G_upd, G_shv, G_beq, G_prim, G_byte, G_cut, G_cat, List.map_cons, List.map_nil, Ref.den]
        refine ⟨?_, ?_, ?_, ?_, trivial⟩
        · exact trivial
        · exact b2i_cond q32 (by simp only [Bool.not_true, decide_true, decide_false, Bool.and_true, Bool.true_and, Bool.and_false, Bool.false_and, Bool.or_true, Bool.true_or, Bool.or_false, Bool.false_or, Bool.not_true, Bool.not_false, if_true, if_false, Bool.false_eq_true])
        · exact trivial
        · exact b2i_cond q33 (by simp only [c1, decide_true, decide_false, Bool.and_true, Bool.true_and, Bool.and_false, Bool.false_and, Bool.or_true, Bool.true_or, Bool.or_false, Bool.false_or, Bool.not_true, Bool.not_false, if_true, if_false, Bool.false_eq_true])
      · rfl
  · have hG7 : ofns.g 35 [[z]] = [g0, g1, g2, g3, g4, g5, g6, g7, g8, g9, g10, g11, g12, g13, g14, b2i false] := hG7
    cases c1 : longE [a0, a1, a2, a3, a4, a5, a6, a7, a8, a9, a10, a11, a12, a13, a14]
    · have n0 := long_not c1
      have m0 : (decZ a11).length ≤ 1000 ∧ (decZ a12).length ≤ 1000 ∧ (decZ a13).length ≤ 1000 := ⟨by omega, by omega, by omega⟩
      cases c3 : longE [b0, b1, b2, b3, b4, b5, b6, b7, b8, b9, b10, b11, b12, b13, b14]
      · have n1 := long_not c3
        have m1 : (decZ b11).length ≤ 1000 ∧ (decZ b12).length ≤ 1000 ∧ (decZ b13).length ≤ 1000 := ⟨by omega, by omega, by omega⟩
        cases c5 : decide (600 < ((decZ z).length : Int))
        · have hz := of_decide_eq_false c5
          refine Go.Sx.Way.of (dec := [false, false, false, false, true, true, true, true, false, true, true]) (fs := [.need 40 [], .call 31 40 [] 1, .not 32 (.v 31), .cond 32 false, .need 13 [[.v 0, .v 1, .v 2, .v 3, .v 4, .v 5, .v 6, .v 7, .v 8, .v 9, .v 10, .v 11, .v 12, .v 13, .v 14]], .call 33 13 [[.v 0, .v 1, .v 2, .v 3, .v 4, .v 5, .v 6, .v 7, .v 8, .v 9, .v 10, .v 11, .v 12, .v 13, .v 14]] 1, .cond 33 false, .need 13 [[.v 15, .v 16, .v 17, .v 18, .v 19, .v 20, .v 21, .v 22, .v 23, .v 24, .v 25, .v 26, .v 27, .v 28, .v 29]], .call 34 13 [[.v 15, .v 16, .v 17, .v 18, .v 19, .v 20, .v 21, .v 22, .v 23, .v 24, .v 25, .v 26, .v 27, .v 28, .v 29]] 1, .cond 34 false, .prim 35 0 [.v 30], .cmp 36 .gtr (.v 35) (.l 600), .cond 36 false, .need 15 [[.v 30]], .call 37 15 [[.v 30]] 16, .need 35 [[.v 30]], .call 53 35 [[.v 30]] 16, .need 14 [[.v 0, .v 1, .v 2, .v 3, .v 4, .v 5, .v 6, .v 7, .v 8, .v 9, .v 10, .v 11, .v 12, .v 13, .v 14]], .call 69 14 [[.v 0, .v 1, .v 2, .v 3, .v 4, .v 5, .v 6, .v 7, .v 8, .v 9, .v 10, .v 11, .v 12, .v 13, .v 14]] 1, .need 14 [[.v 0, .v 1, .v 2, .v 3, .v 4, .v 5, .v 6, .v 7, .v 8, .v 9, .v 10, .v 11, .v 12, .v 13, .v 14]], .call 70 14 [[.v 0, .v 1, .v 2, .v 3, .v 4, .v 5, .v 6, .v 7, .v 8, .v 9, .v 10, .v 11, .v 12, .v 13, .v 14]] 1, .cmp 71 .eql (.v 69) (.v 70), .cond 71 true, .need 10 [[.v 0, .v 1, .v 2, .v 3, .v 4, .v 5, .v 6, .v 7, .v 8, .v 9, .v 10, .v 11, .v 12, .v 13, .v 14]], .call 72 10 [[.v 0, .v 1, .v 2, .v 3, .v 4, .v 5, .v 6, .v 7, .v 8, .v 9, .v 10, .v 11, .v 12, .v 13, .v 14]] 1, .need 10 [[.v 0, .v 1, .v 2, .v 3, .v 4, .v 5, .v 6, .v 7, .v 8, .v 9, .v 10, .v 11, .v 12, .v 13, .v 14]], .call 73 10 [[.v 0, .v 1, .v 2, .v 3, .v 4, .v 5, .v 6, .v 7, .v 8, .v 9, .v 10, .v 11, .v 12, .v 13, .v 14]] 1, .beq 74 false (.v 72) (.v 73), .cond 74 true, .eqs 75 [(.v 37, .v 53), (.v 38, .v 54), (.v 39, .v 55), (.v 40, .v 56), (.v 41, .v 57), (.v 42, .v 58), (.v 43, .v 59), (.v 44, .v 60), (.v 45, .v 61), (.v 46, .v 62), (.v 47, .v 63), (.v 48, .v 64), (.v 49, .v 65), (.v 50, .v 66), (.v 51, .v 67)], .cond 75 true, .cmp 76 .eql (.v 52) (.l 0), .beq 77 false (.v 76) (.v 68), .cond 77 true, .cond 68 false, .cmp 78 .eql (.v 52) (.l 3), .cond 78 true, .need 11 [[.v 0, .v 1, .v 2, .v 3, .v 4, .v 5, .v 6, .v 7, .v 8, .v 9, .v 10, .v 11, .v 12, .v 13, .v 14], [.v 15, .v 16, .v 17, .v 18, .v 19, .v 20, .v 21, .v 22, .v 23, .v 24, .v 25, .v 26, .v 27, .v 28, .v 29]], .call 79 11 [[.v 0, .v 1, .v 2, .v 3, .v 4, .v 5, .v 6, .v 7, .v 8, .v 9, .v 10, .v 11, .v 12, .v 13, .v 14], [.v 15, .v 16, .v 17, .v 18, .v 19, .v 20, .v 21, .v 22, .v 23, .v 24, .v 25, .v 26, .v 27, .v 28, .v 29]] 1, .need 11 [[.v 0, .v 1, .v 2, .v 3, .v 4, .v 5, .v 6, .v 7, .v 8, .v 9, .v 10, .v 11, .v 12, .v 13, .v 14], [.v 15, .v 16, .v 17, .v 18, .v 19, .v 20, .v 21, .v 22, .v 23, .v 24, .v 25, .v 26, .v 27, .v 28, .v 29]], .call 80 11 [[.v 0, .v 1, .v 2, .v 3, .v 4, .v 5, .v 6, .v 7, .v 8, .v 9, .v 10, .v 11, .v 12, .v 13, .v 14], [.v 15, .v 16, .v 17, .v 18, .v 19, .v 20, .v 21, .v 22, .v 23, .v 24, .v 25, .v 26, .v 27, .v 28, .v 29]] 1, .beq 81 false (.v 79) (.v 80), .cond 81 true, .need 12 [[.v 0, .v 1, .v 2, .v 3, .v 4, .v 5, .v 6, .v 7, .v 8, .v 9, .v 10, .v 11, .v 12, .v 13, .v 14], [.v 15, .v 16, .v 17, .v 18, .v 19, .v 20, .v 21, .v 22, .v 23, .v 24, .v 25, .v 26, .v 27, .v 28, .v 29]], .call 82 12 [[.v 0, .v 1, .v 2, .v 3, .v 4, .v 5, .v 6, .v 7, .v 8, .v 9, .v 10, .v 11, .v 12, .v 13, .v 14], [.v 15, .v 16, .v 17, .v 18, .v 19, .v 20, .v 21, .v 22, .v 23, .v 24, .v 25, .v 26, .v 27, .v 28, .v 29]] 1, .need 12 [[.v 0, .v 1, .v 2, .v 3, .v 4, .v 5, .v 6, .v 7, .v 8, .v 9, .v 10, .v 11, .v 12, .v 13, .v 14], [.v 15, .v 16, .v 17, .v 18, .v 19, .v 20, .v 21, .v 22, .v 23, .v 24, .v 25, .v 26, .v 27, .v 28, .v 29]], .call 83 12 [[.v 0, .v 1, .v 2, .v 3, .v 4, .v 5, .v 6, .v 7, .v 8, .v 9, .v 10, .v 11, .v 12, .v 13, .v 14], [.v 15, .v 16, .v 17, .v 18, .v 19, .v 20, .v 21, .v 22, .v 23, .v 24, .v 25, .v 26, .v 27, .v 28, .v 29]] 1, .beq 84 false (.v 82) (.v 83)]) (refs := [.v 84]) (by kernel_rfl) fun ρ hρ hd => ?_
          simp only [D_nil, D_add, D_sub, D_mul, D_and, D_or, D_xor, D_shl, D_shr, D_andNot, D_quo, D_rem, D_add_i64, D_sub_i64, D_mul_i64, D_add_u32, D_sub_u32, D_mul_u32, D_add_u8, D_sub_u8, D_mul_u8, D_eql, D_neq, D_lss, D_leq, D_gtr, D_geq, D_not, D_conv, D_eqs, D_call, D_cond, D_need, D_idx, D_sel, D_upd, D_shv, D_beq, D_len, D_byte, D_cut, D_cat, D_must, List.map_cons, List.map_nil, Ref.den] at hd
          obtain ⟨f31, f32, f33, f34, f35, f36, f37, f53, f69, f70, f71, f72, f73, f74, f75, f76, f77, f78, f79, f80, f81, f82, f83, f84, -⟩ := hd
          have q0 : ρ 0 = a0 := hρ 0 (by decide)
          have q1 : ρ 1 = a1 := hρ 1 (by decide)
          have q2 : ρ 2 = a2 := hρ 2 (by decide)
          have q3 : ρ 3 = a3 := hρ 3 (by decide)
          have q4 : ρ 4 = a4 := hρ 4 (by decide)
          have q5 : ρ 5 = a5 := hρ 5 (by decide)
          have q6 : ρ 6 = a6 := hρ 6 (by decide)
          have q7 : ρ 7 = a7 := hρ 7 (by decide)
          have q8 : ρ 8 = a8 := hρ 8 (by decide)
          have q9 : ρ 9 = a9 := hρ 9 (by decide)
          have q10 : ρ 10 = a10 := hρ 10 (by decide)
          have q11 : ρ 11 = a11 := hρ 11 (by decide)
          have q12 : ρ 12 = a12 := hρ 12 (by decide)
          have q13 : ρ 13 = a13 := hρ 13 (by decide)
          have q14 : ρ 14 = a14 := hρ 14 (by decide)
          have q15 : ρ 15 = b0 := hρ 15 (by decide)
          have q16 : ρ 16 = b1 := hρ 16 (by decide)
          have q17 : ρ 17 = b2 := hρ 17 (by decide)
          have q18 : ρ 18 = b3 := hρ 18 (by decide)
          have q19 : ρ 19 = b4 := hρ 19 (by decide)
          have q20 : ρ 20 = b5 := hρ 20 (by decide)
          have q21 : ρ 21 = b6 := hρ 21 (by decide)
          have q22 : ρ 22 = b7 := hρ 22 (by decide)
          have q23 : ρ 23 = b8 := hρ 23 (by decide)
          have q24 : ρ 24 = b9 := hρ 24 (by decide)
          have q25 : ρ 25 = b10 := hρ 25 (by decide)
          have q26 : ρ 26 = b11 := hρ 26 (by decide)
          have q27 : ρ 27 = b12 := hρ 27 (by decide)
          have q28 : ρ 28 = b13 := hρ 28 (by decide)
          have q29 : ρ 29 = b14 := hρ 29 (by decide)
          have q30 : ρ 30 = z := hρ 30 (by decide)
          have q31 : ρ 31 = (b2i (true)) := by
              have t := f31 0 (by decide)
              exact t
          have q32 : ρ 32 = (b2i (!true)) := b2i_not f32 q31
          have q33 : ρ 33 = (b2i (longE [a0, a1, a2, a3, a4, a5, a6, a7, a8, a9, a10, a11, a12, a13, a14])) := by
              have t := f33 0 (by decide)
              simp only [q0, q1, q2, q3, q4, q5, q6, q7, q8, q9, q10, q11, q12, q13, q14] at t
              exact t
          have q34 : ρ 34 = (b2i (longE [b0, b1, b2, b3, b4, b5, b6, b7, b8, b9, b10, b11, b12, b13, b14])) := by
              have t := f34 0 (by decide)
              simp only [q15, q16, q17, q18, q19, q20, q21, q22, q23, q24, q25, q26, q27, q28, q29] at t
              exact t
          have q35 : ρ 35 = ((decZ z).length : Int) := by rw [f35, q30]
          have q36 : ρ 36 = (b2i (decide (600 < ((decZ z).length : Int)))) := b2i_dec f36 (by simp only [q35])
          have q37 : ρ 37 = g0 := by
              have t := f37 0 (by decide)
              simp only [q30, hG8] at t
              exact t
          have q38 : ρ 38 = g1 := by
              have t := f37 1 (by decide)
              simp only [q30, hG8] at t
              exact t
          have q39 : ρ 39 = g2 := by
              have t := f37 2 (by decide)
              simp only [q30, hG8] at t
              exact t
          have q40 : ρ 40 = g3 := by
              have t := f37 3 (by decide)
              simp only [q30, hG8] at t
              exact t
          have q41 : ρ 41 = g4 := by
              have t := f37 4 (by decide)
              simp only [q30, hG8] at t
              exact t
          have q42 : ρ 42 = g5 := by
              have t := f37 5 (by decide)
              simp only [q30, hG8] at t
              exact t
          have q43 : ρ 43 = g6 := by
              have t := f37 6 (by decide)
              simp only [q30, hG8] at t
              exact t
          have q44 : ρ 44 = g7 := by
              have t := f37 7 (by decide)
              simp only [q30, hG8] at t
              exact t
          have q45 : ρ 45 = g8 := by
              have t := f37 8 (by decide)
              simp only [q30, hG8] at t
              exact t
          have q46 : ρ 46 = g9 := by
              have t := f37 9 (by decide)
              simp only [q30, hG8] at t
              exact t
          have q47 : ρ 47 = g10 := by
              have t := f37 10 (by decide)
              simp only [q30, hG8] at t
              exact t
          have q48 : ρ 48 = g11 := by
              have t := f37 11 (by decide)
              simp only [q30, hG8] at t
              exact t
          have q49 : ρ 49 = g12 := by
              have t := f37 12 (by decide)
              simp only [q30, hG8] at t
              exact t
          have q50 : ρ 50 = g13 := by
              have t := f37 13 (by decide)
              simp only [q30, hG8] at t
              exact t
          have q51 : ρ 51 = g14 := by
              have t := f37 14 (by decide)
              simp only [q30, hG8] at t
              exact t
          have q52 : ρ 52 = 3 := by
              have t := f37 15 (by decide)
              simp only [q30, hG8] at t
              exact t
          have q53 : ρ 53 = g0 := by
              have t := f53 0 (by decide)
              simp only [q30, hG7] at t
              exact t
          have q54 : ρ 54 = g1 := by
              have t := f53 1 (by decide)
              simp only [q30, hG7] at t
              exact t
          have q55 : ρ 55 = g2 := by
              have t := f53 2 (by decide)
              simp only [q30, hG7] at t
              exact t
          have q56 : ρ 56 = g3 := by
              have t := f53 3 (by decide)
              simp only [q30, hG7] at t
              exact t
          have q57 : ρ 57 = g4 := by
              have t := f53 4 (by decide)
              simp only [q30, hG7] at t
              exact t
          have q58 : ρ 58 = g5 := by
              have t := f53 5 (by decide)
              simp only [q30, hG7] at t
              exact t
          have q59 : ρ 59 = g6 := by
              have t := f53 6 (by decide)
              simp only [q30, hG7] at t
              exact t
          have q60 : ρ 60 = g7 := by
              have t := f53 7 (by decide)
              simp only [q30, hG7] at t
              exact t
          have q61 : ρ 61 = g8 := by
              have t := f53 8 (by decide)
              simp only [q30, hG7] at t
              exact t
          have q62 : ρ 62 = g9 := by
              have t := f53 9 (by decide)
              simp only [q30, hG7] at t
              exact t
          have q63 : ρ 63 = g10 := by
              have t := f53 10 (by decide)
              simp only [q30, hG7] at t
              exact t
          have q64 : ρ 64 = g11 := by
              have t := f53 11 (by decide)
              simp only [q30, hG7] at t
              exact t
          have q65 : ρ 65 = g12 := by
              have t := f53 12 (by decide)
              simp only [q30, hG7] at t
              exact t
          have q66 : ρ 66 = g13 := by
              have t := f53 13 (by decide)
              simp only [q30, hG7] at t
              exact t
          have q67 : ρ 67 = g14 := by
              have t := f53 14 (by decide)
              simp only [q30, hG7] at t
              exact t
          have q68 : ρ 68 = (b2i (false)) := by
              have t := f53 15 (by decide)
              simp only [q30, hG7] at t
              exact t
          have q69 : ρ 69 = (codZ (putE [a0, a1, a2, a3, a4, a5, a6, a7, a8, a9, a10, a11, a12, a13, a14])) := by
              have t := f69 0 (by decide)
              simp only [q0, q1, q2, q3, q4, q5, q6, q7, q8, q9, q10, q11, q12, q13, q14] at t
              exact t
          have q70 : ρ 70 = (codZ (putE [a0, a1, a2, a3, a4, a5, a6, a7, a8, a9, a10, a11, a12, a13, a14])) := by
              have t := f70 0 (by decide)
              simp only [q0, q1, q2, q3, q4, q5, q6, q7, q8, q9, q10, q11, q12, q13, q14] at t
              exact t
          have q71 : ρ 71 = (b2i (decide ((codZ (putE [a0, a1, a2, a3, a4, a5, a6, a7, a8, a9, a10, a11, a12, a13, a14])) = (codZ (putE [a0, a1, a2, a3, a4, a5, a6, a7, a8, a9, a10, a11, a12, a13, a14]))))) := b2i_dec f71 (by simp only [q69, q70])
          have q72 : ρ 72 = (b2i (goodE [a0, a1, a2, a3, a4, a5, a6, a7, a8, a9, a10, a11, a12, a13, a14])) := by
              have t := f72 0 (by decide)
              simp only [q0, q1, q2, q3, q4, q5, q6, q7, q8, q9, q10, q11, q12, q13, q14] at t
              exact t
          have q73 : ρ 73 = (b2i (goodE [a0, a1, a2, a3, a4, a5, a6, a7, a8, a9, a10, a11, a12, a13, a14])) := by
              have t := f73 0 (by decide)
              simp only [q0, q1, q2, q3, q4, q5, q6, q7, q8, q9, q10, q11, q12, q13, q14] at t
              exact t
          have q74 : ρ 74 = (b2i (((goodE [a0, a1, a2, a3, a4, a5, a6, a7, a8, a9, a10, a11, a12, a13, a14]) == (goodE [a0, a1, a2, a3, a4, a5, a6, a7, a8, a9, a10, a11, a12, a13, a14])) != false)) := b2i_beq f74 q72 q73
          have q75 : ρ 75 = (b2i (decide ([g0, g1, g2, g3, g4, g5, g6, g7, g8, g9, g10, g11, g12, g13, g14] = [g0, g1, g2, g3, g4, g5, g6, g7, g8, g9, g10, g11, g12, g13, g14]))) := b2i_eqs (l := [g0, g1, g2, g3, g4, g5, g6, g7, g8, g9, g10, g11, g12, g13, g14]) (m := [g0, g1, g2, g3, g4, g5, g6, g7, g8, g9, g10, g11, g12, g13, g14]) f75 (by simp only [List.map_cons, List.map_nil, Ref.den, q37, q53, q38, q54, q39, q55, q40, q56, q41, q57, q42, q58, q43, q59, q44, q60, q45, q61, q46, q62, q47, q63, q48, q64, q49, q65, q50, q66, q51, q67]) (by simp only [List.map_cons, List.map_nil, Ref.den, q37, q53, q38, q54, q39, q55, q40, q56, q41, q57, q42, q58, q43, q59, q44, q60, q45, q61, q46, q62, q47, q63, q48, q64, q49, q65, q50, q66, q51, q67])
          have q76 : ρ 76 = (b2i (decide ((3 : Int) = 0))) := b2i_dec f76 (by simp only [q52])
          have q77 : ρ 77 = (b2i (((decide ((3 : Int) = 0)) == false) != false)) := b2i_beq f77 q76 q68
          have q78 : ρ 78 = (b2i (decide ((3 : Int) = 3))) := b2i_dec f78 (by simp only [q52])
          have q79 : ρ 79 = (b2i (overE [a0, a1, a2, a3, a4, a5, a6, a7, a8, a9, a10, a11, a12, a13, a14] [b0, b1, b2, b3, b4, b5, b6, b7, b8, b9, b10, b11, b12, b13, b14])) := by
              have t := f79 0 (by decide)
              simp only [q0, q1, q2, q3, q4, q5, q6, q7, q8, q9, q10, q11, q12, q13, q14, q15, q16, q17, q18, q19, q20, q21, q22, q23, q24, q25, q26, q27, q28, q29] at t
              exact t
          have q80 : ρ 80 = (b2i (overE [a0, a1, a2, a3, a4, a5, a6, a7, a8, a9, a10, a11, a12, a13, a14] [b0, b1, b2, b3, b4, b5, b6, b7, b8, b9, b10, b11, b12, b13, b14])) := by
              have t := f80 0 (by decide)
              simp only [q0, q1, q2, q3, q4, q5, q6, q7, q8, q9, q10, q11, q12, q13, q14, q15, q16, q17, q18, q19, q20, q21, q22, q23, q24, q25, q26, q27, q28, q29] at t
              exact t
          have q81 : ρ 81 = (b2i (((overE [a0, a1, a2, a3, a4, a5, a6, a7, a8, a9, a10, a11, a12, a13, a14] [b0, b1, b2, b3, b4, b5, b6, b7, b8, b9, b10, b11, b12, b13, b14]) == (overE [a0, a1, a2, a3, a4, a5, a6, a7, a8, a9, a10, a11, a12, a13, a14] [b0, b1, b2, b3, b4, b5, b6, b7, b8, b9, b10, b11, b12, b13, b14])) != false)) := b2i_beq f81 q79 q80
          have q82 : ρ 82 = (b2i (lessE [a0, a1, a2, a3, a4, a5, a6, a7, a8, a9, a10, a11, a12, a13, a14] [b0, b1, b2, b3, b4, b5, b6, b7, b8, b9, b10, b11, b12, b13, b14])) := by
              have t := f82 0 (by decide)
              simp only [q0, q1, q2, q3, q4, q5, q6, q7, q8, q9, q10, q11, q12, q13, q14, q15, q16, q17, q18, q19, q20, q21, q22, q23, q24, q25, q26, q27, q28, q29] at t
              exact t
          have q83 : ρ 83 = (b2i (lessE [a0, a1, a2, a3, a4, a5, a6, a7, a8, a9, a10, a11, a12, a13, a14] [b0, b1, b2, b3, b4, b5, b6, b7, b8, b9, b10, b11, b12, b13, b14])) := by
              have t := f83 0 (by decide)
              simp only [q0, q1, q2, q3, q4, q5, q6, q7, q8, q9, q10, q11, q12, q13, q14, q15, q16, q17, q18, q19, q20, q21, q22, q23, q24, q25, q26, q27, q28, q29] at t
              exact t
          have q84 : ρ 84 = (b2i (((lessE [a0, a1, a2, a3, a4, a5, a6, a7, a8, a9, a10, a11, a12, a13, a14] [b0, b1, b2, b3, b4, b5, b6, b7, b8, b9, b10, b11, b12, b13, b14]) == (lessE [a0, a1, a2, a3, a4, a5, a6, a7, a8, a9, a10, a11, a12, a13, a14] [b0, b1, b2, b3, b4, b5, b6, b7, b8, b9, b10, b11, b12, b13, b14])) != false)) := b2i_beq f84 q82 q83
          refine ⟨?_, ?_⟩
          · simp only [G_nil, G_bin, G_cmp, G_not, G_conv, G_eqs, G_call, G_cond, G_need, G_idx, G_sel, G_upd, G_shv, G_beq, G_prim, G_byte, G_cut, G_cat, List.map_cons, List.map_nil, Ref.den]
            refine ⟨?_, ?_, ?_, ?_, ?_, ?_, ?_, ?_, ?_, ?_, ?_, ?_, ?_, ?_, ?_, ?_, ?_, ?_, ?_, ?_, ?_, ?_, ?_, ?_, trivial⟩
            · exact trivial
            · exact b2i_cond q32 (by simp only [Bool.not_true, decide_true, decide_false, Bool.and_true, Bool.true_and, Bool.and_false, Bool.false_and, Bool.or_true, Bool.true_or, Bool.or_false, Bool.false_or, Bool.not_true, Bool.not_false, if_true, if_false, Bool.false_eq_true])
            · exact trivial
            · exact b2i_cond q33 (by simp only [c1, decide_true, decide_false, Bool.and_true, Bool.true_and, Bool.and_false, Bool.false_and, Bool.or_true, Bool.true_or, Bool.or_false, Bool.false_or, Bool.not_true, Bool.not_false, if_true, if_false, Bool.false_eq_true])
            · exact trivial
            · exact b2i_cond q34 (by simp only [c3, decide_true, decide_false, Bool.and_true, Bool.true_and, Bool.and_false, Bool.false_and, Bool.or_true, Bool.true_or, Bool.or_false, Bool.false_or, Bool.not_true, Bool.not_false, if_true, if_false, Bool.false_eq_true])
            · exact b2i_cond q36 (by simp only [c5, decide_true, decide_false, Bool.and_true, Bool.true_and, Bool.and_false, Bool.false_and, Bool.or_true, Bool.true_or, Bool.or_false, Bool.false_or, Bool.not_true, Bool.not_false, if_true, if_false, Bool.false_eq_true])
            · exact by show (decZ (ρ 30)).length ≤ 1000; rw [q30]; omega
            · exact by show (decZ (ρ 30)).length ≤ 1000; rw [q30]; omega
            · exact by show (decZ (ρ 11)).length ≤ 1000 ∧ (decZ (ρ 12)).length ≤ 1000 ∧ (decZ (ρ 13)).length ≤ 1000; rw [q11, q12, q13]; exact m0
            · exact by show (decZ (ρ 11)).length ≤ 1000 ∧ (decZ (ρ 12)).length ≤ 1000 ∧ (decZ (ρ 13)).length ≤ 1000; rw [q11, q12, q13]; exact m0
            · exact b2i_cond q71 (by simp)
            · exact by show (decZ (ρ 11)).length ≤ 1000 ∧ (decZ (ρ 12)).length ≤ 1000 ∧ (decZ (ρ 13)).length ≤ 1000; rw [q11, q12, q13]; exact m0
            · exact by show (decZ (ρ 11)).length ≤ 1000 ∧ (decZ (ρ 12)).length ≤ 1000 ∧ (decZ (ρ 13)).length ≤ 1000; rw [q11, q12, q13]; exact m0
            · exact b2i_cond q74 (by simp)
            · exact b2i_cond q75 (by simp)
            · exact b2i_cond q77 (by simp)
            · exact b2i_cond q68 (by simp)
            · exact b2i_cond q78 (by simp)
            · exact trivial
            · exact trivial
            · exact b2i_cond q81 (by simp)
            · exact trivial
            · exact trivial
          · show [ρ 84] = [1]
            rw [q84]
            exact congrArg (fun b => [b2i b]) (show (((lessE [a0, a1, a2, a3, a4, a5, a6, a7, a8, a9, a10, a11, a12, a13, a14] [b0, b1, b2, b3, b4, b5, b6, b7, b8, b9, b10, b11, b12, b13, b14]) == (lessE [a0, a1, a2, a3, a4, a5, a6, a7, a8, a9, a10, a11, a12, a13, a14] [b0, b1, b2, b3, b4, b5, b6, b7, b8, b9, b10, b11, b12, b13, b14])) != false) = true by simp)
        · refine Go.Sx.Way.of (dec := [false, false, false, true]) (fs := [.need 40 [], .call 31 40 [] 1, .not 32 (.v 31), .cond 32 false, .need 13 [[.v 0, .v 1, .v 2, .v 3, .v 4, .v 5, .v 6, .v 7, .v 8, .v 9, .v 10, .v 11, .v 12, .v 13, .v 14]], .call 33 13 [[.v 0, .v 1, .v 2, .v 3, .v 4, .v 5, .v 6, .v 7, .v 8, .v 9, .v 10, .v 11, .v 12, .v 13, .v 14]] 1, .cond 33 false, .need 13 [[.v 15, .v 16, .v 17, .v 18, .v 19, .v 20, .v 21, .v 22, .v 23, .v 24, .v 25, .v 26, .v 27, .v 28, .v 29]], .call 34 13 [[.v 15, .v 16, .v 17, .v 18, .v 19, .v 20, .v 21, .v 22, .v 23, .v 24, .v 25, .v 26, .v 27, .v 28, .v 29]] 1, .cond 34 false, .prim 35 0 [.v 30], .cmp 36 .gtr (.v 35) (.l 600), .cond 36 true]) (refs := [.l 1]) (by kernel_rfl) fun ρ hρ hd => ?_
          simp only [D_nil, D_add, D_sub, D_mul, D_and, D_or, D_xor, D_shl, D_shr, D_andNot, D_quo, D_rem, D_add_i64, D_sub_i64, D_mul_i64, D_add_u32, D_sub_u32, D_mul_u32, D_add_u8, D_sub_u8, D_mul_u8, D_eql, D_neq, D_lss, D_leq, D_gtr, D_geq, D_not, D_conv, D_eqs, D_call, D_cond, D_need, D_idx, D_sel, D_upd, D_shv, D_beq, D_len, D_byte, D_cut, D_cat, D_must, List.map_cons, List.map_nil, Ref.den] at hd
          obtain ⟨f31, f32, f33, f34, f35, f36, -⟩ := hd
          have q0 : ρ 0 = a0 := hρ 0 (by decide)
          have q1 : ρ 1 = a1 := hρ 1 (by decide)
          have q2 : ρ 2 = a2 := hρ 2 (by decide)
          have q3 : ρ 3 = a3 := hρ 3 (by decide)
          have q4 : ρ 4 = a4 := hρ 4 (by decide)
          have q5 : ρ 5 = a5 := hρ 5 (by decide)
          have q6 : ρ 6 = a6 := hρ 6 (by decide)
          have q7 : ρ 7 = a7 := hρ 7 (by decide)
          have q8 : ρ 8 = a8 := hρ 8 (by decide)
          have q9 : ρ 9 = a9 := hρ 9 (by decide)
          have q10 : ρ 10 = a10 := hρ 10 (by decide)
          have q11 : ρ 11 = a11 := hρ 11 (by decide)
          have q12 : ρ 12 = a12 := hρ 12 (by decide)
          have q13 : ρ 13 = a13 := hρ 13 (by decide)
          have q14 : ρ 14 = a14 := hρ 14 (by decide)
          have q15 : ρ 15 = b0 := hρ 15 (by decide)
          have q16 : ρ 16 = b1 := hρ 16 (by decide)
          have q17 : ρ 17 = b2 := hρ 17 (by decide)
          have q18 : ρ 18 = b3 := hρ 18 (by decide)
          have q19 : ρ 19 = b4 := hρ 19 (by decide)
          have q20 : ρ 20 = b5 := hρ 20 (by decide)
          have q21 : ρ 21 = b6 := hρ 21 (by decide)
          have q22 : ρ 22 = b7 := hρ 22 (by decide)
          have q23 : ρ 23 = b8 := hρ 23 (by decide)
          have q24 : ρ 24 = b9 := hρ 24 (by decide)
          have q25 : ρ 25 = b10 := hρ 25 (by decide)
          have q26 : ρ 26 = b11 := hρ 26 (by decide)
          have q27 : ρ 27 = b12 := hρ 27 (by decide)
          have q28 : ρ 28 = b13 := hρ 28 (by decide)
          have q29 : ρ 29 = b14 := hρ 29 (by decide)
          have q30 : ρ 30 = z := hρ 30 (by decide)
          have q31 : ρ 31 = (b2i (true)) := by
              have t := f31 0 (by decide)
              exact t
          have q32 : ρ 32 = (b2i (!true)) := b2i_not f32 q31
          have q33 : ρ 33 = (b2i (longE [a0, a1, a2, a3, a4, a5, a6, a7, a8, a9, a10, a11, a12, a13, a14])) := by
              have t := f33 0 (by decide)
              simp only [q0, q1, q2, q3, q4, q5, q6, q7, q8, q9, q10, q11, q12, q13, q14] at t
              exact t
          have q34 : ρ 34 = (b2i (longE [b0, b1, b2, b3, b4, b5, b6, b7, b8, b9, b10, b11, b12, b13, b14])) := by
              have t := f34 0 (by decide)
              simp only [q15, q16, q17, q18, q19, q20, q21, q22, q23, q24, q25, q26, q27, q28, q29] at t
              exact t
          have q35 : ρ 35 = ((decZ z).length : Int) := by rw [f35, q30]
          have q36 : ρ 36 = (b2i (decide (600 < ((decZ z).length : Int)))) := b2i_dec f36 (by simp only [q35])
          refine ⟨?_, ?_⟩
          · simp only [G_nil, G_bin, G_cmp, G_not, G_conv, G_eqs, G_call, G_cond, G_need, G_idx, G_sel, G_upd, G_shv, G_beq, G_prim, G_byte, G_cut, G_cat, List.map_cons, List.map_nil, Ref.den]
            refine ⟨?_, ?_, ?_, ?_, ?_, ?_, ?_, trivial⟩
            · exact trivial
            · exact b2i_cond q32 (by simp only [Bool.not_true, decide_true, decide_false, Bool.and_true, Bool.true_and, Bool.and_false, Bool.false_and, Bool.or_true, Bool.true_or, Bool.or_false, Bool.false_or, Bool.not_true, Bool.not_false, if_true, if_false, Bool.false_eq_true])
            · exact trivial
            · exact b2i_cond q33 (by simp only [c1, decide_true, decide_false, Bool.and_true, Bool.true_and, Bool.and_false, Bool.false_and, Bool.or_true, Bool.true_or, Bool.or_false, Bool.false_or, Bool.not_true, Bool.not_false, if_true, if_false, Bool.false_eq_true])
            · exact trivial
            · exact b2i_cond q34 (by simp only [c3, decide_true, decide_false, Bool.and_true, Bool.true_and, Bool.and_false, Bool.false_and, Bool.or_true, Bool.true_or, Bool.or_false, Bool.false_or, Bool.not_true, Bool.not_false, if_true, if_false, Bool.false_eq_true])
            · exact b2i_cond q36 (by simp only [c5, decide_true, decide_false, Bool.and_true, Bool.true_and, Bool.and_false, Bool.false_and, Bool.or_true, Bool.true_or, Bool.or_false, Bool.false_or, Bool.not_true, Bool.not_false, if_true, if_false, Bool.false_eq_true])
          · rfl
      · refine Go.Sx.Way.of (dec := [false, false, true]) (fs := [.need 40 [], .call 31 40 [] 1, .not 32 (.v 31), .cond 32 false, .need 13 [[.v 0, .v 1, .v 2, .v 3, .v 4, .v 5, .v 6, .v 7, .v 8, .v 9, .v 10, .v 11, .v 12, .v 13, .v 14]], .call 33 13 [[.v 0, .v 1, .v 2, .v 3, .v 4, .v 5, .v 6, .v 7, .v 8, .v 9, .v 10, .v 11, .v 12, .v 13, .v 14]] 1, .cond 33 false, .need 13 [[.v 15, .v 16, .v 17, .v 18, .v 19, .v 20, .v 21, .v 22, .v 23, .v 24, .v 25, .v 26, .v 27, .v 28, .v 29]], .call 34 13 [[.v 15, .v 16, .v 17, .v 18, .v 19, .v 20, .v 21, .v 22, .v 23, .v 24, .v 25, .v 26, .v 27, .v 28, .v 29]] 1, .cond 34 true]) (refs := [.l 1]) (by kernel_rfl) fun ρ hρ hd => ?_
        simp only [D_nil, D_add, D_sub, D_mul, D_and, D_or, D_xor, D_shl, D_shr, D_andNot, D_quo, D_rem, D_add_i64, D_sub_i64, D_mul_i64, D_add_u32, D_sub_u32, D_mul_u32, D_add_u8, D_sub_u8, D_mul_u8, D_eql, D_neq, D_lss, D_leq, D_gtr, D_geq, D_not, D_conv, D_eqs, D_call, D_cond, D_need, D_idx, D_sel, D_upd, D_shv, D_beq, D_len, D_byte, D_cut, D_cat, D_must, List.map_cons, List.map_nil, Ref.den] at hd
        obtain ⟨f31, f32, f33, f34, -⟩ := hd
        have q0 : ρ 0 = a0 := hρ 0 (by decide)
        have q1 : ρ 1 = a1 := hρ 1 (by decide)
        have q2 : ρ 2 = a2 := hρ 2 (by decide)
        have q3 : ρ 3 = a3 := hρ 3 (by decide)
        have q4 : ρ 4 = a4 := hρ 4 (by decide)
        have q5 : ρ 5 = a5 := hρ 5 (by decide)
        have q6 : ρ 6 = a6 := hρ 6 (by decide)
        have q7 : ρ 7 = a7 := hρ 7 (by decide)
        have q8 : ρ 8 = a8 := hρ 8 (by decide)
        have q9 : ρ 9 = a9 := hρ 9 (by decide)
        have q10 : ρ 10 = a10 := hρ 10 (by decide)
        have q11 : ρ 11 = a11 := hρ 11 (by decide)
        have q12 : ρ 12 = a12 := hρ 12 (by decide)
        have q13 : ρ 13 = a13 := hρ 13 (by decide)
        have q14 : ρ 14 = a14 := hρ 14 (by decide)
        have q15 : ρ 15 = b0 := hρ 15 (by decide)
        have q16 : ρ 16 = b1 := hρ 16 (by decide)
        have q17 : ρ 17 = b2 := hρ 17 (by decide)
        have q18 : ρ 18 = b3 := hρ 18 (by decide)
        have q19 : ρ 19 = b4 := hρ 19 (by decide)
        have q20 : ρ 20 = b5 := hρ 20 (by decide)
        have q21 : ρ 21 = b6 := hρ 21 (by decide)
        have q22 : ρ 22 = b7 := hρ 22 (by decide)
        have q23 : ρ 23 = b8 := hρ 23 (by decide)
        have q24 : ρ 24 = b9 := hρ 24 (by decide)
        have q25 : ρ 25 = b10 := hρ 25 (by decide)
        have q26 : ρ 26 = b11 := hρ 26 (by decide)
        have q27 : ρ 27 = b12 := hρ 27 (by decide)
        have q28 : ρ 28 = b13 := hρ 28 (by decide)
        have q29 : ρ 29 = b14 := hρ 29 (by decide)
        have q31 : ρ 31 = (b2i (true)) := by
            have t := f31 0 (by decide)
            exact t
        have q32 : ρ 32 = (b2i (!true)) := b2i_not f32 q31
        have q33 : ρ 33 = (b2i (longE [a0, a1, a2, a3, a4, a5, a6, a7, a8, a9, a10, a11, a12, a13, a14])) := by
            have t := f33 0 (by decide)
            simp only [q0, q1, q2, q3, q4, q5, q6, q7, q8, q9, q10, q11, q12, q13, q14] at t
            exact t
        have q34 : ρ 34 = (b2i (longE [b0, b1, b2, b3, b4, b5, b6, b7, b8, b9, b10, b11, b12, b13, b14])) := by
            have t := f34 0 (by decide)
            simp only [q15, q16, q17, q18, q19, q20, q21, q22, q23, q24, q25, q26, q27, q28, q29] at t
            exact t
        refine ⟨?_, ?_⟩
        · simp only [G_nil, G_bin, G_cmp, G_not, G_conv, G_eqs, G_call, G_cond, G_need, G_idx, G_sel, G_upd, G_shv, G_beq, G_prim, G_byte, G_cut, G_cat, List.map_cons, List.map_nil, Ref.den]
          refine ⟨?_, ?_, ?_, ?_, ?_, ?_, trivial⟩
          · exact trivial
          · exact b2i_cond q32 (by simp only [Bool.not_true, decide_true, decide_false, Bool.and_true, Bool.true_and, Bool.and_false, Bool.false_and, Bool.or_true, Bool.true_or, Bool.or_false, Bool.false_or, Bool.not_true, Bool.not_false, if_true, if_false, Bool.false_eq_true])
          · exact trivial
          · exact b2i_cond q33 (by simp only [c1, decide_true, decide_false, Bool.and_true, Bool.true_and, Bool.and_false, Bool.false_and, Bool.or_true, Bool.true_or, Bool.or_false, Bool.false_or, Bool.not_true, Bool.not_false, if_true, if_false, Bool.false_eq_true])
          · exact trivial
          · exact b2i_cond q34 (by simp only [c3, decide_true, decide_false, Bool.and_true, Bool.true_and, Bool.and_false, Bool.false_and, Bool.or_true, Bool.true_or, Bool.or_false, Bool.false_or, Bool.not_true, Bool.not_false, if_true, if_false, Bool.false_eq_true])
        · rfl
    · refine Go.Sx.Way.of (dec := [false, true]) (fs := [.need 40 [], .call 31 40 [] 1, .not 32 (.v 31), .cond 32 false, .need 13 [[.v 0, .v 1, .v 2, .v 3, .v 4, .v 5, .v 6, .v 7, .v 8, .v 9, .v 10, .v 11, .v 12, .v 13, .v 14]], .call 33 13 [[.v 0, .v 1, .v 2, .v 3, .v 4, .v 5, .v 6, .v 7, .v 8, .v 9, .v 10, .v 11, .v 12, .v 13, .v 14]] 1, .cond 33 true]) (refs := [.l 1]) (by kernel_rfl) fun ρ hρ hd => ?_
      simp only [D_nil, D_add, D_sub, D_mul, D_and, D_or, D_xor, D_shl, D_shr, D_andNot, D_quo, D_rem, D_add_i64, D_sub_i64, D_mul_i64, D_add_u32, D_sub_u32, D_mul_u32, D_add_u8, D_sub_u8, D_mul_u8, D_eql, D_neq, D_lss, D_leq, D_gtr, D_geq, D_not, D_conv, D_eqs, D_call, D_cond, D_need, D_idx, D_sel, D_upd, D_shv, D_beq, D_len, D_byte, D_cut, D_cat, D_must, List.map_cons, List.map_nil, Ref.den] at hd
      obtain ⟨f31, f32, f33, -⟩ := hd
      have q0 : ρ 0 = a0 := hρ 0 (by decide)
      have q1 : ρ 1 = a1 := hρ 1 (by decide)
      have q2 : ρ 2 = a2 := hρ 2 (by decide)
      have q3 : ρ 3 = a3 := hρ 3 (by decide)
      have q4 : ρ 4 = a4 := hρ 4 (by decide)
      have q5 : ρ 5 = a5 := hρ 5 (by decide)
      have q6 : ρ 6 = a6 := hρ 6 (by decide)
      have q7 : ρ 7 = a7 := hρ 7 (by decide)
      have q8 : ρ 8 = a8 := hρ 8 (by decide)
      have q9 : ρ 9 = a9 := hρ 9 (by decide)
      have q10 : ρ 10 = a10 := hρ 10 (by decide)
      have q11 : ρ 11 = a11 := hρ 11 (by decide)
      have q12 : ρ 12 = a12 := hρ 12 (by decide)
      have q13 : ρ 13 = a13 := hρ 13 (by decide)
      have q14 : ρ 14 = a14 := hρ 14 (by decide)
      have q31 : ρ 31 = (b2i (true)) := by
          have t := f31 0 (by decide)
          exact t
      have q32 : ρ 32 = (b2i (!true)) := b2i_not f32 q31
      have q33 : ρ 33 = (b2i (longE [a0, a1, a2, a3, a4, a5, a6, a7, a8, a9, a10, a11, a12, a13, a14])) := by
          have t := f33 0 (by decide)
          simp only [q0, q1, q2, q3, q4, q5, q6, q7, q8, q9, q10, q11, q12, q13, q14] at t
          exact t
      refine ⟨?_, ?_⟩
      · simp only [G_nil, G_bin, G_cmp, G_not, G_conv, G_eqs, G_call, G_cond, G_need, G_idx, G_sel, G_upd, G_shv, G_beq, G_prim, G_byte, G_cut, G_cat, List.map_cons, List.map_nil, Ref.den]
        refine ⟨?_, ?_, ?_, ?_, trivial⟩
        · exact trivial
        · exact b2i_cond q32 (by simp only [Bool.not_true, decide_true, decide_false, Bool.and_true, Bool.true_and, Bool.and_false, Bool.false_and, Bool.or_true, Bool.true_or, Bool.or_false, Bool.false_or, Bool.not_true, Bool.not_false, if_true, if_false, Bool.false_eq_true])
        · exact trivial
        · exact b2i_cond q33 (by simp only [c1, decide_true, decide_false, Bool.and_true, Bool.true_and, Bool.and_false, Bool.false_and, Bool.or_true, Bool.true_or, Bool.or_false, Bool.false_or, Bool.not_true, Bool.not_false, if_true, if_false, Bool.false_eq_true])
      · rfl
namespace opBytes
theorem walk (W : World) (v0 : Value) (x0 : List Int) (h0 : ArgIs W ED v0 x0) (v1 : Value) (x1 : List Int) (h1 : ArgIs W ED v1 x1) (v2 : Value) (l2 : List UInt8) (s2 : Sl W 1 v2 l2.length (bvs l2)) : Calls Try.prog 4 #[v0, v1, v2] W fun e w' => e = .returned (.bool true) ∧ Below W.heap.size W w' := by
  have hm : l2.length ≤ maxLen := by
    obtain ⟨_, a, cap, _, h1, h2, _⟩ := s2
    omega
  exact okOpBytes.calls (fn := Try.f4) (body := (Try.f4).body.getD .skip) (by kernel_rfl) (by kernel_rfl) (by kernel_rfl) rfl (xs := [x0, x1, [codZ l2]]) rfl trivial (vs := [v0, v1, v2]) ⟨h0, h1, ⟨codZ l2, rfl, by rw [decZ_codZ]; exact s2, Str.cod hm⟩, trivial⟩
end opBytes
end Go.Proofs.Ytbhflfdlkiihgaa
