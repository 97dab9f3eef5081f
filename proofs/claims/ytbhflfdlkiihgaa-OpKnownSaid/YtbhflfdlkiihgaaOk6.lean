/- The edits' own awake: the document's tale of one that has seen another. No condition. -/
import Derived.Test.YtbhflfdlkiihgaaOk5
namespace Go.Proofs.Ytbhflfdlkiihgaa
open Go.RowKit Go.Bx Go.Sx
set_option linter.unusedSimpArgs false
set_option linter.unusedVariables false
theorem dz100 : decZ 100 = [99] := decZ_codZ [99]
theorem dz103 : decZ 103 = [102] := decZ_codZ [102]
theorem dz119 : decZ 119 = [118] := decZ_codZ [118]
/-- An edit's bytes are few. -/
theorem put_len {d n s0 s1 s2 s3 s4 s5 s6 s7 k c f v t : Int} (h : (decZ c).length ≤ 60 ∧ (decZ f).length ≤ 60 ∧ (decZ v).length ≤ 250) : (putE [d, n, s0, s1, s2, s3, s4, s5, s6, s7, k, c, f, v, t]).length ≤ 1000 := by
  simp only [putE]
  split
  · rename_i hg
    obtain ⟨h1, h2, h3, h4, h5, h6, h7, h8, h9, h10⟩ := good_is hg
    have hk : 0 ≤ k ∧ k ≤ 2 := by omega
    have e := fun x : Int => fun (hx : x ≤ 1099511627776) => enc_len x.toNat (by omega)
    have e1 := e d (by omega)
    have e2 := e n (by omega)
    have e3 := e k (by omega)
    have e4 := e t (by omega)
    have e5 := enc_len (decZ c).length (by omega)
    have e6 := enc_len (decZ f).length (by omega)
    have e7 := enc_len (decZ v).length (by omega)
    have hs := fun i => (getD_le h5 i).2
    have u0 := e s0 (hs 0)
    have u1 := e s1 (hs 1)
    have u2 := e s2 (hs 2)
    have u3 := e s3 (hs 3)
    have u4 := e s4 (hs 4)
    have u5 := e s5 (hs 5)
    have u6 := e s6 (hs 6)
    have u7 := e s7 (hs 7)
    simp only [putL, lenE, List.flatMap_cons, List.flatMap_nil, List.length_append, List.length_nil]
    omega
  · simp
theorem long_not {d n s0 s1 s2 s3 s4 s5 s6 s7 k c f v t : Int} (h : longE [d, n, s0, s1, s2, s3, s4, s5, s6, s7, k, c, f, v, t] = false) : (decZ c).length ≤ 60 ∧ (decZ f).length ≤ 60 ∧ (decZ v).length ≤ 250 := by
  simp only [longE, Bool.or_eq_false_iff, decide_eq_false_iff_not] at h
  omega
def OT5 : List Ctr := cOver :: cLess :: cGood :: cLong :: cPut :: cGet :: cHas :: []
theorem okOT5 : ∀ c ∈ OT5, CtrOK Try.prog ofns c := by
  intro c hc
  simp only [OT5, List.mem_cons, List.not_mem_nil, or_false] at hc
  rcases hc with rfl | rfl | rfl | rfl | rfl | rfl | rfl
  · exact okOver
  · exact okLess
  · exact okGood
  · exact okLong
  · exact okPut
  · exact okGet
  · exact okHas
def cAwake : Ctr := ⟨8, 40, [], [.bool]⟩
theorem okAwake : CtrOK Try.prog ofns cAwake := by
  refine CtrOK.of okOT5 mixed (lf := 300) (d := 5) rfl fun w vs xs ha hp => ?_
  obtain ⟨rfl, rfl⟩ := open0 ha
  have k0 : goodE [0, 1, 0, 0, 0, 0, 0, 0, 0, 0, 1, 100, 103, 119, 0] = true := by simp only [goodE, dz100, dz103, dz119]; decide
  have k1 : overE [1, 1, 1, 0, 0, 0, 0, 0, 0, 0, 1, 100, 103, 0, 0] [0, 1, 0, 0, 0, 0, 0, 0, 0, 0, 1, 100, 103, 119, 0] = true := by decide
  have k2 : overE [0, 1, 0, 0, 0, 0, 0, 0, 0, 0, 1, 100, 103, 119, 0] [1, 1, 1, 0, 0, 0, 0, 0, 0, 0, 1, 100, 103, 0, 0] = false := by decide
  have k3 : lessE [0, 1, 0, 0, 0, 0, 0, 0, 0, 0, 1, 100, 103, 119, 0] [1, 1, 1, 0, 0, 0, 0, 0, 0, 0, 1, 100, 103, 0, 0] = true := by decide
  have k4 : decide (([0, 1, 0, 0, 0, 0, 0, 0, 0, 0, 1, 100, 103, 119, 0] : List Int) = [0, 1, 0, 0, 0, 0, 0, 0, 0, 0, 1, 100, 103, 119, 0]) = true := decide_eq_true rfl
  have k5 : decide ((0 : Int) = 0) = true := rfl
  have hG : ofns.g 15 [[codZ (putE [0, 1, 0, 0, 0, 0, 0, 0, 0, 0, 1, 100, 103, 119, 0])]] = [0, 1, 0, 0, 0, 0, 0, 0, 0, 0, 1, 100, 103, 119, 0, 0] := by rw [g15, decZ_codZ]; exact get_put 0 3 k0 (by decide) (by decide) (by decide) (by decide) (by decide)
  have hpl : (putE [0, 1, 0, 0, 0, 0, 0, 0, 0, 0, 1, 100, 103, 119, 0]).length ≤ 1000 := put_len (by simp only [dz100, dz103, dz119]; decide)
  refine Go.Sx.Way.of (dec := [true, true, true, true, true]) (fs := [.need 14 [[.l 0, .l 1, .l 0, .l 0, .l 0, .l 0, .l 0, .l 0, .l 0, .l 0, .l 1, .l 100, .l 103, .l 119, .l 0]], .call 0 14 [[.l 0, .l 1, .l 0, .l 0, .l 0, .l 0, .l 0, .l 0, .l 0, .l 0, .l 1, .l 100, .l 103, .l 119, .l 0]] 1, .need 15 [[.v 0]], .call 1 15 [[.v 0]] 16, .need 11 [[.l 1, .l 1, .l 1, .l 0, .l 0, .l 0, .l 0, .l 0, .l 0, .l 0, .l 1, .l 100, .l 103, .l 0, .l 0], [.l 0, .l 1, .l 0, .l 0, .l 0, .l 0, .l 0, .l 0, .l 0, .l 0, .l 1, .l 100, .l 103, .l 119, .l 0]], .call 17 11 [[.l 1, .l 1, .l 1, .l 0, .l 0, .l 0, .l 0, .l 0, .l 0, .l 0, .l 1, .l 100, .l 103, .l 0, .l 0], [.l 0, .l 1, .l 0, .l 0, .l 0, .l 0, .l 0, .l 0, .l 0, .l 0, .l 1, .l 100, .l 103, .l 119, .l 0]] 1, .cond 17 true, .need 11 [[.l 0, .l 1, .l 0, .l 0, .l 0, .l 0, .l 0, .l 0, .l 0, .l 0, .l 1, .l 100, .l 103, .l 119, .l 0], [.l 1, .l 1, .l 1, .l 0, .l 0, .l 0, .l 0, .l 0, .l 0, .l 0, .l 1, .l 100, .l 103, .l 0, .l 0]], .call 18 11 [[.l 0, .l 1, .l 0, .l 0, .l 0, .l 0, .l 0, .l 0, .l 0, .l 0, .l 1, .l 100, .l 103, .l 119, .l 0], [.l 1, .l 1, .l 1, .l 0, .l 0, .l 0, .l 0, .l 0, .l 0, .l 0, .l 1, .l 100, .l 103, .l 0, .l 0]] 1, .not 19 (.v 18), .cond 19 true, .need 10 [[.l 0, .l 1, .l 0, .l 0, .l 0, .l 0, .l 0, .l 0, .l 0, .l 0, .l 1, .l 100, .l 103, .l 119, .l 0]], .call 20 10 [[.l 0, .l 1, .l 0, .l 0, .l 0, .l 0, .l 0, .l 0, .l 0, .l 0, .l 1, .l 100, .l 103, .l 119, .l 0]] 1, .cond 20 true, .cmp 21 .eql (.v 16) (.l 0), .cond 21 true, .eqs 22 [(.v 1, .l 0), (.v 2, .l 1), (.v 3, .l 0), (.v 4, .l 0), (.v 5, .l 0), (.v 6, .l 0), (.v 7, .l 0), (.v 8, .l 0), (.v 9, .l 0), (.v 10, .l 0), (.v 11, .l 1), (.v 12, .l 100), (.v 13, .l 103), (.v 14, .l 119), (.v 15, .l 0)], .cond 22 true, .need 12 [[.l 0, .l 1, .l 0, .l 0, .l 0, .l 0, .l 0, .l 0, .l 0, .l 0, .l 1, .l 100, .l 103, .l 119, .l 0], [.l 1, .l 1, .l 1, .l 0, .l 0, .l 0, .l 0, .l 0, .l 0, .l 0, .l 1, .l 100, .l 103, .l 0, .l 0]], .call 23 12 [[.l 0, .l 1, .l 0, .l 0, .l 0, .l 0, .l 0, .l 0, .l 0, .l 0, .l 1, .l 100, .l 103, .l 119, .l 0], [.l 1, .l 1, .l 1, .l 0, .l 0, .l 0, .l 0, .l 0, .l 0, .l 0, .l 1, .l 100, .l 103, .l 0, .l 0]] 1]) (refs := [.v 23]) (by kernel_rfl) fun ρ hρ hd => ?_
  simp only [D_nil, D_add, D_sub, D_mul, D_and, D_or, D_xor, D_shl, D_shr, D_andNot, D_quo, D_rem, D_add_i64, D_sub_i64, D_mul_i64, D_add_u32, D_sub_u32, D_mul_u32, D_add_u8, D_sub_u8, D_mul_u8, D_eql, D_neq, D_lss, D_leq, D_gtr, D_geq, D_not, D_conv, D_eqs, D_call, D_cond, D_need, D_idx, D_sel, D_upd, D_shv, D_beq, D_len, D_byte, D_cut, D_cat, D_must, List.map_cons, List.map_nil, Ref.den] at hd
  obtain ⟨f0, f1, f17, f18, f19, f20, f21, f22, f23, -⟩ := hd
  have q0 : ρ 0 = (codZ (putE [0, 1, 0, 0, 0, 0, 0, 0, 0, 0, 1, 100, 103, 119, 0])) := by
      have t := f0 0 (by decide)
      exact t
  have q1 : ρ 1 = 0 := by
      have t := f1 0 (by decide)
      simp only [q0, hG] at t
      exact t
  have q2 : ρ 2 = 1 := by
      have t := f1 1 (by decide)
      simp only [q0, hG] at t
      exact t
  have q3 : ρ 3 = 0 := by
      have t := f1 2 (by decide)
      simp only [q0, hG] at t
      exact t
  have q4 : ρ 4 = 0 := by
      have t := f1 3 (by decide)
      simp only [q0, hG] at t
      exact t
  have q5 : ρ 5 = 0 := by
      have t := f1 4 (by decide)
      simp only [q0, hG] at t
      exact t
  have q6 : ρ 6 = 0 := by
      have t := f1 5 (by decide)
      simp only [q0, hG] at t
      exact t
  have q7 : ρ 7 = 0 := by
      have t := f1 6 (by decide)
      simp only [q0, hG] at t
      exact t
  have q8 : ρ 8 = 0 := by
      have t := f1 7 (by decide)
      simp only [q0, hG] at t
      exact t
  have q9 : ρ 9 = 0 := by
      have t := f1 8 (by decide)
      simp only [q0, hG] at t
      exact t
  have q10 : ρ 10 = 0 := by
      have t := f1 9 (by decide)
      simp only [q0, hG] at t
      exact t
  have q11 : ρ 11 = 1 := by
      have t := f1 10 (by decide)
      simp only [q0, hG] at t
      exact t
  have q12 : ρ 12 = 100 := by
      have t := f1 11 (by decide)
      simp only [q0, hG] at t
      exact t
  have q13 : ρ 13 = 103 := by
      have t := f1 12 (by decide)
      simp only [q0, hG] at t
      exact t
  have q14 : ρ 14 = 119 := by
      have t := f1 13 (by decide)
      simp only [q0, hG] at t
      exact t
  have q15 : ρ 15 = 0 := by
      have t := f1 14 (by decide)
      simp only [q0, hG] at t
      exact t
  have q16 : ρ 16 = 0 := by
      have t := f1 15 (by decide)
      simp only [q0, hG] at t
      exact t
  have q17 : ρ 17 = (b2i (overE [1, 1, 1, 0, 0, 0, 0, 0, 0, 0, 1, 100, 103, 0, 0] [0, 1, 0, 0, 0, 0, 0, 0, 0, 0, 1, 100, 103, 119, 0])) := by
      have t := f17 0 (by decide)
      exact t
  have q18 : ρ 18 = (b2i (overE [0, 1, 0, 0, 0, 0, 0, 0, 0, 0, 1, 100, 103, 119, 0] [1, 1, 1, 0, 0, 0, 0, 0, 0, 0, 1, 100, 103, 0, 0])) := by
      have t := f18 0 (by decide)
      exact t
  have q19 : ρ 19 = (b2i (!(overE [0, 1, 0, 0, 0, 0, 0, 0, 0, 0, 1, 100, 103, 119, 0] [1, 1, 1, 0, 0, 0, 0, 0, 0, 0, 1, 100, 103, 0, 0]))) := b2i_not f19 q18
  have q20 : ρ 20 = (b2i (goodE [0, 1, 0, 0, 0, 0, 0, 0, 0, 0, 1, 100, 103, 119, 0])) := by
      have t := f20 0 (by decide)
      exact t
  have q21 : ρ 21 = (b2i (decide ((0 : Int) = 0))) := b2i_dec f21 (by simp only [q16])
  have q22 : ρ 22 = (b2i (decide (([0, 1, 0, 0, 0, 0, 0, 0, 0, 0, 1, 100, 103, 119, 0] : List Int) = [0, 1, 0, 0, 0, 0, 0, 0, 0, 0, 1, 100, 103, 119, 0]))) := b2i_eqs (l := [0, 1, 0, 0, 0, 0, 0, 0, 0, 0, 1, 100, 103, 119, 0]) (m := [0, 1, 0, 0, 0, 0, 0, 0, 0, 0, 1, 100, 103, 119, 0]) f22 (by simp only [List.map_cons, List.map_nil, Ref.den, q1, q2, q3, q4, q5, q6, q7, q8, q9, q10, q11, q12, q13, q14, q15]) (by simp only [List.map_cons, List.map_nil, Ref.den, q1, q2, q3, q4, q5, q6, q7, q8, q9, q10, q11, q12, q13, q14, q15])
  have q23 : ρ 23 = (b2i (lessE [0, 1, 0, 0, 0, 0, 0, 0, 0, 0, 1, 100, 103, 119, 0] [1, 1, 1, 0, 0, 0, 0, 0, 0, 0, 1, 100, 103, 0, 0])) := by
      have t := f23 0 (by decide)
      exact t
  refine ⟨?_, ?_⟩
  · simp only [G_nil, G_bin, G_cmp, G_not, G_conv, G_eqs, G_call, G_cond, G_need, G_idx, G_sel, G_upd, G_shv, G_beq, G_prim, G_byte, G_cut, G_cat, List.map_cons, List.map_nil, Ref.den]
    refine ⟨?_, ?_, ?_, ?_, ?_, ?_, ?_, ?_, ?_, ?_, ?_, trivial⟩
    · exact by show (decZ 100).length ≤ 1000 ∧ (decZ 103).length ≤ 1000 ∧ (decZ 119).length ≤ 1000; simp only [dz100, dz103, dz119, decZ_zero]; decide
    · exact by show (decZ (ρ 0)).length ≤ 1000; rw [q0, decZ_codZ]; exact hpl
    · exact trivial
    · exact b2i_cond q17 (by simp only [k1, decide_true, decide_false, Bool.and_true, Bool.true_and, Bool.and_false, Bool.false_and, Bool.or_true, Bool.true_or, Bool.or_false, Bool.false_or, Bool.not_true, Bool.not_false, if_true, if_false, Bool.false_eq_true])
    · exact trivial
    · exact b2i_cond q19 (by simp only [k2, decide_true, decide_false, Bool.and_true, Bool.true_and, Bool.and_false, Bool.false_and, Bool.or_true, Bool.true_or, Bool.or_false, Bool.false_or, Bool.not_true, Bool.not_false, if_true, if_false, Bool.false_eq_true])
    · exact by show (decZ 100).length ≤ 1000 ∧ (decZ 103).length ≤ 1000 ∧ (decZ 119).length ≤ 1000; simp only [dz100, dz103, dz119, decZ_zero]; decide
    · exact b2i_cond q20 (by simp only [k0, decide_true, decide_false, Bool.and_true, Bool.true_and, Bool.and_false, Bool.false_and, Bool.or_true, Bool.true_or, Bool.or_false, Bool.false_or, Bool.not_true, Bool.not_false, if_true, if_false, Bool.false_eq_true])
    · exact b2i_cond q21 (by simp only [k5, decide_true, decide_false, Bool.and_true, Bool.true_and, Bool.and_false, Bool.false_and, Bool.or_true, Bool.true_or, Bool.or_false, Bool.false_or, Bool.not_true, Bool.not_false, if_true, if_false, Bool.false_eq_true])
    · exact b2i_cond q22 (by simp only [k4, decide_true, decide_false, Bool.and_true, Bool.true_and, Bool.and_false, Bool.false_and, Bool.or_true, Bool.true_or, Bool.or_false, Bool.false_or, Bool.not_true, Bool.not_false, if_true, if_false, Bool.false_eq_true])
    · exact trivial
  · show [ρ 23] = [1]
    rw [q23]
    exact congrArg (fun b => [b2i b]) (show (lessE [0, 1, 0, 0, 0, 0, 0, 0, 0, 0, 1, 100, 103, 119, 0] [1, 1, 1, 0, 0, 0, 0, 0, 0, 0, 1, 100, 103, 0, 0]) = true by simp only [k3] <;> rfl)
def OT6 : List Ctr := cAwake :: OT5
theorem okOT6 : ∀ c ∈ OT6, CtrOK Try.prog ofns c := by
  intro c hc
  rcases List.mem_cons.1 hc with rfl | hc
  · exact okAwake
  · exact okOT5 c hc
#print axioms okOT6
end Go.Proofs.Ytbhflfdlkiihgaa
