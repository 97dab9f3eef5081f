/- The statement OpKnown: the law's walk, by the reckoning, one statement apart. No condition. -/
import Derived.Test.YtbhflfdlkiihgaaOk10
import Derived.Test.YtbhflfdlkiihgaaSxA
namespace Go.Sx
theorem D_code {fns : Fns} {ρ : Nat → Int} {l : List Fact} {n : Nat} {q : List Ref} : Defs fns ρ (.prim n 4 q :: l) = (ρ n = codZ ((q.map (Ref.den ρ)).map fun x => UInt8.ofNat x.toNat) ∧ Defs fns ρ l) := rfl
end Go.Sx
namespace Go.Proofs.Ytbhflfdlkiihgaa
open Go.RowKit Go.Bx Go.Sx
set_option linter.unusedSimpArgs false
set_option linter.unusedVariables false
theorem dzB : decZ 6496610 = [97, 32, 98] := decZ_codZ [97, 32, 98]
theorem put_small {d n s0 s1 s2 s3 s4 s5 s6 s7 k c f v t : Int} (h : (decZ c).length ≤ 1 ∧ (decZ f).length ≤ 1 ∧ (decZ v).length ≤ 1) : (putE [d, n, s0, s1, s2, s3, s4, s5, s6, s7, k, c, f, v, t]).length ≤ 500 := by
  simp only [putE]
  split
  · rename_i hg
    obtain ⟨h1, h2, h3, h4, h5, h6, h7, h8, h9, h10⟩ := good_is hg
    have hk : 0 ≤ k ∧ k ≤ 2 := by omega
    have e := fun x : Int => fun (hx : x ≤ 1099511627776) => enc_len x.toNat (by omega)
    have e1 := e d (by omega)
    have e2 := e n (by omega)
    have e3 := e k (by omega)
    have e4 := e t (by omega)
    have e5 := enc_len (decZ c).length (by omega)
    have e6 := enc_len (decZ f).length (by omega)
    have e7 := enc_len (decZ v).length (by omega)
    have hs := fun i => (getD_le h5 i).2
    have u0 := e s0 (hs 0)
    have u1 := e s1 (hs 1)
    have u2 := e s2 (hs 2)
    have u3 := e s3 (hs 3)
    have u4 := e s4 (hs 4)
    have u5 := e s5 (hs 5)
    have u6 := e s6 (hs 6)
    have u7 := e s7 (hs 7)
    simp only [putL, lenE, List.flatMap_cons, List.flatMap_nil, List.length_append, List.length_nil]
    omega
  · simp
theorem get_more {d n s0 s1 s2 s3 s4 s5 s6 s7 k c f v t : Int} (ok bad : Int) {top : Int} (h : goodE [d, n, s0, s1, s2, s3, s4, s5, s6, s7, k, c, f, v, t] = true) (ht : 7 ≤ top) (ht2 : top ≤ 1099511627776) (hc : 0 ≤ c) (hf : 0 ≤ f) (hv : 0 ≤ v) {m : List UInt8} (hm : m.isEmpty = false) :
    getE top ok bad (putE [d, n, s0, s1, s2, s3, s4, s5, s6, s7, k, c, f, v, t] ++ m) = zeroE ++ [bad] := by
  have h1 := rd_put h ht ht2 hc hf hv
  have h2 := rd_more m (by rw [h1])
  rw [h1] at h2
  simp only [getE, h2, List.nil_append, hm, Bool.and_false, Bool.false_and, Bool.false_eq_true, if_false]
noncomputable def knBody : Code := (Try.f3).body.getD .skip
noncomputable def knCode : Code := (midAt 11 (Try.f3.body.getD .skip)).getD .skip
def cOpKnown : Ctr := ⟨3, 41, [], [.bool]⟩
theorem knFn : Try.prog.funcs[cOpKnown.f]? = some Try.f3 := by kernel_rfl
set_option maxRecDepth 100000 in
set_option maxHeartbeats 4000000 in
theorem okOpKnown : CtrOK Try.prog ofns cOpKnown := by
  refine CtrOK.ofR (R := runK Try.prog (callN Try.prog OT6 300 5) 300 (spC Try.prog (callN Try.prog OT6 300 5) cPut 1 1 knCode) 11) (fun fn c' hf hc' sl st e sl' fs st' h => ?_) rfl fun w vs xs ha hp => ?_
  · rw [knFn] at hf
    cases hf
    have hb : knBody = c' := by unfold knBody; rw [hc']; rfl
    subst hb
    refine runK_ok (callN_ok okOT6 mixed 300 5) mixed 300 11 knBody (fun c hc sl st sl' fs st' h => ?_) sl st e sl' fs st' h
    have e : knCode = c := by
      have hc : midAt 11 (Try.f3.body.getD .skip) = some c := hc
      unfold knCode; rw [hc]; rfl
    rw [e] at h
    exact spC_ok (callN_ok okOT6 mixed 300 5) ownPut h
  · obtain ⟨rfl, rfl⟩ := open0 ha
    have k0 : goodE [0, 1, 0, 0, 0, 0, 0, 0, 0, 0, 1, 100, 103, 0, 0] = true := by simp only [goodE, dz100, dz103, dzB, decZ_zero, decZ_codZ, List.length_replicate]; decide
    have k1 : goodE [2, 1, 1, 0, 0, 0, 0, 0, 0, 0, 2, 100, 0, 0, 0] = true := by simp only [goodE, dz100, dz103, dzB, decZ_zero, decZ_codZ, List.length_replicate]; decide
    have k2 : overE [2, 1, 1, 0, 0, 0, 0, 0, 0, 0, 2, 100, 0, 0, 0] [0, 1, 0, 0, 0, 0, 0, 0, 0, 0, 1, 100, 103, 0, 0] = true := by decide
    have k3 : overE [2, 1, 1, 0, 0, 0, 0, 0, 0, 0, 2, 100, 0, 0, 0] [2, 1, 1, 0, 0, 0, 0, 0, 0, 0, 2, 100, 0, 0, 0] = false := by decide
    have k4 : goodE [0, 1, 1, 0, 0, 0, 0, 0, 0, 0, 1, 100, 103, 0, 0] = false := by simp only [goodE, dz100, dz103, dzB, decZ_zero, decZ_codZ, List.length_replicate]; decide
    have k5 : goodE [0, 1, 0, 0, 0, 0, 0, 0, 0, 0, 1, 6496610, 103, 0, 0] = false := by simp only [goodE, dz100, dz103, dzB, decZ_zero, decZ_codZ, List.length_replicate]; decide
    have k6 : goodE [0, 1, 0, 0, 0, 0, 0, 0, 0, 0, 2, 100, 103, 0, 0] = false := by simp only [goodE, dz100, dz103, dzB, decZ_zero, decZ_codZ, List.length_replicate]; decide
    have k7 : goodE [0, 1, 0, 0, 0, 0, 0, 0, 0, 0, 1, 100, 103, (codZ (List.replicate 201 0)), 0] = false := by simp only [goodE, dz100, dz103, dzB, decZ_zero, decZ_codZ, List.length_replicate]; decide
    have k8 : goodE [0, 0, 0, 0, 0, 0, 0, 0, 0, 0, 1, 100, 103, 0, 0] = false := by simp only [goodE, dz100, dz103, dzB, decZ_zero, decZ_codZ, List.length_replicate]; decide
    have k9 : decide (((decZ (codZ (putE [0, 1, 1, 0, 0, 0, 0, 0, 0, 0, 1, 100, 103, 0, 0]))).length : Int) = 0) = true := by rw [decZ_codZ]; simp only [putE, k4, Bool.false_eq_true, if_false]; rfl
    have hpl : (putE [0, 1, 0, 0, 0, 0, 0, 0, 0, 0, 1, 100, 103, 0, 0]).length ≤ 500 := put_small (by simp only [dz100, dz103, decZ_zero]; decide)
    have hG0 : ofns.g 15 [[0]] = [0, 0, 0, 0, 0, 0, 0, 0, 0, 0, 0, 0, 0, 0, 0, 3] := by rw [g15, decZ_zero]; kernel_rfl
    have hGc : ofns.g 15 [[(codZ (decZ (codZ (putE [0, 1, 0, 0, 0, 0, 0, 0, 0, 0, 1, 100, 103, 0, 0])) ++ decZ (codZ [0])))]] = [0, 0, 0, 0, 0, 0, 0, 0, 0, 0, 0, 0, 0, 0, 0, 3] := by
      rw [g15, decZ_codZ, decZ_codZ, decZ_codZ]
      exact get_more 0 3 k0 (by decide) (by decide) (by decide) (by decide) (by decide) rfl
    refine Go.Sx.WayR.of (dec := [false, true, true, true, true, true, true, true, true, true, true, true]) (fs := [.need 40 [], .call 0 40 [] 1, .not 1 (.v 0), .cond 1 false, .prim 2 4 [.l 0, .l 0, .l 0, .l 0, .l 0, .l 0, .l 0, .l 0, .l 0, .l 0, .l 0, .l 0, .l 0, .l 0, .l 0, .l 0, .l 0, .l 0, .l 0, .l 0, .l 0, .l 0, .l 0, .l 0, .l 0, .l 0, .l 0, .l 0, .l 0, .l 0, .l 0, .l 0, .l 0, .l 0, .l 0, .l 0, .l 0, .l 0, .l 0, .l 0, .l 0, .l 0, .l 0, .l 0, .l 0, .l 0, .l 0, .l 0, .l 0, .l 0, .l 0, .l 0, .l 0, .l 0, .l 0, .l 0, .l 0, .l 0, .l 0, .l 0, .l 0, .l 0, .l 0, .l 0, .l 0, .l 0, .l 0, .l 0, .l 0, .l 0, .l 0, .l 0, .l 0, .l 0, .l 0, .l 0, .l 0, .l 0, .l 0, .l 0, .l 0, .l 0, .l 0, .l 0, .l 0, .l 0, .l 0, .l 0, .l 0, .l 0, .l 0, .l 0, .l 0, .l 0, .l 0, .l 0, .l 0, .l 0, .l 0, .l 0, .l 0, .l 0, .l 0, .l 0, .l 0, .l 0, .l 0, .l 0, .l 0, .l 0, .l 0, .l 0, .l 0, .l 0, .l 0, .l 0, .l 0, .l 0, .l 0, .l 0, .l 0, .l 0, .l 0, .l 0, .l 0, .l 0, .l 0, .l 0, .l 0, .l 0, .l 0, .l 0, .l 0, .l 0, .l 0, .l 0, .l 0, .l 0, .l 0, .l 0, .l 0, .l 0, .l 0, .l 0, .l 0, .l 0, .l 0, .l 0, .l 0, .l 0, .l 0, .l 0, .l 0, .l 0, .l 0, .l 0, .l 0, .l 0, .l 0, .l 0, .l 0, .l 0, .l 0, .l 0, .l 0, .l 0, .l 0, .l 0, .l 0, .l 0, .l 0, .l 0, .l 0, .l 0, .l 0, .l 0, .l 0, .l 0, .l 0, .l 0, .l 0, .l 0, .l 0, .l 0, .l 0, .l 0, .l 0, .l 0, .l 0, .l 0, .l 0, .l 0, .l 0, .l 0, .l 0, .l 0, .l 0, .l 0, .l 0, .l 0, .l 0], .need 15 [[.l 0]], .call 3 15 [[.l 0]] 16, .need 14 [[.l 0, .l 1, .l 0, .l 0, .l 0, .l 0, .l 0, .l 0, .l 0, .l 0, .l 1, .l 100, .l 103, .l 0, .l 0]], .call 19 14 [[.l 0, .l 1, .l 0, .l 0, .l 0, .l 0, .l 0, .l 0, .l 0, .l 0, .l 1, .l 100, .l 103, .l 0, .l 0]] 1, .prim 20 4 [.l 0], .must 2 [.v 19, .v 20], .prim 21 3 [.v 19, .v 20], .need 15 [[.v 21]], .call 22 15 [[.v 21]] 16, .need 10 [[.l 0, .l 1, .l 0, .l 0, .l 0, .l 0, .l 0, .l 0, .l 0, .l 0, .l 1, .l 100, .l 103, .l 0, .l 0]], .call 38 10 [[.l 0, .l 1, .l 0, .l 0, .l 0, .l 0, .l 0, .l 0, .l 0, .l 0, .l 1, .l 100, .l 103, .l 0, .l 0]] 1, .cond 38 true, .need 10 [[.l 2, .l 1, .l 1, .l 0, .l 0, .l 0, .l 0, .l 0, .l 0, .l 0, .l 2, .l 100, .l 0, .l 0, .l 0]], .call 39 10 [[.l 2, .l 1, .l 1, .l 0, .l 0, .l 0, .l 0, .l 0, .l 0, .l 0, .l 2, .l 100, .l 0, .l 0, .l 0]] 1, .cond 39 true, .need 11 [[.l 2, .l 1, .l 1, .l 0, .l 0, .l 0, .l 0, .l 0, .l 0, .l 0, .l 2, .l 100, .l 0, .l 0, .l 0], [.l 0, .l 1, .l 0, .l 0, .l 0, .l 0, .l 0, .l 0, .l 0, .l 0, .l 1, .l 100, .l 103, .l 0, .l 0]], .call 40 11 [[.l 2, .l 1, .l 1, .l 0, .l 0, .l 0, .l 0, .l 0, .l 0, .l 0, .l 2, .l 100, .l 0, .l 0, .l 0], [.l 0, .l 1, .l 0, .l 0, .l 0, .l 0, .l 0, .l 0, .l 0, .l 0, .l 1, .l 100, .l 103, .l 0, .l 0]] 1, .cond 40 true, .need 11 [[.l 2, .l 1, .l 1, .l 0, .l 0, .l 0, .l 0, .l 0, .l 0, .l 0, .l 2, .l 100, .l 0, .l 0, .l 0], [.l 2, .l 1, .l 1, .l 0, .l 0, .l 0, .l 0, .l 0, .l 0, .l 0, .l 2, .l 100, .l 0, .l 0, .l 0]], .call 41 11 [[.l 2, .l 1, .l 1, .l 0, .l 0, .l 0, .l 0, .l 0, .l 0, .l 0, .l 2, .l 100, .l 0, .l 0, .l 0], [.l 2, .l 1, .l 1, .l 0, .l 0, .l 0, .l 0, .l 0, .l 0, .l 0, .l 2, .l 100, .l 0, .l 0, .l 0]] 1, .not 42 (.v 41), .cond 42 true, .need 10 [[.l 0, .l 1, .l 1, .l 0, .l 0, .l 0, .l 0, .l 0, .l 0, .l 0, .l 1, .l 100, .l 103, .l 0, .l 0]], .call 43 10 [[.l 0, .l 1, .l 1, .l 0, .l 0, .l 0, .l 0, .l 0, .l 0, .l 0, .l 1, .l 100, .l 103, .l 0, .l 0]] 1, .not 44 (.v 43), .cond 44 true, .need 10 [[.l 0, .l 1, .l 0, .l 0, .l 0, .l 0, .l 0, .l 0, .l 0, .l 0, .l 1, .l 6496610, .l 103, .l 0, .l 0]], .call 45 10 [[.l 0, .l 1, .l 0, .l 0, .l 0, .l 0, .l 0, .l 0, .l 0, .l 0, .l 1, .l 6496610, .l 103, .l 0, .l 0]] 1, .not 46 (.v 45), .cond 46 true, .need 10 [[.l 0, .l 1, .l 0, .l 0, .l 0, .l 0, .l 0, .l 0, .l 0, .l 0, .l 2, .l 100, .l 103, .l 0, .l 0]], .call 47 10 [[.l 0, .l 1, .l 0, .l 0, .l 0, .l 0, .l 0, .l 0, .l 0, .l 0, .l 2, .l 100, .l 103, .l 0, .l 0]] 1, .not 48 (.v 47), .cond 48 true, .need 10 [[.l 0, .l 1, .l 0, .l 0, .l 0, .l 0, .l 0, .l 0, .l 0, .l 0, .l 1, .l 100, .l 103, .v 2, .l 0]], .call 49 10 [[.l 0, .l 1, .l 0, .l 0, .l 0, .l 0, .l 0, .l 0, .l 0, .l 0, .l 1, .l 100, .l 103, .v 2, .l 0]] 1, .not 50 (.v 49), .cond 50 true, .need 10 [[.l 0, .l 0, .l 0, .l 0, .l 0, .l 0, .l 0, .l 0, .l 0, .l 0, .l 1, .l 100, .l 103, .l 0, .l 0]], .call 51 10 [[.l 0, .l 0, .l 0, .l 0, .l 0, .l 0, .l 0, .l 0, .l 0, .l 0, .l 1, .l 100, .l 103, .l 0, .l 0]] 1, .not 52 (.v 51), .cond 52 true, .need 14 [[.l 0, .l 1, .l 1, .l 0, .l 0, .l 0, .l 0, .l 0, .l 0, .l 0, .l 1, .l 100, .l 103, .l 0, .l 0]], .call 53 14 [[.l 0, .l 1, .l 1, .l 0, .l 0, .l 0, .l 0, .l 0, .l 0, .l 0, .l 1, .l 100, .l 103, .l 0, .l 0]] 1, .prim 54 0 [.v 53], .cmp 55 .eql (.v 54) (.l 0), .cond 55 true, .cmp 56 .eql (.v 18) (.l 3), .cond 56 true, .cmp 57 .eql (.v 37) (.l 3)]) (refs := [.v 57]) (by kernel_rfl) fun ρ hρ hd => ?_
    simp only [D_nil, D_add, D_sub, D_mul, D_and, D_or, D_xor, D_shl, D_shr, D_andNot, D_quo, D_rem, D_add_i64, D_sub_i64, D_mul_i64, D_add_u32, D_sub_u32, D_mul_u32, D_add_u8, D_sub_u8, D_mul_u8, D_eql, D_neq, D_lss, D_leq, D_gtr, D_geq, D_not, D_conv, D_eqs, D_call, D_cond, D_need, D_idx, D_sel, D_upd, D_shv, D_beq, D_len, D_byte, D_cut, D_cat, D_must, List.map_cons, List.map_nil, Ref.den, D_code] at hd
    obtain ⟨f0, f1, f2, f3, f19, f20, f21, f22, f38, f39, f40, f41, f42, f43, f44, f45, f46, f47, f48, f49, f50, f51, f52, f53, f54, f55, f56, f57, -⟩ := hd
    have q0 : ρ 0 = (b2i (true)) := by
        have t := f0 0 (by decide)
        exact t
    have q1 : ρ 1 = (b2i (!true)) := b2i_not f1 q0
    have q2 : ρ 2 = (codZ (List.replicate 201 0)) := by rw [f2]; kernel_rfl
    have q3 : ρ 3 = 0 := by
        have t := f3 0 (by decide)
        simp only [hG0] at t
        exact t
    have q4 : ρ 4 = 0 := by
        have t := f3 1 (by decide)
        simp only [hG0] at t
        exact t
    have q5 : ρ 5 = 0 := by
        have t := f3 2 (by decide)
        simp only [hG0] at t
        exact t
    have q6 : ρ 6 = 0 := by
        have t := f3 3 (by decide)
        simp only [hG0] at t
        exact t
    have q7 : ρ 7 = 0 := by
        have t := f3 4 (by decide)
        simp only [hG0] at t
        exact t
    have q8 : ρ 8 = 0 := by
        have t := f3 5 (by decide)
        simp only [hG0] at t
        exact t
    have q9 : ρ 9 = 0 := by
        have t := f3 6 (by decide)
        simp only [hG0] at t
        exact t
    have q10 : ρ 10 = 0 := by
        have t := f3 7 (by decide)
        simp only [hG0] at t
        exact t
    have q11 : ρ 11 = 0 := by
        have t := f3 8 (by decide)
        simp only [hG0] at t
        exact t
    have q12 : ρ 12 = 0 := by
        have t := f3 9 (by decide)
        simp only [hG0] at t
        exact t
    have q13 : ρ 13 = 0 := by
        have t := f3 10 (by decide)
        simp only [hG0] at t
        exact t
    have q14 : ρ 14 = 0 := by
        have t := f3 11 (by decide)
        simp only [hG0] at t
        exact t
    have q15 : ρ 15 = 0 := by
        have t := f3 12 (by decide)
        simp only [hG0] at t
        exact t
    have q16 : ρ 16 = 0 := by
        have t := f3 13 (by decide)
        simp only [hG0] at t
        exact t
    have q17 : ρ 17 = 0 := by
        have t := f3 14 (by decide)
        simp only [hG0] at t
        exact t
    have q18 : ρ 18 = 3 := by
        have t := f3 15 (by decide)
        simp only [hG0] at t
        exact t
    have q19 : ρ 19 = (codZ (putE [0, 1, 0, 0, 0, 0, 0, 0, 0, 0, 1, 100, 103, 0, 0])) := by
        have t := f19 0 (by decide)
        exact t
    have q20 : ρ 20 = (codZ [0]) := by rw [f20]; kernel_rfl
    have q21 : ρ 21 = (codZ (decZ (codZ (putE [0, 1, 0, 0, 0, 0, 0, 0, 0, 0, 1, 100, 103, 0, 0])) ++ decZ (codZ [0]))) := by rw [f21, q19, q20]
    have q22 : ρ 22 = 0 := by
        have t := f22 0 (by decide)
        simp only [q21, hGc] at t
        exact t
    have q23 : ρ 23 = 0 := by
        have t := f22 1 (by decide)
        simp only [q21, hGc] at t
        exact t
    have q24 : ρ 24 = 0 := by
        have t := f22 2 (by decide)
        simp only [q21, hGc] at t
        exact t
    have q25 : ρ 25 = 0 := by
        have t := f22 3 (by decide)
        simp only [q21, hGc] at t
        exact t
    have q26 : ρ 26 = 0 := by
        have t := f22 4 (by decide)
        simp only [q21, hGc] at t
        exact t
    have q27 : ρ 27 = 0 := by
        have t := f22 5 (by decide)
        simp only [q21, hGc] at t
        exact t
    have q28 : ρ 28 = 0 := by
        have t := f22 6 (by decide)
        simp only [q21, hGc] at t
        exact t
    have q29 : ρ 29 = 0 := by
        have t := f22 7 (by decide)
        simp only [q21, hGc] at t
        exact t
    have q30 : ρ 30 = 0 := by
        have t := f22 8 (by decide)
        simp only [q21, hGc] at t
        exact t
    have q31 : ρ 31 = 0 := by
        have t := f22 9 (by decide)
        simp only [q21, hGc] at t
        exact t
    have q32 : ρ 32 = 0 := by
        have t := f22 10 (by decide)
        simp only [q21, hGc] at t
        exact t
    have q33 : ρ 33 = 0 := by
        have t := f22 11 (by decide)
        simp only [q21, hGc] at t
        exact t
    have q34 : ρ 34 = 0 := by
        have t := f22 12 (by decide)
        simp only [q21, hGc] at t
        exact t
    have q35 : ρ 35 = 0 := by
        have t := f22 13 (by decide)
        simp only [q21, hGc] at t
        exact t
    have q36 : ρ 36 = 0 := by
        have t := f22 14 (by decide)
        simp only [q21, hGc] at t
        exact t
    have q37 : ρ 37 = 3 := by
        have t := f22 15 (by decide)
        simp only [q21, hGc] at t
        exact t
    have q38 : ρ 38 = (b2i (goodE [0, 1, 0, 0, 0, 0, 0, 0, 0, 0, 1, 100, 103, 0, 0])) := by
        have t := f38 0 (by decide)
        exact t
    have q39 : ρ 39 = (b2i (goodE [2, 1, 1, 0, 0, 0, 0, 0, 0, 0, 2, 100, 0, 0, 0])) := by
        have t := f39 0 (by decide)
        exact t
    have q40 : ρ 40 = (b2i (overE [2, 1, 1, 0, 0, 0, 0, 0, 0, 0, 2, 100, 0, 0, 0] [0, 1, 0, 0, 0, 0, 0, 0, 0, 0, 1, 100, 103, 0, 0])) := by
        have t := f40 0 (by decide)
        exact t
    have q41 : ρ 41 = (b2i (overE [2, 1, 1, 0, 0, 0, 0, 0, 0, 0, 2, 100, 0, 0, 0] [2, 1, 1, 0, 0, 0, 0, 0, 0, 0, 2, 100, 0, 0, 0])) := by
        have t := f41 0 (by decide)
        exact t
    have q42 : ρ 42 = (b2i (!(overE [2, 1, 1, 0, 0, 0, 0, 0, 0, 0, 2, 100, 0, 0, 0] [2, 1, 1, 0, 0, 0, 0, 0, 0, 0, 2, 100, 0, 0, 0]))) := b2i_not f42 q41
    have q43 : ρ 43 = (b2i (goodE [0, 1, 1, 0, 0, 0, 0, 0, 0, 0, 1, 100, 103, 0, 0])) := by
        have t := f43 0 (by decide)
        exact t
    have q44 : ρ 44 = (b2i (!(goodE [0, 1, 1, 0, 0, 0, 0, 0, 0, 0, 1, 100, 103, 0, 0]))) := b2i_not f44 q43
    have q45 : ρ 45 = (b2i (goodE [0, 1, 0, 0, 0, 0, 0, 0, 0, 0, 1, 6496610, 103, 0, 0])) := by
        have t := f45 0 (by decide)
        exact t
    have q46 : ρ 46 = (b2i (!(goodE [0, 1, 0, 0, 0, 0, 0, 0, 0, 0, 1, 6496610, 103, 0, 0]))) := b2i_not f46 q45
    have q47 : ρ 47 = (b2i (goodE [0, 1, 0, 0, 0, 0, 0, 0, 0, 0, 2, 100, 103, 0, 0])) := by
        have t := f47 0 (by decide)
        exact t
    have q48 : ρ 48 = (b2i (!(goodE [0, 1, 0, 0, 0, 0, 0, 0, 0, 0, 2, 100, 103, 0, 0]))) := b2i_not f48 q47
    have q49 : ρ 49 = (b2i (goodE [0, 1, 0, 0, 0, 0, 0, 0, 0, 0, 1, 100, 103, (codZ (List.replicate 201 0)), 0])) := by
        have t := f49 0 (by decide)
        simp only [q2] at t
        exact t
    have q50 : ρ 50 = (b2i (!(goodE [0, 1, 0, 0, 0, 0, 0, 0, 0, 0, 1, 100, 103, (codZ (List.replicate 201 0)), 0]))) := b2i_not f50 q49
    have q51 : ρ 51 = (b2i (goodE [0, 0, 0, 0, 0, 0, 0, 0, 0, 0, 1, 100, 103, 0, 0])) := by
        have t := f51 0 (by decide)
        exact t
    have q52 : ρ 52 = (b2i (!(goodE [0, 0, 0, 0, 0, 0, 0, 0, 0, 0, 1, 100, 103, 0, 0]))) := b2i_not f52 q51
    have q53 : ρ 53 = (codZ (putE [0, 1, 1, 0, 0, 0, 0, 0, 0, 0, 1, 100, 103, 0, 0])) := by
        have t := f53 0 (by decide)
        exact t
    have q54 : ρ 54 = ((decZ (codZ (putE [0, 1, 1, 0, 0, 0, 0, 0, 0, 0, 1, 100, 103, 0, 0]))).length : Int) := by rw [f54, q53]
    have q55 : ρ 55 = (b2i (decide (((decZ (codZ (putE [0, 1, 1, 0, 0, 0, 0, 0, 0, 0, 1, 100, 103, 0, 0]))).length : Int) = 0))) := b2i_dec f55 (by simp only [q54])
    have q56 : ρ 56 = (b2i (decide ((3 : Int) = 3))) := b2i_dec f56 (by simp only [q18])
    have q57 : ρ 57 = (b2i (decide ((3 : Int) = 3))) := b2i_dec f57 (by simp only [q37])
    refine ⟨?_, ?_⟩
    · simp only [G_nil, G_bin, G_cmp, G_not, G_conv, G_eqs, G_call, G_cond, G_need, G_idx, G_sel, G_upd, G_shv, G_beq, G_prim, G_byte, G_cut, G_cat, List.map_cons, List.map_nil, Ref.den]
      refine ⟨?_, ?_, ?_, ?_, ?_, ?_, ?_, ?_, ?_, ?_, ?_, ?_, ?_, ?_, ?_, ?_, ?_, ?_, ?_, ?_, ?_, ?_, ?_, ?_, ?_, ?_, ?_, trivial⟩
      · exact trivial
      · exact b2i_cond q1 (by simp only [Bool.not_true, decide_true, decide_false, Bool.and_true, Bool.true_and, Bool.and_false, Bool.false_and, Bool.or_true, Bool.true_or, Bool.or_false, Bool.false_or, Bool.not_true, Bool.not_false, if_true, if_false, Bool.false_eq_true])
      · exact by show (decZ 0).length ≤ 1000; rw [decZ_zero]; decide
      · exact by show (decZ (100)).length ≤ 1000 ∧ (decZ (103)).length ≤ 1000 ∧ (decZ (0)).length ≤ 1000; simp only [dz100, dz103, dzB, decZ_zero, decZ_codZ, List.length_replicate]; decide
      · exact by show (decZ (ρ 19)).length + (decZ (ρ 20)).length ≤ 1000000000; rw [q19, q20, decZ_codZ, decZ_codZ]; exact Nat.le_trans (Nat.add_le_add_right hpl _) (by decide)
      · exact by show (decZ (ρ 21)).length ≤ 1000; rw [q21, decZ_codZ, decZ_codZ, decZ_codZ, List.length_append]; exact Nat.le_trans (Nat.add_le_add_right hpl _) (by decide)
      · exact by show (decZ (100)).length ≤ 1000 ∧ (decZ (103)).length ≤ 1000 ∧ (decZ (0)).length ≤ 1000; simp only [dz100, dz103, dzB, decZ_zero, decZ_codZ, List.length_replicate]; decide
      · exact b2i_cond q38 (by simp only [k0, decide_true, decide_false, Bool.and_true, Bool.true_and, Bool.and_false, Bool.false_and, Bool.or_true, Bool.true_or, Bool.or_false, Bool.false_or, Bool.not_true, Bool.not_false, if_true, if_false, Bool.false_eq_true])
      · exact by show (decZ (100)).length ≤ 1000 ∧ (decZ (0)).length ≤ 1000 ∧ (decZ (0)).length ≤ 1000; simp only [dz100, dz103, dzB, decZ_zero, decZ_codZ, List.length_replicate]; decide
      · exact b2i_cond q39 (by simp only [k1, decide_true, decide_false, Bool.and_true, Bool.true_and, Bool.and_false, Bool.false_and, Bool.or_true, Bool.true_or, Bool.or_false, Bool.false_or, Bool.not_true, Bool.not_false, if_true, if_false, Bool.false_eq_true])
      · exact trivial
      · exact b2i_cond q40 (by simp only [k2, decide_true, decide_false, Bool.and_true, Bool.true_and, Bool.and_false, Bool.false_and, Bool.or_true, Bool.true_or, Bool.or_false, Bool.false_or, Bool.not_true, Bool.not_false, if_true, if_false, Bool.false_eq_true])
      · exact trivial
      · exact b2i_cond q42 (by simp only [k3, decide_true, decide_false, Bool.and_true, Bool.true_and, Bool.and_false, Bool.false_and, Bool.or_true, Bool.true_or, Bool.or_false, Bool.false_or, Bool.not_true, Bool.not_false, if_true, if_false, Bool.false_eq_true])
      · exact by show (decZ (100)).length ≤ 1000 ∧ (decZ (103)).length ≤ 1000 ∧ (decZ (0)).length ≤ 1000; simp only [dz100, dz103, dzB, decZ_zero, decZ_codZ, List.length_replicate]; decide
      · exact b2i_cond q44 (by simp only [k4, decide_true, decide_false, Bool.and_true, Bool.true_and, Bool.and_false, Bool.false_and, Bool.or_true, Bool.true_or, Bool.or_false, Bool.false_or, Bool.not_true, Bool.not_false, if_true, if_false, Bool.false_eq_true])
      · exact by show (decZ (6496610)).length ≤ 1000 ∧ (decZ (103)).length ≤ 1000 ∧ (decZ (0)).length ≤ 1000; simp only [dz100, dz103, dzB, decZ_zero, decZ_codZ, List.length_replicate]; decide
      · exact b2i_cond q46 (by simp only [k5, decide_true, decide_false, Bool.and_true, Bool.true_and, Bool.and_false, Bool.false_and, Bool.or_true, Bool.true_or, Bool.or_false, Bool.false_or, Bool.not_true, Bool.not_false, if_true, if_false, Bool.false_eq_true])
      · exact by show (decZ (100)).length ≤ 1000 ∧ (decZ (103)).length ≤ 1000 ∧ (decZ (0)).length ≤ 1000; simp only [dz100, dz103, dzB, decZ_zero, decZ_codZ, List.length_replicate]; decide
      · exact b2i_cond q48 (by simp only [k6, decide_true, decide_false, Bool.and_true, Bool.true_and, Bool.and_false, Bool.false_and, Bool.or_true, Bool.true_or, Bool.or_false, Bool.false_or, Bool.not_true, Bool.not_false, if_true, if_false, Bool.false_eq_true])
      · exact by show (decZ (100)).length ≤ 1000 ∧ (decZ (103)).length ≤ 1000 ∧ (decZ (ρ 2)).length ≤ 1000; rw [q2]; simp only [dz100, dz103, dzB, decZ_zero, decZ_codZ, List.length_replicate]; decide
      · exact b2i_cond q50 (by simp only [k7, decide_true, decide_false, Bool.and_true, Bool.true_and, Bool.and_false, Bool.false_and, Bool.or_true, Bool.true_or, Bool.or_false, Bool.false_or, Bool.not_true, Bool.not_false, if_true, if_false, Bool.false_eq_true])
      · exact by show (decZ (100)).length ≤ 1000 ∧ (decZ (103)).length ≤ 1000 ∧ (decZ (0)).length ≤ 1000; simp only [dz100, dz103, dzB, decZ_zero, decZ_codZ, List.length_replicate]; decide
      · exact b2i_cond q52 (by simp only [k8, decide_true, decide_false, Bool.and_true, Bool.true_and, Bool.and_false, Bool.false_and, Bool.or_true, Bool.true_or, Bool.or_false, Bool.false_or, Bool.not_true, Bool.not_false, if_true, if_false, Bool.false_eq_true])
      · exact by show (decZ (100)).length ≤ 1000 ∧ (decZ (103)).length ≤ 1000 ∧ (decZ (0)).length ≤ 1000; simp only [dz100, dz103, dzB, decZ_zero, decZ_codZ, List.length_replicate]; decide
      · exact b2i_cond q55 (by simp only [k9, decide_true, decide_false, Bool.and_true, Bool.true_and, Bool.and_false, Bool.false_and, Bool.or_true, Bool.true_or, Bool.or_false, Bool.false_or, Bool.not_true, Bool.not_false, if_true, if_false, Bool.false_eq_true])
      · exact b2i_cond q56 (by simp)
    · show [ρ 57] = [1]
      rw [q57]
      exact congrArg (fun b => [b2i b]) (show (decide ((3 : Int) = 3)) = true by simp)
namespace opKnown
theorem walk (W : World) : Calls Try.prog 3 #[] W fun e w' => e = .returned (.bool true) ∧ Below W.heap.size W w' :=
  okOpKnown.calls (fn := Try.f3) (body := (Try.f3).body.getD .skip) (by kernel_rfl) (by kernel_rfl) (by kernel_rfl) rfl (xs := []) rfl trivial (vs := []) trivial
end opKnown
end Go.Proofs.Ytbhflfdlkiihgaa
