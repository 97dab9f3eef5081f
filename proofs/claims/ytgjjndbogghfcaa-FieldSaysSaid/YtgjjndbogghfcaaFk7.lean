/- Numbers modulo p: laws of the exported functions. No condition. -/
import Derived.Test.YtgjjndbogghfcaaFk6
import Derived.Test.YtgjjndbogghfcaaPlainP
import Derived.Test.YtgjjndbogghfcaaSxR
namespace Go.Bx
theorem dvq (z : Int) : dv 256 (dg 256 32 (z % PP)) = z % PP := by
  have h := Int.emod_nonneg z (b := PP) (by decide)
  have h' := Int.emod_lt_of_pos z PP_lt.1
  have hL := PP_lt
  exact dv_dg_of (by decide) h (by omega)
theorem addl (x y : Int) : (x % PP + y) % PP = (x + y) % PP := Int.emod_add_emod x PP y
theorem addr (x y : Int) : (x + y % PP) % PP = (x + y) % PP := Int.add_emod_emod x y PP
theorem subl (x y : Int) : (x % PP - y) % PP = (x - y) % PP := Int.emod_sub_emod x PP y
theorem subr (x y : Int) : (x - y % PP) % PP = (x - y) % PP := Int.sub_emod_emod x y PP
theorem modP_lt (x : Int) : x % PP < PP := Int.emod_lt_of_pos x PP_lt.1
theorem pow_modP (x : Int) (n : Nat) : (x % PP) ^ n % PP = x ^ n % PP := by
  induction n with
  | zero => rw [Int.pow_zero, Int.pow_zero]
  | succ n ih => rw [Int.pow_succ, Int.pow_succ, mul_congP ih (Int.emod_emod_of_dvd x (Int.dvd_refl PP))]
theorem two_gen {P : Int} {p e : Nat} (hP : P = (p : Int)) (he : e < 2 ^ 256) (h : pm p 256 2 e % p * 2 % p = 1) : (2 * 2 ^ e) % P = 1 := by
  rw [pm_ok p 256 2 e he, Nat.mod_mul_mod] at h
  have h5 : (2 * 2 ^ e) % P = ((2 ^ e * 2 % p : Nat) : Int) := by rw [hP, Int.mul_comm]; push_cast; rfl
  rw [h5, h]; rfl
theorem inv_two : (2 * (powZ 2 (PP - 2) 256 % PP)) % PP = 1 := by
  obtain ⟨e, he⟩ : ∃ e, e = (PP - 2).toNat := ⟨_, rfl⟩
  have h1 : e < 2 ^ 256 := by rw [he]; decide +kernel
  have h2 : pm PP.toNat 256 2 e % PP.toNat * 2 % PP.toNat = 1 := by rw [he]; decide +kernel
  rw [powZ_all 2 (by decide) (by decide), mulP', ← he]
  exact two_gen (by decide) h1 h2
end Go.Bx
namespace Go.Proofs.Ytgjjndbogghfcaa
open Go.RowKit Go.Bx Go.Sx
set_option linter.unusedSimpArgs false
def T6 : List Ctr := [cEAdd, cESub, cEMul, cEPow, cENorm, cEInv, cEGood, cEOf]
theorem okT6 : ∀ c ∈ T6, CtrOK Try.prog sfns c := by
  intro c hc
  simp only [T6, List.mem_cons, List.not_mem_nil, or_false] at hc
  rcases hc with rfl | rfl | rfl | rfl | rfl | rfl | rfl | rfl
  · exact okEAdd
  · exact okESub
  · exact okEMul
  · exact okEPow
  · exact okENorm
  · exact okEInv
  · exact okEGood
  · exact okEOf
def cAwake : Ctr := ⟨11, 40, [], [.bool]⟩
theorem okAwake : CtrOK Try.prog sfns cAwake := by
  refine CtrOK.of okT6 mixed (lf := 300) (d := 5) rfl fun w vs xs ha _ => ?_
  refine Go.Sx.Way.of (dec := [true,true]) (fs := [.need 37 [[.l 2, .l 0, .l 0, .l 0, .l 0, .l 0, .l 0, .l 0, .l 0, .l 0, .l 0, .l 0, .l 0, .l 0, .l 0, .l 0, .l 0, .l 0, .l 0, .l 0, .l 0, .l 0, .l 0, .l 0, .l 0, .l 0, .l 0, .l 0, .l 0, .l 0, .l 0, .l 0]], .call 0 37 [[.l 2, .l 0, .l 0, .l 0, .l 0, .l 0, .l 0, .l 0, .l 0, .l 0, .l 0, .l 0, .l 0, .l 0, .l 0, .l 0, .l 0, .l 0, .l 0, .l 0, .l 0, .l 0, .l 0, .l 0, .l 0, .l 0, .l 0, .l 0, .l 0, .l 0, .l 0, .l 0]] 32, .need 35 [[.l 2, .l 0, .l 0, .l 0, .l 0, .l 0, .l 0, .l 0, .l 0, .l 0, .l 0, .l 0, .l 0, .l 0, .l 0, .l 0, .l 0, .l 0, .l 0, .l 0, .l 0, .l 0, .l 0, .l 0, .l 0, .l 0, .l 0, .l 0, .l 0, .l 0, .l 0, .l 0], [.v 0, .v 1, .v 2, .v 3, .v 4, .v 5, .v 6, .v 7, .v 8, .v 9, .v 10, .v 11, .v 12, .v 13, .v 14, .v 15, .v 16, .v 17, .v 18, .v 19, .v 20, .v 21, .v 22, .v 23, .v 24, .v 25, .v 26, .v 27, .v 28, .v 29, .v 30, .v 31]], .call 32 35 [[.l 2, .l 0, .l 0, .l 0, .l 0, .l 0, .l 0, .l 0, .l 0, .l 0, .l 0, .l 0, .l 0, .l 0, .l 0, .l 0, .l 0, .l 0, .l 0, .l 0, .l 0, .l 0, .l 0, .l 0, .l 0, .l 0, .l 0, .l 0, .l 0, .l 0, .l 0, .l 0], [.v 0, .v 1, .v 2, .v 3, .v 4, .v 5, .v 6, .v 7, .v 8, .v 9, .v 10, .v 11, .v 12, .v 13, .v 14, .v 15, .v 16, .v 17, .v 18, .v 19, .v 20, .v 21, .v 22, .v 23, .v 24, .v 25, .v 26, .v 27, .v 28, .v 29, .v 30, .v 31]] 32, .eqs 64 [(.v 32, .l 1), (.v 33, .l 0), (.v 34, .l 0), (.v 35, .l 0), (.v 36, .l 0), (.v 37, .l 0), (.v 38, .l 0), (.v 39, .l 0), (.v 40, .l 0), (.v 41, .l 0), (.v 42, .l 0), (.v 43, .l 0), (.v 44, .l 0), (.v 45, .l 0), (.v 46, .l 0), (.v 47, .l 0), (.v 48, .l 0), (.v 49, .l 0), (.v 50, .l 0), (.v 51, .l 0), (.v 52, .l 0), (.v 53, .l 0), (.v 54, .l 0), (.v 55, .l 0), (.v 56, .l 0), (.v 57, .l 0), (.v 58, .l 0), (.v 59, .l 0), (.v 60, .l 0), (.v 61, .l 0), (.v 62, .l 0), (.v 63, .l 0)], .cond 64 true, .need 38 [[.l (-1)]], .call 65 38 [[.l (-1)]] 32, .need 33 [[.v 65, .v 66, .v 67, .v 68, .v 69, .v 70, .v 71, .v 72, .v 73, .v 74, .v 75, .v 76, .v 77, .v 78, .v 79, .v 80, .v 81, .v 82, .v 83, .v 84, .v 85, .v 86, .v 87, .v 88, .v 89, .v 90, .v 91, .v 92, .v 93, .v 94, .v 95, .v 96], [.l 1, .l 0, .l 0, .l 0, .l 0, .l 0, .l 0, .l 0, .l 0, .l 0, .l 0, .l 0, .l 0, .l 0, .l 0, .l 0, .l 0, .l 0, .l 0, .l 0, .l 0, .l 0, .l 0, .l 0, .l 0, .l 0, .l 0, .l 0, .l 0, .l 0, .l 0, .l 0]], .call 97 33 [[.v 65, .v 66, .v 67, .v 68, .v 69, .v 70, .v 71, .v 72, .v 73, .v 74, .v 75, .v 76, .v 77, .v 78, .v 79, .v 80, .v 81, .v 82, .v 83, .v 84, .v 85, .v 86, .v 87, .v 88, .v 89, .v 90, .v 91, .v 92, .v 93, .v 94, .v 95, .v 96], [.l 1, .l 0, .l 0, .l 0, .l 0, .l 0, .l 0, .l 0, .l 0, .l 0, .l 0, .l 0, .l 0, .l 0, .l 0, .l 0, .l 0, .l 0, .l 0, .l 0, .l 0, .l 0, .l 0, .l 0, .l 0, .l 0, .l 0, .l 0, .l 0, .l 0, .l 0, .l 0]] 32, .eqs 129 [(.v 97, .l 0), (.v 98, .l 0), (.v 99, .l 0), (.v 100, .l 0), (.v 101, .l 0), (.v 102, .l 0), (.v 103, .l 0), (.v 104, .l 0), (.v 105, .l 0), (.v 106, .l 0), (.v 107, .l 0), (.v 108, .l 0), (.v 109, .l 0), (.v 110, .l 0), (.v 111, .l 0), (.v 112, .l 0), (.v 113, .l 0), (.v 114, .l 0), (.v 115, .l 0), (.v 116, .l 0), (.v 117, .l 0), (.v 118, .l 0), (.v 119, .l 0), (.v 120, .l 0), (.v 121, .l 0), (.v 122, .l 0), (.v 123, .l 0), (.v 124, .l 0), (.v 125, .l 0), (.v 126, .l 0), (.v 127, .l 0), (.v 128, .l 0)], .cond 129 true, .need 32 [[.l 2, .l 0, .l 0, .l 0, .l 0, .l 0, .l 0, .l 0, .l 0, .l 0, .l 0, .l 0, .l 0, .l 0, .l 0, .l 0, .l 0, .l 0, .l 0, .l 0, .l 0, .l 0, .l 0, .l 0, .l 0, .l 0, .l 0, .l 0, .l 0, .l 0, .l 0, .l 0]], .call 130 32 [[.l 2, .l 0, .l 0, .l 0, .l 0, .l 0, .l 0, .l 0, .l 0, .l 0, .l 0, .l 0, .l 0, .l 0, .l 0, .l 0, .l 0, .l 0, .l 0, .l 0, .l 0, .l 0, .l 0, .l 0, .l 0, .l 0, .l 0, .l 0, .l 0, .l 0, .l 0, .l 0]] 1]) (refs := [.v 130]) (by kernel_rfl) fun ρ hρ hd => ?_
  simp only [D_nil, D_add, D_sub, D_mul, D_and, D_or, D_xor, D_shl, D_shr, D_andNot, D_quo, D_rem, D_add_i64, D_sub_i64, D_mul_i64, D_add_u32, D_sub_u32, D_mul_u32, D_add_u8, D_sub_u8, D_mul_u8, D_eql, D_neq, D_lss, D_leq, D_gtr, D_geq, D_not, D_conv, D_eqs, D_call, D_cond, D_need, D_idx, D_sel, D_upd, D_shv, D_beq, List.map_cons, List.map_nil, Ref.den] at hd
  obtain ⟨h0, h32, h64, h65, h97, h129, h130, -⟩ := hd
  have s0 : seg ρ 0 32 = dg 256 32 (powZ (dv 256 [2, 0, 0, 0, 0, 0, 0, 0, 0, 0, 0, 0, 0, 0, 0, 0, 0, 0, 0, 0, 0, 0, 0, 0, 0, 0, 0, 0, 0, 0, 0, 0]) (PP - 2) 256 % PP) := seg_of h0 (by first | exact dg_len _ _ _ | rfl)
  have s32 : seg ρ 32 32 = dg 256 32 (dv 256 [2, 0, 0, 0, 0, 0, 0, 0, 0, 0, 0, 0, 0, 0, 0, 0, 0, 0, 0, 0, 0, 0, 0, 0, 0, 0, 0, 0, 0, 0, 0, 0] * dv 256 (seg ρ 0 32) % PP) := seg_of h32 (by first | exact dg_len _ _ _ | rfl)
  have q64 : ρ 64 = b2i (decide ((seg ρ 32 32) = [1, 0, 0, 0, 0, 0, 0, 0, 0, 0, 0, 0, 0, 0, 0, 0, 0, 0, 0, 0, 0, 0, 0, 0, 0, 0, 0, 0, 0, 0, 0, 0])) := h64.trans (congrArg b2i eqs_lists)
  have s65 : seg ρ 65 32 = dg 256 32 (-1 % PP) := seg_of h65 (by first | exact dg_len _ _ _ | rfl)
  have s97 : seg ρ 97 32 = dg 256 32 ((dv 256 (seg ρ 65 32) + dv 256 [1, 0, 0, 0, 0, 0, 0, 0, 0, 0, 0, 0, 0, 0, 0, 0, 0, 0, 0, 0, 0, 0, 0, 0, 0, 0, 0, 0, 0, 0, 0, 0]) % PP) := seg_of h97 (by first | exact dg_len _ _ _ | rfl)
  have q129 : ρ 129 = b2i (decide ((seg ρ 97 32) = [0, 0, 0, 0, 0, 0, 0, 0, 0, 0, 0, 0, 0, 0, 0, 0, 0, 0, 0, 0, 0, 0, 0, 0, 0, 0, 0, 0, 0, 0, 0, 0])) := h129.trans (congrArg b2i eqs_lists)
  have s130 : ρ 130 = b2i (decide (dv 256 [2, 0, 0, 0, 0, 0, 0, 0, 0, 0, 0, 0, 0, 0, 0, 0, 0, 0, 0, 0, 0, 0, 0, 0, 0, 0, 0, 0, 0, 0, 0, 0] < PP)) := h130 0 (by decide)
  have d2 : dv 256 [2, 0, 0, 0, 0, 0, 0, 0, 0, 0, 0, 0, 0, 0, 0, 0, 0, 0, 0, 0, 0, 0, 0, 0, 0, 0, 0, 0, 0, 0, 0, 0] = 2 := by decide +kernel
  have d1 : dv 256 [1, 0, 0, 0, 0, 0, 0, 0, 0, 0, 0, 0, 0, 0, 0, 0, 0, 0, 0, 0, 0, 0, 0, 0, 0, 0, 0, 0, 0, 0, 0, 0] = 1 := by decide +kernel
  rw [d2] at s0
  rw [d2, s0, dvq, inv_two] at s32
  rw [d1, s65, dvq, addl, show (-1 + 1 : Int) % PP = 0 by decide] at s97
  rw [s32] at q64
  rw [s97] at q129
  have k64 := bit_true q64 (by decide +kernel)
  have k129 := bit_true q129 (by decide +kernel)
  have k130 : ρ 130 = 1 := s130.trans (by decide +kernel)
  refine ⟨?_, ?_⟩
  · simp only [G_nil, G_bin, G_cmp, G_not, G_conv, G_eqs, G_call, G_cond, G_need, G_idx, G_sel, G_upd, G_shv, G_beq, List.map_cons, List.map_nil, Ref.den]
    exact ⟨trivial, trivial, k64, trivial, trivial, k129, trivial, trivial⟩
  · show [ρ 130] = [1]
    rw [k130]
def T7 : List Ctr := cAwake :: T6
theorem okT7 : ∀ c ∈ T7, CtrOK Try.prog sfns c := by
  intro c hc
  rcases List.mem_cons.1 hc with rfl | hc
  · exact okAwake
  · exact okT6 c hc
#print axioms okAwake
end Go.Proofs.Ytgjjndbogghfcaa
