/- Numbers modulo p: what is shown of roots. No condition. -/
import Derived.Test.YtfobnajgnnccmaaFk6
namespace Go.Proofs.Ytfobnajgnnccmaa
open Go.RowKit Go.Bx Go.Sx
set_option linter.unusedSimpArgs false
def cMinusOne : Ctr := ⟨100, 21, [], [.arr .u64 4]⟩
def cRoot : Ctr := ⟨72, 20, [.arr .u64 4], [.arr .u64 4, .bool]⟩
theorem okMinusOne : CtrOK Try.prog sfns cMinusOne := by
  refine CtrOK.of okT5 mixed (lf := 300) (d := 5) rfl fun w vs xs ha _ => ?_
  refine Go.Sx.Way.of (dec := []) (fs := [.need 11 [[.l 18446744073709551597, .l 18446744073709551615, .l 18446744073709551615, .l 9223372036854775807], [.l 1, .l 0, .l 0, .l 0]], .call 0 11 [[.l 18446744073709551597, .l 18446744073709551615, .l 18446744073709551615, .l 9223372036854775807], [.l 1, .l 0, .l 0, .l 0]] 5, .bin 5 .shr .u64 (.v 0) (.l 2), .bin 6 .shl .u64 (.v 1) (.l 62), .bin 7 .or .u64 (.v 5) (.v 6), .bin 8 .shr .u64 (.v 1) (.l 2), .bin 9 .shl .u64 (.v 2) (.l 62), .bin 10 .or .u64 (.v 8) (.v 9), .bin 11 .shr .u64 (.v 2) (.l 2), .bin 12 .shl .u64 (.v 3) (.l 62), .bin 13 .or .u64 (.v 11) (.v 12), .bin 14 .shr .u64 (.v 3) (.l 2), .need 19 [[.l 2, .l 0, .l 0, .l 0], [.v 7, .v 10, .v 13, .v 14]], .call 15 19 [[.l 2, .l 0, .l 0, .l 0], [.v 7, .v 10, .v 13, .v 14]] 4]) (refs := [.v 15, .v 16, .v 17, .v 18]) (by kernel_rfl) fun ρ hρ hd => ?_
  simp only [D_nil, D_add, D_sub, D_mul, D_and, D_or, D_xor, D_shl, D_shr, D_andNot, D_quo, D_rem, D_add_i64, D_sub_i64, D_mul_i64, D_add_u32, D_sub_u32, D_mul_u32, D_add_u8, D_sub_u8, D_mul_u8, D_eql, D_neq, D_lss, D_leq, D_gtr, D_geq, D_not, D_conv, D_eqs, D_call, D_cond, D_need, D_idx, D_sel, D_upd, D_shv, D_beq, List.map_cons, List.map_nil, Ref.den] at hd
  obtain ⟨h0, h5, h6, h7, h8, h9, h10, h11, h12, h13, h14, h15, -⟩ := hd
  obtain ⟨s0, -⟩ := less_seg (a := [18446744073709551597, 18446744073709551615, 18446744073709551615, 9223372036854775807]) (b := [1, 0, 0, 0]) h0
  have e0 : seg ρ 0 4 = [18446744073709551596, 18446744073709551615, 18446744073709551615, 9223372036854775807] := by rw [s0]; decide +kernel
  have q0 : ρ 0 = 18446744073709551596 := congrArg (fun l => l.getD 0 0) e0
  have q1 : ρ 1 = 18446744073709551615 := congrArg (fun l => l.getD 1 0) e0
  have q2 : ρ 2 = 18446744073709551615 := congrArg (fun l => l.getD 2 0) e0
  have q3 : ρ 3 = 9223372036854775807 := congrArg (fun l => l.getD 3 0) e0
  rw [q0] at h5
  rw [q1] at h6 h8
  rw [q2] at h9 h11
  rw [q3] at h12 h14
  have e5 : ρ 5 = 4611686018427387899 := (Option.some.inj (h5.symm.trans (by decide +kernel : binZ .shr .u64 18446744073709551596 2 = some 4611686018427387899)))
  have e6 : ρ 6 = 13835058055282163712 := (Option.some.inj (h6.symm.trans (by decide +kernel : binZ .shl .u64 18446744073709551615 62 = some 13835058055282163712)))
  have e8 : ρ 8 = 4611686018427387903 := (Option.some.inj (h8.symm.trans (by decide +kernel : binZ .shr .u64 18446744073709551615 2 = some 4611686018427387903)))
  have e9 : ρ 9 = 13835058055282163712 := (Option.some.inj (h9.symm.trans (by decide +kernel : binZ .shl .u64 18446744073709551615 62 = some 13835058055282163712)))
  have e11 : ρ 11 = 4611686018427387903 := (Option.some.inj (h11.symm.trans (by decide +kernel : binZ .shr .u64 18446744073709551615 2 = some 4611686018427387903)))
  have e12 : ρ 12 = 13835058055282163712 := (Option.some.inj (h12.symm.trans (by decide +kernel : binZ .shl .u64 9223372036854775807 62 = some 13835058055282163712)))
  have e14 : ρ 14 = 2305843009213693951 := (Option.some.inj (h14.symm.trans (by decide +kernel : binZ .shr .u64 9223372036854775807 2 = some 2305843009213693951)))
  rw [e5, e6] at h7
  rw [e8, e9] at h10
  rw [e11, e12] at h13
  have e7 : ρ 7 = 18446744073709551611 := (Option.some.inj (h7.symm.trans (by decide +kernel : binZ .or .u64 4611686018427387899 13835058055282163712 = some 18446744073709551611)))
  have e10 : ρ 10 = 18446744073709551615 := (Option.some.inj (h10.symm.trans (by decide +kernel : binZ .or .u64 4611686018427387903 13835058055282163712 = some 18446744073709551615)))
  have e13 : ρ 13 = 18446744073709551615 := (Option.some.inj (h13.symm.trans (by decide +kernel : binZ .or .u64 4611686018427387903 13835058055282163712 = some 18446744073709551615)))
  have s15 : seg ρ 15 4 = dg MM 4 (powZ (dv MM [2, 0, 0, 0]) (dv MM [ρ 7, ρ 10, ρ 13, ρ 14]) 256) := seg_of h15 (dg_len _ _ _)
  rw [e7, e10, e13, e14, show dv MM [2, 0, 0, 0] = 2 by decide, show dv MM [18446744073709551611, 18446744073709551615, 18446744073709551615, 2305843009213693951] = E4 by decide] at s15
  refine ⟨by simp only [G_nil, G_bin, G_cmp, G_not, G_conv, G_eqs, G_call, G_cond, G_need, G_idx, G_sel, G_upd, G_shv, G_beq, List.map_cons, List.map_nil, Ref.den]; exact ⟨trivial, trivial, trivial⟩, ?_⟩
  exact s15
theorem mulB {A B : Int} (hA : 0 ≤ A ∧ A < WW) (hB : 0 ≤ B ∧ B < WW) : dv MM (dg MM 4 (timesZ A B)) = timesZ A B := dvW (timesZ_bd hA.1 hA.2 hB.1 hB.2).1 (timesZ_bd hA.1 hA.2 hB.1 hB.2).2
theorem modB (A : Int) : 0 ≤ A % PP ∧ A % PP < WW := by
  have h0 := Int.emod_nonneg A (b := PP) (by decide)
  have h1 := Int.emod_lt_of_pos A PP_lt.1
  have := PP_lt
  omega
theorem dgn {x y : Int} (hx : 0 ≤ x ∧ x < WW) (hy : 0 ≤ y ∧ y < WW) : dg MM 4 x = dg MM 4 y ↔ x = y := ⟨fun h => by have := congrArg (dv MM) h; rwa [dvW hx.1 hx.2, dvW hy.1 hy.2] at this, fun h => by rw [h]⟩
def T8 : List Ctr := cMinusOne :: T5
theorem okT8 : ∀ c ∈ T8, CtrOK Try.prog sfns c := by
  intro c hc
  rcases List.mem_cons.1 hc with rfl | hc
  · exact okMinusOne
  · exact okT5 c hc
#print axioms okMinusOne
end Go.Proofs.Ytfobnajgnnccmaa
