/- The statement ScalarSmall: the law's walk, by the reckoning. No condition. -/
import Derived.Test.YtokndemdmkaofaaSk7
namespace Go.Bx
theorem four_bytes {a x0 x1 x2 x3 : Int} (ha : 0 ≤ a ∧ a < 4294967296) (h0 : x0 = a % 256) (h1 : x1 = a / 2 ^ 8 % 256) (h2 : x2 = a / 2 ^ 16 % 256) (h3 : x3 = a / 2 ^ 24 % 256) : [x0, x1, x2, x3, 0, 0, 0, 0, 0, 0, 0, 0, 0, 0, 0, 0, 0, 0, 0, 0, 0, 0, 0, 0, 0, 0, 0, 0, 0, 0, 0, 0] = dg 256 32 a := by
  refine dg_eq (by decide) rfl ⟨fun x hx => ?_⟩ ?_
  · simp only [List.mem_cons, List.not_mem_nil, or_false] at hx
    omega
  · simp only [dv]; omega
theorem eight_bytes {a x0 x1 x2 x3 x4 x5 x6 x7 : Int} (ha : 0 ≤ a ∧ a < 18446744073709551616) (h0 : x0 = a / 2 ^ 0 % 256) (h1 : x1 = a / 2 ^ 8 % 256) (h2 : x2 = a / 2 ^ 16 % 256) (h3 : x3 = a / 2 ^ 24 % 256)
    (h4 : x4 = a / 2 ^ 32 % 256) (h5 : x5 = a / 2 ^ 40 % 256) (h6 : x6 = a / 2 ^ 48 % 256) (h7 : x7 = a / 2 ^ 56 % 256) : [x0, x1, x2, x3, x4, x5, x6, x7, 0, 0, 0, 0, 0, 0, 0, 0, 0, 0, 0, 0, 0, 0, 0, 0, 0, 0, 0, 0, 0, 0, 0, 0] = dg 256 32 a := by
  refine dg_eq (by decide) rfl ⟨fun x hx => ?_⟩ ?_
  · simp only [List.mem_cons, List.not_mem_nil, or_false] at hx
    omega
  · simp only [dv]; omega
theorem dvs {z : Int} (h : 0 ≤ z ∧ z < 18446744073709551616) : dv 256 (dg 256 32 z) = z ∧ z % LL = z := by
  have hL := LL_lt2
  have h2 : (18446744073709551616 : Int) < LL := by decide
  exact ⟨dv_dg_of (by decide) h.1 (by omega), Int.emod_eq_of_lt h.1 (by omega)⟩
end Go.Bx
namespace Go.Proofs.Ytokndemdmkaofaa
open Go.RowKit Go.Bx Go.Sx
set_option linter.unusedSimpArgs false
def cSmall : Ctr := ⟨9, 42, [.int .u32, .int .u32], [.bool]⟩
theorem okSmall : CtrOK Try.prog sfns cSmall := by
  refine CtrOK.of okT6 mixed (lf := 300) (d := 5) rfl fun w vs xs ha _ => ?_
  obtain ⟨v, u, x, y, rfl, rfl, ⟨a, rfl, rfl, hx⟩, ⟨b, rfl, rfl, hy⟩⟩ := open2 ha
  have ha : 0 ≤ a ∧ a < 4294967296 := by obtain ⟨h1, h2⟩ := hx; simp only [lo, hi] at h1 h2; omega
  have hb : 0 ≤ b ∧ b < 4294967296 := by obtain ⟨h1, h2⟩ := hy; simp only [lo, hi] at h1 h2; omega
  refine Go.Sx.Way.of (dec := [false,true,true,true]) (fs := [.need 40 [], .call 2 40 [] 1, .not 3 (.v 2), .cond 3 false, .conv 4 .u8 (.v 0), .bin 5 .shr .u32 (.v 0) (.l 8), .conv 6 .u8 (.v 5), .bin 7 .shr .u32 (.v 0) (.l 16), .conv 8 .u8 (.v 7), .bin 9 .shr .u32 (.v 0) (.l 24), .conv 10 .u8 (.v 9), .conv 11 .u8 (.v 1), .bin 12 .shr .u32 (.v 1) (.l 8), .conv 13 .u8 (.v 12), .bin 14 .shr .u32 (.v 1) (.l 16), .conv 15 .u8 (.v 14), .bin 16 .shr .u32 (.v 1) (.l 24), .conv 17 .u8 (.v 16), .conv 18 .u64 (.v 0), .conv 19 .u64 (.v 1), .bin 20 .add .u64 (.v 18) (.v 19), .conv 21 .u64 (.v 0), .conv 22 .u64 (.v 1), .bin 23 .mul .u64 (.v 21) (.v 22), .bin 24 .shr .u64 (.v 20) (.l 0), .conv 25 .u8 (.v 24), .bin 26 .shr .u64 (.v 23) (.l 0), .conv 27 .u8 (.v 26), .bin 28 .shr .u64 (.v 20) (.l 8), .conv 29 .u8 (.v 28), .bin 30 .shr .u64 (.v 23) (.l 8), .conv 31 .u8 (.v 30), .bin 32 .shr .u64 (.v 20) (.l 16), .conv 33 .u8 (.v 32), .bin 34 .shr .u64 (.v 23) (.l 16), .conv 35 .u8 (.v 34), .bin 36 .shr .u64 (.v 20) (.l 24), .conv 37 .u8 (.v 36), .bin 38 .shr .u64 (.v 23) (.l 24), .conv 39 .u8 (.v 38), .bin 40 .shr .u64 (.v 20) (.l 32), .conv 41 .u8 (.v 40), .bin 42 .shr .u64 (.v 23) (.l 32), .conv 43 .u8 (.v 42), .bin 44 .shr .u64 (.v 20) (.l 40), .conv 45 .u8 (.v 44), .bin 46 .shr .u64 (.v 23) (.l 40), .conv 47 .u8 (.v 46), .bin 48 .shr .u64 (.v 20) (.l 48), .conv 49 .u8 (.v 48), .bin 50 .shr .u64 (.v 23) (.l 48), .conv 51 .u8 (.v 50), .bin 52 .shr .u64 (.v 20) (.l 56), .conv 53 .u8 (.v 52), .bin 54 .shr .u64 (.v 23) (.l 56), .conv 55 .u8 (.v 54), .need 20 [[.v 4, .v 6, .v 8, .v 10, .l 0, .l 0, .l 0, .l 0, .l 0, .l 0, .l 0, .l 0, .l 0, .l 0, .l 0, .l 0, .l 0, .l 0, .l 0, .l 0, .l 0, .l 0, .l 0, .l 0, .l 0, .l 0, .l 0, .l 0, .l 0, .l 0, .l 0, .l 0], [.v 11, .v 13, .v 15, .v 17, .l 0, .l 0, .l 0, .l 0, .l 0, .l 0, .l 0, .l 0, .l 0, .l 0, .l 0, .l 0, .l 0, .l 0, .l 0, .l 0, .l 0, .l 0, .l 0, .l 0, .l 0, .l 0, .l 0, .l 0, .l 0, .l 0, .l 0, .l 0]], .call 56 20 [[.v 4, .v 6, .v 8, .v 10, .l 0, .l 0, .l 0, .l 0, .l 0, .l 0, .l 0, .l 0, .l 0, .l 0, .l 0, .l 0, .l 0, .l 0, .l 0, .l 0, .l 0, .l 0, .l 0, .l 0, .l 0, .l 0, .l 0, .l 0, .l 0, .l 0, .l 0, .l 0], [.v 11, .v 13, .v 15, .v 17, .l 0, .l 0, .l 0, .l 0, .l 0, .l 0, .l 0, .l 0, .l 0, .l 0, .l 0, .l 0, .l 0, .l 0, .l 0, .l 0, .l 0, .l 0, .l 0, .l 0, .l 0, .l 0, .l 0, .l 0, .l 0, .l 0, .l 0, .l 0]] 32, .eqs 88 [(.v 56, .v 25), (.v 57, .v 29), (.v 58, .v 33), (.v 59, .v 37), (.v 60, .v 41), (.v 61, .v 45), (.v 62, .v 49), (.v 63, .v 53), (.v 64, .l 0), (.v 65, .l 0), (.v 66, .l 0), (.v 67, .l 0), (.v 68, .l 0), (.v 69, .l 0), (.v 70, .l 0), (.v 71, .l 0), (.v 72, .l 0), (.v 73, .l 0), (.v 74, .l 0), (.v 75, .l 0), (.v 76, .l 0), (.v 77, .l 0), (.v 78, .l 0), (.v 79, .l 0), (.v 80, .l 0), (.v 81, .l 0), (.v 82, .l 0), (.v 83, .l 0), (.v 84, .l 0), (.v 85, .l 0), (.v 86, .l 0), (.v 87, .l 0)], .cond 88 true, .need 22 [[.v 4, .v 6, .v 8, .v 10, .l 0, .l 0, .l 0, .l 0, .l 0, .l 0, .l 0, .l 0, .l 0, .l 0, .l 0, .l 0, .l 0, .l 0, .l 0, .l 0, .l 0, .l 0, .l 0, .l 0, .l 0, .l 0, .l 0, .l 0, .l 0, .l 0, .l 0, .l 0], [.v 11, .v 13, .v 15, .v 17, .l 0, .l 0, .l 0, .l 0, .l 0, .l 0, .l 0, .l 0, .l 0, .l 0, .l 0, .l 0, .l 0, .l 0, .l 0, .l 0, .l 0, .l 0, .l 0, .l 0, .l 0, .l 0, .l 0, .l 0, .l 0, .l 0, .l 0, .l 0]], .call 89 22 [[.v 4, .v 6, .v 8, .v 10, .l 0, .l 0, .l 0, .l 0, .l 0, .l 0, .l 0, .l 0, .l 0, .l 0, .l 0, .l 0, .l 0, .l 0, .l 0, .l 0, .l 0, .l 0, .l 0, .l 0, .l 0, .l 0, .l 0, .l 0, .l 0, .l 0, .l 0, .l 0], [.v 11, .v 13, .v 15, .v 17, .l 0, .l 0, .l 0, .l 0, .l 0, .l 0, .l 0, .l 0, .l 0, .l 0, .l 0, .l 0, .l 0, .l 0, .l 0, .l 0, .l 0, .l 0, .l 0, .l 0, .l 0, .l 0, .l 0, .l 0, .l 0, .l 0, .l 0, .l 0]] 32, .eqs 121 [(.v 89, .v 27), (.v 90, .v 31), (.v 91, .v 35), (.v 92, .v 39), (.v 93, .v 43), (.v 94, .v 47), (.v 95, .v 51), (.v 96, .v 55), (.v 97, .l 0), (.v 98, .l 0), (.v 99, .l 0), (.v 100, .l 0), (.v 101, .l 0), (.v 102, .l 0), (.v 103, .l 0), (.v 104, .l 0), (.v 105, .l 0), (.v 106, .l 0), (.v 107, .l 0), (.v 108, .l 0), (.v 109, .l 0), (.v 110, .l 0), (.v 111, .l 0), (.v 112, .l 0), (.v 113, .l 0), (.v 114, .l 0), (.v 115, .l 0), (.v 116, .l 0), (.v 117, .l 0), (.v 118, .l 0), (.v 119, .l 0), (.v 120, .l 0)], .cond 121 true, .need 21 [[.v 25, .v 29, .v 33, .v 37, .v 41, .v 45, .v 49, .v 53, .l 0, .l 0, .l 0, .l 0, .l 0, .l 0, .l 0, .l 0, .l 0, .l 0, .l 0, .l 0, .l 0, .l 0, .l 0, .l 0, .l 0, .l 0, .l 0, .l 0, .l 0, .l 0, .l 0, .l 0], [.v 11, .v 13, .v 15, .v 17, .l 0, .l 0, .l 0, .l 0, .l 0, .l 0, .l 0, .l 0, .l 0, .l 0, .l 0, .l 0, .l 0, .l 0, .l 0, .l 0, .l 0, .l 0, .l 0, .l 0, .l 0, .l 0, .l 0, .l 0, .l 0, .l 0, .l 0, .l 0]], .call 122 21 [[.v 25, .v 29, .v 33, .v 37, .v 41, .v 45, .v 49, .v 53, .l 0, .l 0, .l 0, .l 0, .l 0, .l 0, .l 0, .l 0, .l 0, .l 0, .l 0, .l 0, .l 0, .l 0, .l 0, .l 0, .l 0, .l 0, .l 0, .l 0, .l 0, .l 0, .l 0, .l 0], [.v 11, .v 13, .v 15, .v 17, .l 0, .l 0, .l 0, .l 0, .l 0, .l 0, .l 0, .l 0, .l 0, .l 0, .l 0, .l 0, .l 0, .l 0, .l 0, .l 0, .l 0, .l 0, .l 0, .l 0, .l 0, .l 0, .l 0, .l 0, .l 0, .l 0, .l 0, .l 0]] 32, .eqs 154 [(.v 122, .v 4), (.v 123, .v 6), (.v 124, .v 8), (.v 125, .v 10), (.v 126, .l 0), (.v 127, .l 0), (.v 128, .l 0), (.v 129, .l 0), (.v 130, .l 0), (.v 131, .l 0), (.v 132, .l 0), (.v 133, .l 0), (.v 134, .l 0), (.v 135, .l 0), (.v 136, .l 0), (.v 137, .l 0), (.v 138, .l 0), (.v 139, .l 0), (.v 140, .l 0), (.v 141, .l 0), (.v 142, .l 0), (.v 143, .l 0), (.v 144, .l 0), (.v 145, .l 0), (.v 146, .l 0), (.v 147, .l 0), (.v 148, .l 0), (.v 149, .l 0), (.v 150, .l 0), (.v 151, .l 0), (.v 152, .l 0), (.v 153, .l 0)], .cond 154 true, .need 23 [[.v 4, .v 6, .v 8, .v 10, .l 0, .l 0, .l 0, .l 0, .l 0, .l 0, .l 0, .l 0, .l 0, .l 0, .l 0, .l 0, .l 0, .l 0, .l 0, .l 0, .l 0, .l 0, .l 0, .l 0, .l 0, .l 0, .l 0, .l 0, .l 0, .l 0, .l 0, .l 0]], .call 155 23 [[.v 4, .v 6, .v 8, .v 10, .l 0, .l 0, .l 0, .l 0, .l 0, .l 0, .l 0, .l 0, .l 0, .l 0, .l 0, .l 0, .l 0, .l 0, .l 0, .l 0, .l 0, .l 0, .l 0, .l 0, .l 0, .l 0, .l 0, .l 0, .l 0, .l 0, .l 0, .l 0]] 32, .eqs 187 [(.v 155, .v 4), (.v 156, .v 6), (.v 157, .v 8), (.v 158, .v 10), (.v 159, .l 0), (.v 160, .l 0), (.v 161, .l 0), (.v 162, .l 0), (.v 163, .l 0), (.v 164, .l 0), (.v 165, .l 0), (.v 166, .l 0), (.v 167, .l 0), (.v 168, .l 0), (.v 169, .l 0), (.v 170, .l 0), (.v 171, .l 0), (.v 172, .l 0), (.v 173, .l 0), (.v 174, .l 0), (.v 175, .l 0), (.v 176, .l 0), (.v 177, .l 0), (.v 178, .l 0), (.v 179, .l 0), (.v 180, .l 0), (.v 181, .l 0), (.v 182, .l 0), (.v 183, .l 0), (.v 184, .l 0), (.v 185, .l 0), (.v 186, .l 0)]]) (refs := [.v 187]) (by kernel_rfl) fun ρ hρ hd => ?_
  have r0 : ρ 0 = a := hρ 0 (by decide)
  have r1 : ρ 1 = b := hρ 1 (by decide)
  simp only [D_nil, D_add, D_sub, D_mul, D_and, D_or, D_xor, D_shl, D_shr, D_andNot, D_quo, D_rem, D_add_i64, D_sub_i64, D_mul_i64, D_add_u32, D_sub_u32, D_mul_u32, D_add_u8, D_sub_u8, D_mul_u8, D_eql, D_neq, D_lss, D_leq, D_gtr, D_geq, D_not, D_conv, D_eqs, D_call, D_cond, D_need, D_idx, D_sel, D_upd, D_shv, List.map_cons, List.map_nil, Ref.den, r0, r1, c_u8, c_u64] at hd
  obtain ⟨h2, h3, h4, h5, h6, h7, h8, h9, h10, h11, h12, h13, h14, h15, h16, h17, h18, h19, h20, h21, h22, h23, h24, h25, h26, h27, h28, h29, h30, h31, h32, h33, h34, h35, h36, h37, h38, h39, h40, h41, h42, h43, h44, h45, h46, h47, h48, h49, h50, h51, h52, h53, h54, h55, h56, h88, h89, h121, h122, h154, h155, h187, -⟩ := hd
  have s2 : ρ 2 = 1 := h2 0 (by decide)
  have s56 : seg ρ 56 32 = dg 256 32 ((dv 256 [ρ 4, ρ 6, ρ 8, ρ 10, 0, 0, 0, 0, 0, 0, 0, 0, 0, 0, 0, 0, 0, 0, 0, 0, 0, 0, 0, 0, 0, 0, 0, 0, 0, 0, 0, 0] + dv 256 [ρ 11, ρ 13, ρ 15, ρ 17, 0, 0, 0, 0, 0, 0, 0, 0, 0, 0, 0, 0, 0, 0, 0, 0, 0, 0, 0, 0, 0, 0, 0, 0, 0, 0, 0, 0]) % LL) := seg_of h56 (by first | exact dg_len _ _ _ | rfl)
  have q88 : ρ 88 = b2i (decide ((seg ρ 56 32) = [ρ 25, ρ 29, ρ 33, ρ 37, ρ 41, ρ 45, ρ 49, ρ 53, 0, 0, 0, 0, 0, 0, 0, 0, 0, 0, 0, 0, 0, 0, 0, 0, 0, 0, 0, 0, 0, 0, 0, 0])) := h88.trans (congrArg b2i eqs_lists)
  have s89 : seg ρ 89 32 = dg 256 32 (dv 256 [ρ 4, ρ 6, ρ 8, ρ 10, 0, 0, 0, 0, 0, 0, 0, 0, 0, 0, 0, 0, 0, 0, 0, 0, 0, 0, 0, 0, 0, 0, 0, 0, 0, 0, 0, 0] * dv 256 [ρ 11, ρ 13, ρ 15, ρ 17, 0, 0, 0, 0, 0, 0, 0, 0, 0, 0, 0, 0, 0, 0, 0, 0, 0, 0, 0, 0, 0, 0, 0, 0, 0, 0, 0, 0] % LL) := seg_of h89 (by first | exact dg_len _ _ _ | rfl)
  have q121 : ρ 121 = b2i (decide ((seg ρ 89 32) = [ρ 27, ρ 31, ρ 35, ρ 39, ρ 43, ρ 47, ρ 51, ρ 55, 0, 0, 0, 0, 0, 0, 0, 0, 0, 0, 0, 0, 0, 0, 0, 0, 0, 0, 0, 0, 0, 0, 0, 0])) := h121.trans (congrArg b2i eqs_lists)
  have s122 : seg ρ 122 32 = dg 256 32 ((dv 256 [ρ 25, ρ 29, ρ 33, ρ 37, ρ 41, ρ 45, ρ 49, ρ 53, 0, 0, 0, 0, 0, 0, 0, 0, 0, 0, 0, 0, 0, 0, 0, 0, 0, 0, 0, 0, 0, 0, 0, 0] - dv 256 [ρ 11, ρ 13, ρ 15, ρ 17, 0, 0, 0, 0, 0, 0, 0, 0, 0, 0, 0, 0, 0, 0, 0, 0, 0, 0, 0, 0, 0, 0, 0, 0, 0, 0, 0, 0]) % LL) := seg_of h122 (by first | exact dg_len _ _ _ | rfl)
  have q154 : ρ 154 = b2i (decide ((seg ρ 122 32) = [ρ 4, ρ 6, ρ 8, ρ 10, 0, 0, 0, 0, 0, 0, 0, 0, 0, 0, 0, 0, 0, 0, 0, 0, 0, 0, 0, 0, 0, 0, 0, 0, 0, 0, 0, 0])) := h154.trans (congrArg b2i eqs_lists)
  have s155 : seg ρ 155 32 = dg 256 32 (dv 256 [ρ 4, ρ 6, ρ 8, ρ 10, 0, 0, 0, 0, 0, 0, 0, 0, 0, 0, 0, 0, 0, 0, 0, 0, 0, 0, 0, 0, 0, 0, 0, 0, 0, 0, 0, 0] % LL) := seg_of h155 (by first | exact dg_len _ _ _ | rfl)
  have q187 : ρ 187 = b2i (decide ((seg ρ 155 32) = [ρ 4, ρ 6, ρ 8, ρ 10, 0, 0, 0, 0, 0, 0, 0, 0, 0, 0, 0, 0, 0, 0, 0, 0, 0, 0, 0, 0, 0, 0, 0, 0, 0, 0, 0, 0])) := h187.trans (congrArg b2i eqs_lists)
  have k3 := not_bit h3 s2
  have e18 : ρ 18 = a := by rw [h18]; omega
  have e19 : ρ 19 = b := by rw [h19]; omega
  have e21 : ρ 21 = a := by rw [h21]; omega
  have e22 : ρ 22 = b := by rw [h22]; omega
  have hp0 : 0 ≤ a * b := Int.mul_nonneg ha.1 hb.1
  have hp1 : a * b ≤ 4294967295 * 4294967295 := Int.mul_le_mul (by omega) (by omega) hb.1 (by omega)
  have e20 : ρ 20 = a + b := by rw [h20, e18, e19]; omega
  have e23 : ρ 23 = a * b := by rw [h23, e21, e22]; omega
  have wX : [ρ 4, ρ 6, ρ 8, ρ 10, 0, 0, 0, 0, 0, 0, 0, 0, 0, 0, 0, 0, 0, 0, 0, 0, 0, 0, 0, 0, 0, 0, 0, 0, 0, 0, 0, 0] = dg 256 32 a := four_bytes ha h4 (by rw [h6, u_shr 8 (by decide) h5 rfl]) (by rw [h8, u_shr 16 (by decide) h7 rfl]) (by rw [h10, u_shr 24 (by decide) h9 rfl])
  have wY : [ρ 11, ρ 13, ρ 15, ρ 17, 0, 0, 0, 0, 0, 0, 0, 0, 0, 0, 0, 0, 0, 0, 0, 0, 0, 0, 0, 0, 0, 0, 0, 0, 0, 0, 0, 0] = dg 256 32 b := four_bytes hb h11 (by rw [h13, u_shr 8 (by decide) h12 rfl]) (by rw [h15, u_shr 16 (by decide) h14 rfl]) (by rw [h17, u_shr 24 (by decide) h16 rfl])
  have wU : [ρ 25, ρ 29, ρ 33, ρ 37, ρ 41, ρ 45, ρ 49, ρ 53, 0, 0, 0, 0, 0, 0, 0, 0, 0, 0, 0, 0, 0, 0, 0, 0, 0, 0, 0, 0, 0, 0, 0, 0] = dg 256 32 (a + b) := eight_bytes (by omega) (by rw [h25, u_shr 0 (by decide) h24 rfl, e20]) (by rw [h29, u_shr 8 (by decide) h28 rfl, e20]) (by rw [h33, u_shr 16 (by decide) h32 rfl, e20]) (by rw [h37, u_shr 24 (by decide) h36 rfl, e20]) (by rw [h41, u_shr 32 (by decide) h40 rfl, e20]) (by rw [h45, u_shr 40 (by decide) h44 rfl, e20]) (by rw [h49, u_shr 48 (by decide) h48 rfl, e20]) (by rw [h53, u_shr 56 (by decide) h52 rfl, e20])
  have wV : [ρ 27, ρ 31, ρ 35, ρ 39, ρ 43, ρ 47, ρ 51, ρ 55, 0, 0, 0, 0, 0, 0, 0, 0, 0, 0, 0, 0, 0, 0, 0, 0, 0, 0, 0, 0, 0, 0, 0, 0] = dg 256 32 (a * b) := eight_bytes (by omega) (by rw [h27, u_shr 0 (by decide) h26 rfl, e23]) (by rw [h31, u_shr 8 (by decide) h30 rfl, e23]) (by rw [h35, u_shr 16 (by decide) h34 rfl, e23]) (by rw [h39, u_shr 24 (by decide) h38 rfl, e23]) (by rw [h43, u_shr 32 (by decide) h42 rfl, e23]) (by rw [h47, u_shr 40 (by decide) h46 rfl, e23]) (by rw [h51, u_shr 48 (by decide) h50 rfl, e23]) (by rw [h55, u_shr 56 (by decide) h54 rfl, e23])
  have da := dvs (z := a) (by omega)
  have db := dvs (z := b) (by omega)
  have ds := dvs (z := a + b) (by omega)
  have dp := dvs (z := a * b) (by omega)
  rw [wX, wY, da.1, db.1, ds.2] at s56
  rw [wX, wY, da.1, db.1, dp.2] at s89
  rw [wU, wY, ds.1, db.1, Int.add_sub_cancel, da.2] at s122
  rw [wX, da.1, da.2] at s155
  rw [s56, wU] at q88
  rw [s89, wV] at q121
  rw [s122, wX] at q154
  rw [s155, wX] at q187
  have k88 := bit_true q88 (decide_eq_true rfl)
  have k121 := bit_true q121 (decide_eq_true rfl)
  have k154 := bit_true q154 (decide_eq_true rfl)
  have k187 : ρ 187 = 1 := q187.trans (by rw [decide_eq_true rfl]; rfl)
  refine ⟨?_, ?_⟩
  · simp only [G_nil, G_bin, G_cmp, G_not, G_conv, G_eqs, G_call, G_cond, G_need, G_idx, G_sel, G_upd, G_shv, List.map_cons, List.map_nil, Ref.den]
    exact ⟨trivial, k3, trivial, k88, trivial, k121, trivial, k154, trivial, trivial⟩
  · show [ρ 187] = [1]
    rw [k187]
#print axioms okSmall
end Go.Proofs.Ytokndemdmkaofaa
namespace Go.Proofs.Ytokndemdmkaofaa.scalarSmall
open Go.RowKit Go.Bx Go.Sx
theorem walk (a : Int) (ha : 0 ≤ a ∧ a < 4294967296) (b : Int) (hb : 0 ≤ b ∧ b < 4294967296) (w : World) :
    Calls Try.prog 9 #[.int .u32 a, .int .u32 b] w fun e w' => e = .returned (.bool true) ∧ Below w.heap.size w w' :=
  CtrOK.calls okSmall (fn := Try.f9) (body := (Try.f9).body.getD .skip) (by kernel_rfl) (by kernel_rfl) (by kernel_rfl) rfl (xs := [[a], [b]]) rfl trivial ⟨arg_int ⟨by simp only [lo]; omega, by simp only [hi]; omega⟩, arg_int ⟨by simp only [lo]; omega, by simp only [hi]; omega⟩, trivial⟩
end Go.Proofs.Ytokndemdmkaofaa.scalarSmall
