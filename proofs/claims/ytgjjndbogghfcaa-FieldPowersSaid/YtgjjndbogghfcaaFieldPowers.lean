/- The statement FieldPowers: the law's walk, by the reckoning. No condition. -/
import Derived.Test.YtgjjndbogghfcaaFk8
namespace Go.Bx
theorem four_bytes {a x0 x1 x2 x3 : Int} (ha : 0 ≤ a ∧ a < 4294967296) (h0 : x0 = a % 256) (h1 : x1 = a / 2 ^ 8 % 256) (h2 : x2 = a / 2 ^ 16 % 256) (h3 : x3 = a / 2 ^ 24 % 256) : dv 256 [x0, x1, x2, x3, 0, 0, 0, 0, 0, 0, 0, 0, 0, 0, 0, 0, 0, 0, 0, 0, 0, 0, 0, 0, 0, 0, 0, 0, 0, 0, 0, 0] = a := by
  simp only [dv]; omega
theorem five_bytes {a x0 x1 x2 x3 x4 : Int} (ha : 0 ≤ a ∧ a < 8589934592) (h0 : x0 = a % 256) (h1 : x1 = a / 2 ^ 8 % 256) (h2 : x2 = a / 2 ^ 16 % 256) (h3 : x3 = a / 2 ^ 24 % 256) (h4 : x4 = a / 2 ^ 32 % 256) : dv 256 [x0, x1, x2, x3, x4, 0, 0, 0, 0, 0, 0, 0, 0, 0, 0, 0, 0, 0, 0, 0, 0, 0, 0, 0, 0, 0, 0, 0, 0, 0, 0, 0] = a := by
  simp only [dv]; omega
end Go.Bx
namespace Go.Proofs.Ytgjjndbogghfcaa
open Go.RowKit Go.Bx Go.Sx
set_option linter.unusedSimpArgs false
def cFPow : Ctr := ⟨5, 45, [.arr .u8 32, .int .u32, .int .u32], [.bool]⟩
theorem okFPow : CtrOK Try.prog sfns cFPow := by
  refine CtrOK.of okT7 mixed (lf := 300) (d := 5) rfl fun w vs xs ha _ => ?_
  obtain ⟨v, u, q, a, y, z, rfl, rfl, ⟨la, -, ia⟩, ⟨n, rfl, rfl, hn⟩, ⟨m, rfl, rfl, hm⟩⟩ := open3 ha
  have bA := bd32 la ia
  have bn : 0 ≤ n ∧ n < 4294967296 := by obtain ⟨h1, h2⟩ := hn; simp only [lo, hi] at h1 h2; omega
  have bm : 0 ≤ m ∧ m < 4294967296 := by obtain ⟨h1, h2⟩ := hm; simp only [lo, hi] at h1 h2; omega
  have hW : (8589934592 : Int) < WW := by decide
  refine Go.Sx.Way.of (dec := [false,true]) (fs := [.need 40 [], .call 34 40 [] 1, .not 35 (.v 34), .cond 35 false, .conv 36 .u8 (.v 32), .bin 37 .shr .u32 (.v 32) (.l 8), .conv 38 .u8 (.v 37), .bin 39 .shr .u32 (.v 32) (.l 16), .conv 40 .u8 (.v 39), .bin 41 .shr .u32 (.v 32) (.l 24), .conv 42 .u8 (.v 41), .conv 43 .u8 (.v 33), .bin 44 .shr .u32 (.v 33) (.l 8), .conv 45 .u8 (.v 44), .bin 46 .shr .u32 (.v 33) (.l 16), .conv 47 .u8 (.v 46), .bin 48 .shr .u32 (.v 33) (.l 24), .conv 49 .u8 (.v 48), .conv 50 .u64 (.v 32), .conv 51 .u64 (.v 33), .bin 52 .add .u64 (.v 50) (.v 51), .conv 53 .u8 (.v 52), .bin 54 .shr .u64 (.v 52) (.l 8), .conv 55 .u8 (.v 54), .bin 56 .shr .u64 (.v 52) (.l 16), .conv 57 .u8 (.v 56), .bin 58 .shr .u64 (.v 52) (.l 24), .conv 59 .u8 (.v 58), .bin 60 .shr .u64 (.v 52) (.l 32), .conv 61 .u8 (.v 60), .need 36 [[.v 0, .v 1, .v 2, .v 3, .v 4, .v 5, .v 6, .v 7, .v 8, .v 9, .v 10, .v 11, .v 12, .v 13, .v 14, .v 15, .v 16, .v 17, .v 18, .v 19, .v 20, .v 21, .v 22, .v 23, .v 24, .v 25, .v 26, .v 27, .v 28, .v 29, .v 30, .v 31], [.v 36, .v 38, .v 40, .v 42, .l 0, .l 0, .l 0, .l 0, .l 0, .l 0, .l 0, .l 0, .l 0, .l 0, .l 0, .l 0, .l 0, .l 0, .l 0, .l 0, .l 0, .l 0, .l 0, .l 0, .l 0, .l 0, .l 0, .l 0, .l 0, .l 0, .l 0, .l 0]], .call 62 36 [[.v 0, .v 1, .v 2, .v 3, .v 4, .v 5, .v 6, .v 7, .v 8, .v 9, .v 10, .v 11, .v 12, .v 13, .v 14, .v 15, .v 16, .v 17, .v 18, .v 19, .v 20, .v 21, .v 22, .v 23, .v 24, .v 25, .v 26, .v 27, .v 28, .v 29, .v 30, .v 31], [.v 36, .v 38, .v 40, .v 42, .l 0, .l 0, .l 0, .l 0, .l 0, .l 0, .l 0, .l 0, .l 0, .l 0, .l 0, .l 0, .l 0, .l 0, .l 0, .l 0, .l 0, .l 0, .l 0, .l 0, .l 0, .l 0, .l 0, .l 0, .l 0, .l 0, .l 0, .l 0]] 32, .need 36 [[.v 0, .v 1, .v 2, .v 3, .v 4, .v 5, .v 6, .v 7, .v 8, .v 9, .v 10, .v 11, .v 12, .v 13, .v 14, .v 15, .v 16, .v 17, .v 18, .v 19, .v 20, .v 21, .v 22, .v 23, .v 24, .v 25, .v 26, .v 27, .v 28, .v 29, .v 30, .v 31], [.v 43, .v 45, .v 47, .v 49, .l 0, .l 0, .l 0, .l 0, .l 0, .l 0, .l 0, .l 0, .l 0, .l 0, .l 0, .l 0, .l 0, .l 0, .l 0, .l 0, .l 0, .l 0, .l 0, .l 0, .l 0, .l 0, .l 0, .l 0, .l 0, .l 0, .l 0, .l 0]], .call 94 36 [[.v 0, .v 1, .v 2, .v 3, .v 4, .v 5, .v 6, .v 7, .v 8, .v 9, .v 10, .v 11, .v 12, .v 13, .v 14, .v 15, .v 16, .v 17, .v 18, .v 19, .v 20, .v 21, .v 22, .v 23, .v 24, .v 25, .v 26, .v 27, .v 28, .v 29, .v 30, .v 31], [.v 43, .v 45, .v 47, .v 49, .l 0, .l 0, .l 0, .l 0, .l 0, .l 0, .l 0, .l 0, .l 0, .l 0, .l 0, .l 0, .l 0, .l 0, .l 0, .l 0, .l 0, .l 0, .l 0, .l 0, .l 0, .l 0, .l 0, .l 0, .l 0, .l 0, .l 0, .l 0]] 32, .need 35 [[.v 62, .v 63, .v 64, .v 65, .v 66, .v 67, .v 68, .v 69, .v 70, .v 71, .v 72, .v 73, .v 74, .v 75, .v 76, .v 77, .v 78, .v 79, .v 80, .v 81, .v 82, .v 83, .v 84, .v 85, .v 86, .v 87, .v 88, .v 89, .v 90, .v 91, .v 92, .v 93], [.v 94, .v 95, .v 96, .v 97, .v 98, .v 99, .v 100, .v 101, .v 102, .v 103, .v 104, .v 105, .v 106, .v 107, .v 108, .v 109, .v 110, .v 111, .v 112, .v 113, .v 114, .v 115, .v 116, .v 117, .v 118, .v 119, .v 120, .v 121, .v 122, .v 123, .v 124, .v 125]], .call 126 35 [[.v 62, .v 63, .v 64, .v 65, .v 66, .v 67, .v 68, .v 69, .v 70, .v 71, .v 72, .v 73, .v 74, .v 75, .v 76, .v 77, .v 78, .v 79, .v 80, .v 81, .v 82, .v 83, .v 84, .v 85, .v 86, .v 87, .v 88, .v 89, .v 90, .v 91, .v 92, .v 93], [.v 94, .v 95, .v 96, .v 97, .v 98, .v 99, .v 100, .v 101, .v 102, .v 103, .v 104, .v 105, .v 106, .v 107, .v 108, .v 109, .v 110, .v 111, .v 112, .v 113, .v 114, .v 115, .v 116, .v 117, .v 118, .v 119, .v 120, .v 121, .v 122, .v 123, .v 124, .v 125]] 32, .need 36 [[.v 0, .v 1, .v 2, .v 3, .v 4, .v 5, .v 6, .v 7, .v 8, .v 9, .v 10, .v 11, .v 12, .v 13, .v 14, .v 15, .v 16, .v 17, .v 18, .v 19, .v 20, .v 21, .v 22, .v 23, .v 24, .v 25, .v 26, .v 27, .v 28, .v 29, .v 30, .v 31], [.v 53, .v 55, .v 57, .v 59, .v 61, .l 0, .l 0, .l 0, .l 0, .l 0, .l 0, .l 0, .l 0, .l 0, .l 0, .l 0, .l 0, .l 0, .l 0, .l 0, .l 0, .l 0, .l 0, .l 0, .l 0, .l 0, .l 0, .l 0, .l 0, .l 0, .l 0, .l 0]], .call 158 36 [[.v 0, .v 1, .v 2, .v 3, .v 4, .v 5, .v 6, .v 7, .v 8, .v 9, .v 10, .v 11, .v 12, .v 13, .v 14, .v 15, .v 16, .v 17, .v 18, .v 19, .v 20, .v 21, .v 22, .v 23, .v 24, .v 25, .v 26, .v 27, .v 28, .v 29, .v 30, .v 31], [.v 53, .v 55, .v 57, .v 59, .v 61, .l 0, .l 0, .l 0, .l 0, .l 0, .l 0, .l 0, .l 0, .l 0, .l 0, .l 0, .l 0, .l 0, .l 0, .l 0, .l 0, .l 0, .l 0, .l 0, .l 0, .l 0, .l 0, .l 0, .l 0, .l 0, .l 0, .l 0]] 32, .eqs 190 [(.v 126, .v 158), (.v 127, .v 159), (.v 128, .v 160), (.v 129, .v 161), (.v 130, .v 162), (.v 131, .v 163), (.v 132, .v 164), (.v 133, .v 165), (.v 134, .v 166), (.v 135, .v 167), (.v 136, .v 168), (.v 137, .v 169), (.v 138, .v 170), (.v 139, .v 171), (.v 140, .v 172), (.v 141, .v 173), (.v 142, .v 174), (.v 143, .v 175), (.v 144, .v 176), (.v 145, .v 177), (.v 146, .v 178), (.v 147, .v 179), (.v 148, .v 180), (.v 149, .v 181), (.v 150, .v 182), (.v 151, .v 183), (.v 152, .v 184), (.v 153, .v 185), (.v 154, .v 186), (.v 155, .v 187), (.v 156, .v 188), (.v 157, .v 189)], .cond 190 true, .need 36 [[.v 0, .v 1, .v 2, .v 3, .v 4, .v 5, .v 6, .v 7, .v 8, .v 9, .v 10, .v 11, .v 12, .v 13, .v 14, .v 15, .v 16, .v 17, .v 18, .v 19, .v 20, .v 21, .v 22, .v 23, .v 24, .v 25, .v 26, .v 27, .v 28, .v 29, .v 30, .v 31], [.l 237, .l 255, .l 255, .l 255, .l 255, .l 255, .l 255, .l 255, .l 255, .l 255, .l 255, .l 255, .l 255, .l 255, .l 255, .l 255, .l 255, .l 255, .l 255, .l 255, .l 255, .l 255, .l 255, .l 255, .l 255, .l 255, .l 255, .l 255, .l 255, .l 255, .l 255, .l 127]], .call 191 36 [[.v 0, .v 1, .v 2, .v 3, .v 4, .v 5, .v 6, .v 7, .v 8, .v 9, .v 10, .v 11, .v 12, .v 13, .v 14, .v 15, .v 16, .v 17, .v 18, .v 19, .v 20, .v 21, .v 22, .v 23, .v 24, .v 25, .v 26, .v 27, .v 28, .v 29, .v 30, .v 31], [.l 237, .l 255, .l 255, .l 255, .l 255, .l 255, .l 255, .l 255, .l 255, .l 255, .l 255, .l 255, .l 255, .l 255, .l 255, .l 255, .l 255, .l 255, .l 255, .l 255, .l 255, .l 255, .l 255, .l 255, .l 255, .l 255, .l 255, .l 255, .l 255, .l 255, .l 255, .l 127]] 32, .need 31 [[.v 0, .v 1, .v 2, .v 3, .v 4, .v 5, .v 6, .v 7, .v 8, .v 9, .v 10, .v 11, .v 12, .v 13, .v 14, .v 15, .v 16, .v 17, .v 18, .v 19, .v 20, .v 21, .v 22, .v 23, .v 24, .v 25, .v 26, .v 27, .v 28, .v 29, .v 30, .v 31]], .call 223 31 [[.v 0, .v 1, .v 2, .v 3, .v 4, .v 5, .v 6, .v 7, .v 8, .v 9, .v 10, .v 11, .v 12, .v 13, .v 14, .v 15, .v 16, .v 17, .v 18, .v 19, .v 20, .v 21, .v 22, .v 23, .v 24, .v 25, .v 26, .v 27, .v 28, .v 29, .v 30, .v 31]] 32, .eqs 255 [(.v 191, .v 223), (.v 192, .v 224), (.v 193, .v 225), (.v 194, .v 226), (.v 195, .v 227), (.v 196, .v 228), (.v 197, .v 229), (.v 198, .v 230), (.v 199, .v 231), (.v 200, .v 232), (.v 201, .v 233), (.v 202, .v 234), (.v 203, .v 235), (.v 204, .v 236), (.v 205, .v 237), (.v 206, .v 238), (.v 207, .v 239), (.v 208, .v 240), (.v 209, .v 241), (.v 210, .v 242), (.v 211, .v 243), (.v 212, .v 244), (.v 213, .v 245), (.v 214, .v 246), (.v 215, .v 247), (.v 216, .v 248), (.v 217, .v 249), (.v 218, .v 250), (.v 219, .v 251), (.v 220, .v 252), (.v 221, .v 253), (.v 222, .v 254)]]) (refs := [.v 255]) (by kernel_rfl) fun ρ hρ hd => ?_
  have ea : seg ρ 0 32 = a := seg_of (fun i hi => by
    rw [Nat.zero_add, hρ i (by show i < 34; omega)]
    simp only [flat, List.flatten_cons, List.flatten_nil, List.append_nil, List.getD_eq_getElem?_getD]
    rw [List.getElem?_append_left (by omega)]) la
  have rn : ρ 32 = n := by
    rw [hρ 32 (by decide)]
    simp only [flat, List.flatten_cons, List.flatten_nil, List.append_nil, List.getD_eq_getElem?_getD]
    rw [List.getElem?_append_right (by omega), la]; rfl
  have rm : ρ 33 = m := by
    rw [hρ 33 (by decide)]
    simp only [flat, List.flatten_cons, List.flatten_nil, List.append_nil, List.getD_eq_getElem?_getD]
    rw [List.getElem?_append_right (by omega), la]; rfl
  simp only [D_nil, D_add, D_sub, D_mul, D_and, D_or, D_xor, D_shl, D_shr, D_andNot, D_quo, D_rem, D_add_i64, D_sub_i64, D_mul_i64, D_add_u32, D_sub_u32, D_mul_u32, D_add_u8, D_sub_u8, D_mul_u8, D_eql, D_neq, D_lss, D_leq, D_gtr, D_geq, D_not, D_conv, D_eqs, D_call, D_cond, D_need, D_idx, D_sel, D_upd, D_shv, D_beq, List.map_cons, List.map_nil, Ref.den, rn, rm, c_u8, c_u64] at hd
  obtain ⟨h34, h35, h36, h37, h38, h39, h40, h41, h42, h43, h44, h45, h46, h47, h48, h49, h50, h51, h52, h53, h54, h55, h56, h57, h58, h59, h60, h61, h62, h94, h126, h158, h190, h191, h223, h255, -⟩ := hd
  have s34 : ρ 34 = 1 := h34 0 (by decide)
  have s62 : seg ρ 62 32 = dg 256 32 (powZ (dv 256 (seg ρ 0 32)) (dv 256 [ρ 36, ρ 38, ρ 40, ρ 42, 0, 0, 0, 0, 0, 0, 0, 0, 0, 0, 0, 0, 0, 0, 0, 0, 0, 0, 0, 0, 0, 0, 0, 0, 0, 0, 0, 0]) 256 % PP) := seg_of h62 (by first | exact dg_len _ _ _ | rfl)
  have s94 : seg ρ 94 32 = dg 256 32 (powZ (dv 256 (seg ρ 0 32)) (dv 256 [ρ 43, ρ 45, ρ 47, ρ 49, 0, 0, 0, 0, 0, 0, 0, 0, 0, 0, 0, 0, 0, 0, 0, 0, 0, 0, 0, 0, 0, 0, 0, 0, 0, 0, 0, 0]) 256 % PP) := seg_of h94 (by first | exact dg_len _ _ _ | rfl)
  have s126 : seg ρ 126 32 = dg 256 32 (dv 256 (seg ρ 62 32) * dv 256 (seg ρ 94 32) % PP) := seg_of h126 (by first | exact dg_len _ _ _ | rfl)
  have s158 : seg ρ 158 32 = dg 256 32 (powZ (dv 256 (seg ρ 0 32)) (dv 256 [ρ 53, ρ 55, ρ 57, ρ 59, ρ 61, 0, 0, 0, 0, 0, 0, 0, 0, 0, 0, 0, 0, 0, 0, 0, 0, 0, 0, 0, 0, 0, 0, 0, 0, 0, 0, 0]) 256 % PP) := seg_of h158 (by first | exact dg_len _ _ _ | rfl)
  have q190 : ρ 190 = b2i (decide ((seg ρ 126 32) = (seg ρ 158 32))) := h190.trans (congrArg b2i eqs_lists)
  have s191 : seg ρ 191 32 = dg 256 32 (powZ (dv 256 (seg ρ 0 32)) (dv 256 [237, 255, 255, 255, 255, 255, 255, 255, 255, 255, 255, 255, 255, 255, 255, 255, 255, 255, 255, 255, 255, 255, 255, 255, 255, 255, 255, 255, 255, 255, 255, 127]) 256 % PP) := seg_of h191 (by first | exact dg_len _ _ _ | rfl)
  have s223 : seg ρ 223 32 = dg 256 32 (dv 256 (seg ρ 0 32) % PP) := seg_of h223 (by first | exact dg_len _ _ _ | rfl)
  have q255 : ρ 255 = b2i (decide ((seg ρ 191 32) = (seg ρ 223 32))) := h255.trans (congrArg b2i eqs_lists)
  have k35 := not_bit h35 s34
  have wn : dv 256 [ρ 36, ρ 38, ρ 40, ρ 42, 0, 0, 0, 0, 0, 0, 0, 0, 0, 0, 0, 0, 0, 0, 0, 0, 0, 0, 0, 0, 0, 0, 0, 0, 0, 0, 0, 0] = n := four_bytes bn h36 (by rw [h38, u_shr 8 (by decide) h37 rfl]) (by rw [h40, u_shr 16 (by decide) h39 rfl]) (by rw [h42, u_shr 24 (by decide) h41 rfl])
  have wm : dv 256 [ρ 43, ρ 45, ρ 47, ρ 49, 0, 0, 0, 0, 0, 0, 0, 0, 0, 0, 0, 0, 0, 0, 0, 0, 0, 0, 0, 0, 0, 0, 0, 0, 0, 0, 0, 0] = m := four_bytes bm h43 (by rw [h45, u_shr 8 (by decide) h44 rfl]) (by rw [h47, u_shr 16 (by decide) h46 rfl]) (by rw [h49, u_shr 24 (by decide) h48 rfl])
  have e52 : ρ 52 = n + m := by rw [h52, h50, h51]; omega
  have ws : dv 256 [ρ 53, ρ 55, ρ 57, ρ 59, ρ 61, 0, 0, 0, 0, 0, 0, 0, 0, 0, 0, 0, 0, 0, 0, 0, 0, 0, 0, 0, 0, 0, 0, 0, 0, 0, 0, 0] = n + m := five_bytes (by omega) (by rw [h53, e52]) (by rw [h55, u_shr 8 (by decide) h54 rfl, e52]) (by rw [h57, u_shr 16 (by decide) h56 rfl, e52]) (by rw [h59, u_shr 24 (by decide) h58 rfl, e52]) (by rw [h61, u_shr 32 (by decide) h60 rfl, e52])
  have wp : dv 256 [237, 255, 255, 255, 255, 255, 255, 255, 255, 255, 255, 255, 255, 255, 255, 255, 255, 255, 255, 255, 255, 255, 255, 255, 255, 255, 255, 255, 255, 255, 255, 127] = PP := by decide +kernel
  rw [ea, wn, powZ_all _ bn.1 (by omega)] at s62
  rw [ea, wm, powZ_all _ bm.1 (by omega)] at s94
  rw [ea, ws, powZ_all _ (by omega) (by omega)] at s158
  rw [ea, wp, powP bA.1] at s191
  rw [ea] at s223
  rw [s62, s94, dvq, dvq, mulP, mulP', ← Int.pow_add, show n.toNat + m.toNat = (n + m).toNat by omega] at s126
  rw [s126, s158] at q190
  rw [s191, s223] at q255
  have k190 := bit_true q190 (decide_eq_true rfl)
  have k255 : ρ 255 = 1 := q255.trans (by rw [decide_eq_true rfl]; rfl)
  refine ⟨?_, ?_⟩
  · simp only [G_nil, G_bin, G_cmp, G_not, G_conv, G_eqs, G_call, G_cond, G_need, G_idx, G_sel, G_upd, G_shv, G_beq, List.map_cons, List.map_nil, Ref.den]
    exact ⟨trivial, k35, trivial, trivial, trivial, trivial, k190, trivial, trivial, trivial⟩
  · show [ρ 255] = [1]
    rw [k255]
#print axioms okFPow
end Go.Proofs.Ytgjjndbogghfcaa
namespace Go.Proofs.Ytgjjndbogghfcaa.fieldPowers
open Go.RowKit Go.Bx Go.Sx
theorem walk (a : List UInt8) (na : a.length = 32) (n : Int) (hn : 0 ≤ n ∧ n < 4294967296) (m : Int) (hm : 0 ≤ m ∧ m < 4294967296) (w : World) :
    Calls Try.prog 5 #[.agg (bvs a).toArray, .int .u32 n, .int .u32 m] w fun e w' => e = .returned (.bool true) ∧ Below w.heap.size w w' :=
  CtrOK.calls okFPow (fn := Try.f5) (body := (Try.f5).body.getD .skip) (by kernel_rfl) (by kernel_rfl) (by kernel_rfl) rfl (xs := [a.map fun b => (b.toNat : Int), [n], [m]]) rfl trivial ⟨arg_u8 a na, arg_int ⟨by simp only [lo]; omega, by simp only [hi]; omega⟩, arg_int ⟨by simp only [lo]; omega, by simp only [hi]; omega⟩, trivial⟩
end Go.Proofs.Ytgjjndbogghfcaa.fieldPowers
