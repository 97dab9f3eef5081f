/- The statement FieldInverts: the law's walk, by the reckoning. No condition. -/
import Derived.Test.YtgjjndbogghfcaaFk8
namespace Go.Proofs.Ytgjjndbogghfcaa
open Go.RowKit Go.Bx Go.Sx
set_option linter.unusedSimpArgs false
def cFInv : Ctr := ⟨3, 44, [.arr .u8 32, .arr .u8 32], [.bool]⟩
theorem dg_zero {z : Int} (h : z % PP = 0) : dg 256 32 (z % PP) = [0, 0, 0, 0, 0, 0, 0, 0, 0, 0, 0, 0, 0, 0, 0, 0, 0, 0, 0, 0, 0, 0, 0, 0, 0, 0, 0, 0, 0, 0, 0, 0] := by rw [h]; decide
theorem dg_one {z : Int} (h : z % PP = 1) : dg 256 32 (z % PP) = [1, 0, 0, 0, 0, 0, 0, 0, 0, 0, 0, 0, 0, 0, 0, 0, 0, 0, 0, 0, 0, 0, 0, 0, 0, 0, 0, 0, 0, 0, 0, 0] := by rw [h]; decide
theorem okFInv : CtrOK Try.prog sfns cFInv := by
  refine CtrOK.of okT7 mixed (lf := 300) (d := 5) rfl fun w vs xs ha _ => ?_
  obtain ⟨v, u, a, b, rfl, rfl, ⟨la, -, ia⟩, ⟨lb, -, ib⟩⟩ := open2 ha
  have bA := bd32 la ia
  have bB := bd32 lb ib
  obtain ⟨e, he, hinv, hzero⟩ := invZ
  show Go.Sx.Way Try.prog sfns T7 300 5 cFInv [a, b] [1]
  by_cases h0 : dv 256 a % PP = 0
  · refine Go.Sx.Way.of (dec := [false,true]) (fs := [.need 40 [], .call 64 40 [] 1, .not 65 (.v 64), .cond 65 false, .need 37 [[.v 0, .v 1, .v 2, .v 3, .v 4, .v 5, .v 6, .v 7, .v 8, .v 9, .v 10, .v 11, .v 12, .v 13, .v 14, .v 15, .v 16, .v 17, .v 18, .v 19, .v 20, .v 21, .v 22, .v 23, .v 24, .v 25, .v 26, .v 27, .v 28, .v 29, .v 30, .v 31]], .call 66 37 [[.v 0, .v 1, .v 2, .v 3, .v 4, .v 5, .v 6, .v 7, .v 8, .v 9, .v 10, .v 11, .v 12, .v 13, .v 14, .v 15, .v 16, .v 17, .v 18, .v 19, .v 20, .v 21, .v 22, .v 23, .v 24, .v 25, .v 26, .v 27, .v 28, .v 29, .v 30, .v 31]] 32, .need 31 [[.v 0, .v 1, .v 2, .v 3, .v 4, .v 5, .v 6, .v 7, .v 8, .v 9, .v 10, .v 11, .v 12, .v 13, .v 14, .v 15, .v 16, .v 17, .v 18, .v 19, .v 20, .v 21, .v 22, .v 23, .v 24, .v 25, .v 26, .v 27, .v 28, .v 29, .v 30, .v 31]], .call 98 31 [[.v 0, .v 1, .v 2, .v 3, .v 4, .v 5, .v 6, .v 7, .v 8, .v 9, .v 10, .v 11, .v 12, .v 13, .v 14, .v 15, .v 16, .v 17, .v 18, .v 19, .v 20, .v 21, .v 22, .v 23, .v 24, .v 25, .v 26, .v 27, .v 28, .v 29, .v 30, .v 31]] 32, .eqs 130 [(.v 98, .l 0), (.v 99, .l 0), (.v 100, .l 0), (.v 101, .l 0), (.v 102, .l 0), (.v 103, .l 0), (.v 104, .l 0), (.v 105, .l 0), (.v 106, .l 0), (.v 107, .l 0), (.v 108, .l 0), (.v 109, .l 0), (.v 110, .l 0), (.v 111, .l 0), (.v 112, .l 0), (.v 113, .l 0), (.v 114, .l 0), (.v 115, .l 0), (.v 116, .l 0), (.v 117, .l 0), (.v 118, .l 0), (.v 119, .l 0), (.v 120, .l 0), (.v 121, .l 0), (.v 122, .l 0), (.v 123, .l 0), (.v 124, .l 0), (.v 125, .l 0), (.v 126, .l 0), (.v 127, .l 0), (.v 128, .l 0), (.v 129, .l 0)], .cond 130 true, .eqs 131 [(.v 66, .l 0), (.v 67, .l 0), (.v 68, .l 0), (.v 69, .l 0), (.v 70, .l 0), (.v 71, .l 0), (.v 72, .l 0), (.v 73, .l 0), (.v 74, .l 0), (.v 75, .l 0), (.v 76, .l 0), (.v 77, .l 0), (.v 78, .l 0), (.v 79, .l 0), (.v 80, .l 0), (.v 81, .l 0), (.v 82, .l 0), (.v 83, .l 0), (.v 84, .l 0), (.v 85, .l 0), (.v 86, .l 0), (.v 87, .l 0), (.v 88, .l 0), (.v 89, .l 0), (.v 90, .l 0), (.v 91, .l 0), (.v 92, .l 0), (.v 93, .l 0), (.v 94, .l 0), (.v 95, .l 0), (.v 96, .l 0), (.v 97, .l 0)]]) (refs := [.v 131]) (by kernel_rfl) fun ρ hρ hd => ?_
    obtain ⟨ea, eb⟩ := seg2 la lb hρ
    simp only [D_nil, D_add, D_sub, D_mul, D_and, D_or, D_xor, D_shl, D_shr, D_andNot, D_quo, D_rem, D_add_i64, D_sub_i64, D_mul_i64, D_add_u32, D_sub_u32, D_mul_u32, D_add_u8, D_sub_u8, D_mul_u8, D_eql, D_neq, D_lss, D_leq, D_gtr, D_geq, D_not, D_conv, D_eqs, D_call, D_cond, D_need, D_idx, D_sel, D_upd, D_shv, D_beq, List.map_cons, List.map_nil, Ref.den] at hd
    obtain ⟨h64, h65, h66, h98, h130, h131, -⟩ := hd
    have s64 : ρ 64 = 1 := h64 0 (by decide)
    have s66 : seg ρ 66 32 = dg 256 32 (powZ (dv 256 (seg ρ 0 32)) (PP - 2) 256 % PP) := seg_of h66 (by first | exact dg_len _ _ _ | rfl)
    have s98 : seg ρ 98 32 = dg 256 32 (dv 256 (seg ρ 0 32) % PP) := seg_of h98 (by first | exact dg_len _ _ _ | rfl)
    have q130 : ρ 130 = b2i (decide ((seg ρ 98 32) = [0, 0, 0, 0, 0, 0, 0, 0, 0, 0, 0, 0, 0, 0, 0, 0, 0, 0, 0, 0, 0, 0, 0, 0, 0, 0, 0, 0, 0, 0, 0, 0])) := h130.trans (congrArg b2i eqs_lists)
    have q131 : ρ 131 = b2i (decide ((seg ρ 66 32) = [0, 0, 0, 0, 0, 0, 0, 0, 0, 0, 0, 0, 0, 0, 0, 0, 0, 0, 0, 0, 0, 0, 0, 0, 0, 0, 0, 0, 0, 0, 0, 0])) := h131.trans (congrArg b2i eqs_lists)
    have k65 := not_bit h65 s64
    rw [ea, he] at s66
    rw [ea] at s98
    rw [s98, dg_zero h0] at q130
    rw [s66, dg_zero (hzero _ h0)] at q131
    have k130 := bit_true q130 (decide_eq_true rfl)
    have k131 : ρ 131 = 1 := q131.trans (by rw [decide_eq_true rfl]; rfl)
    refine ⟨?_, ?_⟩
    · simp only [G_nil, G_bin, G_cmp, G_not, G_conv, G_eqs, G_call, G_cond, G_need, G_idx, G_sel, G_upd, G_shv, G_beq, List.map_cons, List.map_nil, Ref.den]
      exact ⟨trivial, k65, trivial, trivial, k130, trivial⟩
    · show [ρ 131] = [1]
      rw [k131]
  · refine Go.Sx.Way.of (dec := [false,false,true,true]) (fs := [.need 40 [], .call 64 40 [] 1, .not 65 (.v 64), .cond 65 false, .need 37 [[.v 0, .v 1, .v 2, .v 3, .v 4, .v 5, .v 6, .v 7, .v 8, .v 9, .v 10, .v 11, .v 12, .v 13, .v 14, .v 15, .v 16, .v 17, .v 18, .v 19, .v 20, .v 21, .v 22, .v 23, .v 24, .v 25, .v 26, .v 27, .v 28, .v 29, .v 30, .v 31]], .call 66 37 [[.v 0, .v 1, .v 2, .v 3, .v 4, .v 5, .v 6, .v 7, .v 8, .v 9, .v 10, .v 11, .v 12, .v 13, .v 14, .v 15, .v 16, .v 17, .v 18, .v 19, .v 20, .v 21, .v 22, .v 23, .v 24, .v 25, .v 26, .v 27, .v 28, .v 29, .v 30, .v 31]] 32, .need 31 [[.v 0, .v 1, .v 2, .v 3, .v 4, .v 5, .v 6, .v 7, .v 8, .v 9, .v 10, .v 11, .v 12, .v 13, .v 14, .v 15, .v 16, .v 17, .v 18, .v 19, .v 20, .v 21, .v 22, .v 23, .v 24, .v 25, .v 26, .v 27, .v 28, .v 29, .v 30, .v 31]], .call 98 31 [[.v 0, .v 1, .v 2, .v 3, .v 4, .v 5, .v 6, .v 7, .v 8, .v 9, .v 10, .v 11, .v 12, .v 13, .v 14, .v 15, .v 16, .v 17, .v 18, .v 19, .v 20, .v 21, .v 22, .v 23, .v 24, .v 25, .v 26, .v 27, .v 28, .v 29, .v 30, .v 31]] 32, .eqs 130 [(.v 98, .l 0), (.v 99, .l 0), (.v 100, .l 0), (.v 101, .l 0), (.v 102, .l 0), (.v 103, .l 0), (.v 104, .l 0), (.v 105, .l 0), (.v 106, .l 0), (.v 107, .l 0), (.v 108, .l 0), (.v 109, .l 0), (.v 110, .l 0), (.v 111, .l 0), (.v 112, .l 0), (.v 113, .l 0), (.v 114, .l 0), (.v 115, .l 0), (.v 116, .l 0), (.v 117, .l 0), (.v 118, .l 0), (.v 119, .l 0), (.v 120, .l 0), (.v 121, .l 0), (.v 122, .l 0), (.v 123, .l 0), (.v 124, .l 0), (.v 125, .l 0), (.v 126, .l 0), (.v 127, .l 0), (.v 128, .l 0), (.v 129, .l 0)], .cond 130 false, .need 35 [[.v 0, .v 1, .v 2, .v 3, .v 4, .v 5, .v 6, .v 7, .v 8, .v 9, .v 10, .v 11, .v 12, .v 13, .v 14, .v 15, .v 16, .v 17, .v 18, .v 19, .v 20, .v 21, .v 22, .v 23, .v 24, .v 25, .v 26, .v 27, .v 28, .v 29, .v 30, .v 31], [.v 66, .v 67, .v 68, .v 69, .v 70, .v 71, .v 72, .v 73, .v 74, .v 75, .v 76, .v 77, .v 78, .v 79, .v 80, .v 81, .v 82, .v 83, .v 84, .v 85, .v 86, .v 87, .v 88, .v 89, .v 90, .v 91, .v 92, .v 93, .v 94, .v 95, .v 96, .v 97]], .call 131 35 [[.v 0, .v 1, .v 2, .v 3, .v 4, .v 5, .v 6, .v 7, .v 8, .v 9, .v 10, .v 11, .v 12, .v 13, .v 14, .v 15, .v 16, .v 17, .v 18, .v 19, .v 20, .v 21, .v 22, .v 23, .v 24, .v 25, .v 26, .v 27, .v 28, .v 29, .v 30, .v 31], [.v 66, .v 67, .v 68, .v 69, .v 70, .v 71, .v 72, .v 73, .v 74, .v 75, .v 76, .v 77, .v 78, .v 79, .v 80, .v 81, .v 82, .v 83, .v 84, .v 85, .v 86, .v 87, .v 88, .v 89, .v 90, .v 91, .v 92, .v 93, .v 94, .v 95, .v 96, .v 97]] 32, .eqs 163 [(.v 131, .l 1), (.v 132, .l 0), (.v 133, .l 0), (.v 134, .l 0), (.v 135, .l 0), (.v 136, .l 0), (.v 137, .l 0), (.v 138, .l 0), (.v 139, .l 0), (.v 140, .l 0), (.v 141, .l 0), (.v 142, .l 0), (.v 143, .l 0), (.v 144, .l 0), (.v 145, .l 0), (.v 146, .l 0), (.v 147, .l 0), (.v 148, .l 0), (.v 149, .l 0), (.v 150, .l 0), (.v 151, .l 0), (.v 152, .l 0), (.v 153, .l 0), (.v 154, .l 0), (.v 155, .l 0), (.v 156, .l 0), (.v 157, .l 0), (.v 158, .l 0), (.v 159, .l 0), (.v 160, .l 0), (.v 161, .l 0), (.v 162, .l 0)], .cond 163 true, .need 37 [[.v 66, .v 67, .v 68, .v 69, .v 70, .v 71, .v 72, .v 73, .v 74, .v 75, .v 76, .v 77, .v 78, .v 79, .v 80, .v 81, .v 82, .v 83, .v 84, .v 85, .v 86, .v 87, .v 88, .v 89, .v 90, .v 91, .v 92, .v 93, .v 94, .v 95, .v 96, .v 97]], .call 164 37 [[.v 66, .v 67, .v 68, .v 69, .v 70, .v 71, .v 72, .v 73, .v 74, .v 75, .v 76, .v 77, .v 78, .v 79, .v 80, .v 81, .v 82, .v 83, .v 84, .v 85, .v 86, .v 87, .v 88, .v 89, .v 90, .v 91, .v 92, .v 93, .v 94, .v 95, .v 96, .v 97]] 32, .need 31 [[.v 0, .v 1, .v 2, .v 3, .v 4, .v 5, .v 6, .v 7, .v 8, .v 9, .v 10, .v 11, .v 12, .v 13, .v 14, .v 15, .v 16, .v 17, .v 18, .v 19, .v 20, .v 21, .v 22, .v 23, .v 24, .v 25, .v 26, .v 27, .v 28, .v 29, .v 30, .v 31]], .call 196 31 [[.v 0, .v 1, .v 2, .v 3, .v 4, .v 5, .v 6, .v 7, .v 8, .v 9, .v 10, .v 11, .v 12, .v 13, .v 14, .v 15, .v 16, .v 17, .v 18, .v 19, .v 20, .v 21, .v 22, .v 23, .v 24, .v 25, .v 26, .v 27, .v 28, .v 29, .v 30, .v 31]] 32, .eqs 228 [(.v 164, .v 196), (.v 165, .v 197), (.v 166, .v 198), (.v 167, .v 199), (.v 168, .v 200), (.v 169, .v 201), (.v 170, .v 202), (.v 171, .v 203), (.v 172, .v 204), (.v 173, .v 205), (.v 174, .v 206), (.v 175, .v 207), (.v 176, .v 208), (.v 177, .v 209), (.v 178, .v 210), (.v 179, .v 211), (.v 180, .v 212), (.v 181, .v 213), (.v 182, .v 214), (.v 183, .v 215), (.v 184, .v 216), (.v 185, .v 217), (.v 186, .v 218), (.v 187, .v 219), (.v 188, .v 220), (.v 189, .v 221), (.v 190, .v 222), (.v 191, .v 223), (.v 192, .v 224), (.v 193, .v 225), (.v 194, .v 226), (.v 195, .v 227)], .cond 228 true, .need 35 [[.v 0, .v 1, .v 2, .v 3, .v 4, .v 5, .v 6, .v 7, .v 8, .v 9, .v 10, .v 11, .v 12, .v 13, .v 14, .v 15, .v 16, .v 17, .v 18, .v 19, .v 20, .v 21, .v 22, .v 23, .v 24, .v 25, .v 26, .v 27, .v 28, .v 29, .v 30, .v 31], [.v 32, .v 33, .v 34, .v 35, .v 36, .v 37, .v 38, .v 39, .v 40, .v 41, .v 42, .v 43, .v 44, .v 45, .v 46, .v 47, .v 48, .v 49, .v 50, .v 51, .v 52, .v 53, .v 54, .v 55, .v 56, .v 57, .v 58, .v 59, .v 60, .v 61, .v 62, .v 63]], .call 229 35 [[.v 0, .v 1, .v 2, .v 3, .v 4, .v 5, .v 6, .v 7, .v 8, .v 9, .v 10, .v 11, .v 12, .v 13, .v 14, .v 15, .v 16, .v 17, .v 18, .v 19, .v 20, .v 21, .v 22, .v 23, .v 24, .v 25, .v 26, .v 27, .v 28, .v 29, .v 30, .v 31], [.v 32, .v 33, .v 34, .v 35, .v 36, .v 37, .v 38, .v 39, .v 40, .v 41, .v 42, .v 43, .v 44, .v 45, .v 46, .v 47, .v 48, .v 49, .v 50, .v 51, .v 52, .v 53, .v 54, .v 55, .v 56, .v 57, .v 58, .v 59, .v 60, .v 61, .v 62, .v 63]] 32, .need 37 [[.v 229, .v 230, .v 231, .v 232, .v 233, .v 234, .v 235, .v 236, .v 237, .v 238, .v 239, .v 240, .v 241, .v 242, .v 243, .v 244, .v 245, .v 246, .v 247, .v 248, .v 249, .v 250, .v 251, .v 252, .v 253, .v 254, .v 255, .v 256, .v 257, .v 258, .v 259, .v 260]], .call 261 37 [[.v 229, .v 230, .v 231, .v 232, .v 233, .v 234, .v 235, .v 236, .v 237, .v 238, .v 239, .v 240, .v 241, .v 242, .v 243, .v 244, .v 245, .v 246, .v 247, .v 248, .v 249, .v 250, .v 251, .v 252, .v 253, .v 254, .v 255, .v 256, .v 257, .v 258, .v 259, .v 260]] 32, .need 35 [[.v 261, .v 262, .v 263, .v 264, .v 265, .v 266, .v 267, .v 268, .v 269, .v 270, .v 271, .v 272, .v 273, .v 274, .v 275, .v 276, .v 277, .v 278, .v 279, .v 280, .v 281, .v 282, .v 283, .v 284, .v 285, .v 286, .v 287, .v 288, .v 289, .v 290, .v 291, .v 292], [.l 1, .l 0, .l 0, .l 0, .l 0, .l 0, .l 0, .l 0, .l 0, .l 0, .l 0, .l 0, .l 0, .l 0, .l 0, .l 0, .l 0, .l 0, .l 0, .l 0, .l 0, .l 0, .l 0, .l 0, .l 0, .l 0, .l 0, .l 0, .l 0, .l 0, .l 0, .l 0]], .call 293 35 [[.v 261, .v 262, .v 263, .v 264, .v 265, .v 266, .v 267, .v 268, .v 269, .v 270, .v 271, .v 272, .v 273, .v 274, .v 275, .v 276, .v 277, .v 278, .v 279, .v 280, .v 281, .v 282, .v 283, .v 284, .v 285, .v 286, .v 287, .v 288, .v 289, .v 290, .v 291, .v 292], [.l 1, .l 0, .l 0, .l 0, .l 0, .l 0, .l 0, .l 0, .l 0, .l 0, .l 0, .l 0, .l 0, .l 0, .l 0, .l 0, .l 0, .l 0, .l 0, .l 0, .l 0, .l 0, .l 0, .l 0, .l 0, .l 0, .l 0, .l 0, .l 0, .l 0, .l 0, .l 0]] 32, .need 37 [[.v 32, .v 33, .v 34, .v 35, .v 36, .v 37, .v 38, .v 39, .v 40, .v 41, .v 42, .v 43, .v 44, .v 45, .v 46, .v 47, .v 48, .v 49, .v 50, .v 51, .v 52, .v 53, .v 54, .v 55, .v 56, .v 57, .v 58, .v 59, .v 60, .v 61, .v 62, .v 63]], .call 325 37 [[.v 32, .v 33, .v 34, .v 35, .v 36, .v 37, .v 38, .v 39, .v 40, .v 41, .v 42, .v 43, .v 44, .v 45, .v 46, .v 47, .v 48, .v 49, .v 50, .v 51, .v 52, .v 53, .v 54, .v 55, .v 56, .v 57, .v 58, .v 59, .v 60, .v 61, .v 62, .v 63]] 32, .need 35 [[.v 66, .v 67, .v 68, .v 69, .v 70, .v 71, .v 72, .v 73, .v 74, .v 75, .v 76, .v 77, .v 78, .v 79, .v 80, .v 81, .v 82, .v 83, .v 84, .v 85, .v 86, .v 87, .v 88, .v 89, .v 90, .v 91, .v 92, .v 93, .v 94, .v 95, .v 96, .v 97], [.v 325, .v 326, .v 327, .v 328, .v 329, .v 330, .v 331, .v 332, .v 333, .v 334, .v 335, .v 336, .v 337, .v 338, .v 339, .v 340, .v 341, .v 342, .v 343, .v 344, .v 345, .v 346, .v 347, .v 348, .v 349, .v 350, .v 351, .v 352, .v 353, .v 354, .v 355, .v 356]], .call 357 35 [[.v 66, .v 67, .v 68, .v 69, .v 70, .v 71, .v 72, .v 73, .v 74, .v 75, .v 76, .v 77, .v 78, .v 79, .v 80, .v 81, .v 82, .v 83, .v 84, .v 85, .v 86, .v 87, .v 88, .v 89, .v 90, .v 91, .v 92, .v 93, .v 94, .v 95, .v 96, .v 97], [.v 325, .v 326, .v 327, .v 328, .v 329, .v 330, .v 331, .v 332, .v 333, .v 334, .v 335, .v 336, .v 337, .v 338, .v 339, .v 340, .v 341, .v 342, .v 343, .v 344, .v 345, .v 346, .v 347, .v 348, .v 349, .v 350, .v 351, .v 352, .v 353, .v 354, .v 355, .v 356]] 32, .eqs 389 [(.v 293, .v 357), (.v 294, .v 358), (.v 295, .v 359), (.v 296, .v 360), (.v 297, .v 361), (.v 298, .v 362), (.v 299, .v 363), (.v 300, .v 364), (.v 301, .v 365), (.v 302, .v 366), (.v 303, .v 367), (.v 304, .v 368), (.v 305, .v 369), (.v 306, .v 370), (.v 307, .v 371), (.v 308, .v 372), (.v 309, .v 373), (.v 310, .v 374), (.v 311, .v 375), (.v 312, .v 376), (.v 313, .v 377), (.v 314, .v 378), (.v 315, .v 379), (.v 316, .v 380), (.v 317, .v 381), (.v 318, .v 382), (.v 319, .v 383), (.v 320, .v 384), (.v 321, .v 385), (.v 322, .v 386), (.v 323, .v 387), (.v 324, .v 388)]]) (refs := [.v 389]) (by kernel_rfl) fun ρ hρ hd => ?_
    obtain ⟨ea, eb⟩ := seg2 la lb hρ
    simp only [D_nil, D_add, D_sub, D_mul, D_and, D_or, D_xor, D_shl, D_shr, D_andNot, D_quo, D_rem, D_add_i64, D_sub_i64, D_mul_i64, D_add_u32, D_sub_u32, D_mul_u32, D_add_u8, D_sub_u8, D_mul_u8, D_eql, D_neq, D_lss, D_leq, D_gtr, D_geq, D_not, D_conv, D_eqs, D_call, D_cond, D_need, D_idx, D_sel, D_upd, D_shv, D_beq, List.map_cons, List.map_nil, Ref.den] at hd
    obtain ⟨h64, h65, h66, h98, h130, h131, h163, h164, h196, h228, h229, h261, h293, h325, h357, h389, -⟩ := hd
    have s64 : ρ 64 = 1 := h64 0 (by decide)
    have s66 : seg ρ 66 32 = dg 256 32 (powZ (dv 256 (seg ρ 0 32)) (PP - 2) 256 % PP) := seg_of h66 (by first | exact dg_len _ _ _ | rfl)
    have s98 : seg ρ 98 32 = dg 256 32 (dv 256 (seg ρ 0 32) % PP) := seg_of h98 (by first | exact dg_len _ _ _ | rfl)
    have q130 : ρ 130 = b2i (decide ((seg ρ 98 32) = [0, 0, 0, 0, 0, 0, 0, 0, 0, 0, 0, 0, 0, 0, 0, 0, 0, 0, 0, 0, 0, 0, 0, 0, 0, 0, 0, 0, 0, 0, 0, 0])) := h130.trans (congrArg b2i eqs_lists)
    have s131 : seg ρ 131 32 = dg 256 32 (dv 256 (seg ρ 0 32) * dv 256 (seg ρ 66 32) % PP) := seg_of h131 (by first | exact dg_len _ _ _ | rfl)
    have q163 : ρ 163 = b2i (decide ((seg ρ 131 32) = [1, 0, 0, 0, 0, 0, 0, 0, 0, 0, 0, 0, 0, 0, 0, 0, 0, 0, 0, 0, 0, 0, 0, 0, 0, 0, 0, 0, 0, 0, 0, 0])) := h163.trans (congrArg b2i eqs_lists)
    have s164 : seg ρ 164 32 = dg 256 32 (powZ (dv 256 (seg ρ 66 32)) (PP - 2) 256 % PP) := seg_of h164 (by first | exact dg_len _ _ _ | rfl)
    have s196 : seg ρ 196 32 = dg 256 32 (dv 256 (seg ρ 0 32) % PP) := seg_of h196 (by first | exact dg_len _ _ _ | rfl)
    have q228 : ρ 228 = b2i (decide ((seg ρ 164 32) = (seg ρ 196 32))) := h228.trans (congrArg b2i eqs_lists)
    have s229 : seg ρ 229 32 = dg 256 32 (dv 256 (seg ρ 0 32) * dv 256 (seg ρ 32 32) % PP) := seg_of h229 (by first | exact dg_len _ _ _ | rfl)
    have s261 : seg ρ 261 32 = dg 256 32 (powZ (dv 256 (seg ρ 229 32)) (PP - 2) 256 % PP) := seg_of h261 (by first | exact dg_len _ _ _ | rfl)
    have s293 : seg ρ 293 32 = dg 256 32 (dv 256 (seg ρ 261 32) * dv 256 [1, 0, 0, 0, 0, 0, 0, 0, 0, 0, 0, 0, 0, 0, 0, 0, 0, 0, 0, 0, 0, 0, 0, 0, 0, 0, 0, 0, 0, 0, 0, 0] % PP) := seg_of h293 (by first | exact dg_len _ _ _ | rfl)
    have s325 : seg ρ 325 32 = dg 256 32 (powZ (dv 256 (seg ρ 32 32)) (PP - 2) 256 % PP) := seg_of h325 (by first | exact dg_len _ _ _ | rfl)
    have s357 : seg ρ 357 32 = dg 256 32 (dv 256 (seg ρ 66 32) * dv 256 (seg ρ 325 32) % PP) := seg_of h357 (by first | exact dg_len _ _ _ | rfl)
    have q389 : ρ 389 = b2i (decide ((seg ρ 293 32) = (seg ρ 357 32))) := h389.trans (congrArg b2i eqs_lists)
    have k65 := not_bit h65 s64
    have d1 : dv 256 [1, 0, 0, 0, 0, 0, 0, 0, 0, 0, 0, 0, 0, 0, 0, 0, 0, 0, 0, 0, 0, 0, 0, 0, 0, 0, 0, 0, 0, 0, 0, 0] = 1 := by decide +kernel
    rw [he] at s66 s164 s261 s325
    rw [ea] at s66 s98 s131 s196 s229
    rw [eb] at s229 s325
    generalize dv 256 a = x at *
    generalize dv 256 b = y at *
    have i1 := hinv x bA.1 h0
    rw [s66, dvq, mulP'] at s131
    rw [s66, dvq, pow_modP] at s164
    rw [s229, dvq, pow_modP] at s261
    rw [s261, dvq, d1, mulP, Int.mul_one, Int.mul_pow] at s293
    rw [s66, s325, dvq, dvq, mulP, mulP'] at s357
    rw [s131, dg_one i1] at q163
    rw [s293, s357] at q389
    have back : (x ^ e) ^ e % PP = x % PP := by
      have n1 : x ^ e % PP ≠ 0 := fun h => by
        rw [← mulP', h, Int.mul_zero] at i1; cases i1
      have i2 := hinv (x ^ e) (Int.pow_nonneg bA.1) n1
      have e1 : (x ^ e) ^ e % PP = ((x ^ e) ^ e * (x * x ^ e)) % PP := by rw [← mulP', i1, Int.mul_one]
      have e2 : (x ^ e) ^ e * (x * x ^ e) = x * (x ^ e * (x ^ e) ^ e) := by grind
      rw [e1, e2, ← mulP', i2, Int.mul_one]
    rw [s164, s196, back] at q228
    have n0 : ¬ dg 256 32 (x % PP) = [0, 0, 0, 0, 0, 0, 0, 0, 0, 0, 0, 0, 0, 0, 0, 0, 0, 0, 0, 0, 0, 0, 0, 0, 0, 0, 0, 0, 0, 0, 0, 0] := fun h => by
      have := congrArg (dv 256) h
      rw [dvq] at this
      exact h0 (this.trans (by decide))
    rw [s98] at q130
    have k130 := bit_false q130 (decide_eq_false n0)
    have k163 := bit_true q163 (decide_eq_true rfl)
    have k228 := bit_true q228 (decide_eq_true rfl)
    have k389 : ρ 389 = 1 := q389.trans (by rw [decide_eq_true rfl]; rfl)
    refine ⟨?_, ?_⟩
    · simp only [G_nil, G_bin, G_cmp, G_not, G_conv, G_eqs, G_call, G_cond, G_need, G_idx, G_sel, G_upd, G_shv, G_beq, List.map_cons, List.map_nil, Ref.den]
      exact ⟨trivial, k65, trivial, trivial, k130, trivial, k163, trivial, trivial, k228, trivial, trivial, trivial, trivial, trivial, trivial⟩
    · show [ρ 389] = [1]
      rw [k389]
#print axioms okFInv
end Go.Proofs.Ytgjjndbogghfcaa
namespace Go.Proofs.Ytgjjndbogghfcaa.fieldInverts
open Go.RowKit Go.Bx Go.Sx
theorem walk (a : List UInt8) (na : a.length = 32) (b : List UInt8) (nb : b.length = 32) (w : World) :
    Calls Try.prog 3 #[.agg (bvs a).toArray, .agg (bvs b).toArray] w fun e w' => e = .returned (.bool true) ∧ Below w.heap.size w w' :=
  CtrOK.calls okFInv (fn := Try.f3) (body := (Try.f3).body.getD .skip) (by kernel_rfl) (by kernel_rfl) (by kernel_rfl) rfl (xs := [(a.map fun b => (b.toNat : Int)), (b.map fun b => (b.toNat : Int))]) rfl trivial ⟨arg_u8 a na, arg_u8 b nb, trivial⟩
end Go.Proofs.Ytgjjndbogghfcaa.fieldInverts
