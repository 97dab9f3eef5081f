/- The statement FieldOf: the law's walk, by the reckoning. No condition. -/
import Derived.Test.YtgjjndbogghfcaaFk7
namespace Go.Bx
theorem beq_one {x y z : Int} {dy : Decidable (y ≠ 0)} {dx : Decidable (x ≠ 0)} (h : z = Go.Sx.b2i ((@decide (y ≠ 0) dy == @decide (x ≠ 0) dx) != false)) (hs : y ≠ 0 ↔ x ≠ 0) : z = 1 := by
  have e : @decide (y ≠ 0) dy = @decide (x ≠ 0) dx := decide_eq_decide.2 hs
  rw [h, e]; simp [Go.Sx.b2i]
theorem mul_in {a b : Int} (ha : -2147483648 ≤ a ∧ a < 2147483648) (hb : -2147483648 ≤ b ∧ b < 2147483648) : -4611686018427387904 ≤ a * b ∧ a * b ≤ 4611686018427387904 := by
  have h1 : a.natAbs ≤ 2147483648 := by omega
  have h2 : b.natAbs ≤ 2147483648 := by omega
  have h3 := Nat.mul_le_mul h1 h2
  rw [← Int.natAbs_mul] at h3
  omega
end Go.Bx
namespace Go.Proofs.Ytgjjndbogghfcaa
open Go.RowKit Go.Bx Go.Sx
set_option linter.unusedSimpArgs false
def cFOf : Ctr := ⟨6, 42, [.int .i32, .int .i32], [.bool]⟩
theorem okFOf : CtrOK Try.prog sfns cFOf := by
  refine CtrOK.of okT7 mixed (lf := 300) (d := 5) rfl fun w vs xs ha _ => ?_
  obtain ⟨v, u, x, y, rfl, rfl, ⟨a, rfl, rfl, hx⟩, ⟨b, rfl, rfl, hy⟩⟩ := open2 ha
  have ba : -2147483648 ≤ a ∧ a < 2147483648 := by obtain ⟨h1, h2⟩ := hx; simp only [lo, hi] at h1 h2; omega
  have bb : -2147483648 ≤ b ∧ b < 2147483648 := by obtain ⟨h1, h2⟩ := hy; simp only [lo, hi] at h1 h2; omega
  have bm := mul_in ba bb
  refine Go.Sx.Way.of (dec := [false,true,true,true]) (fs := [.need 40 [], .call 2 40 [] 1, .not 3 (.v 2), .cond 3 false, .conv 4 .i64 (.v 0), .need 38 [[.v 4]], .call 5 38 [[.v 4]] 32, .conv 37 .i64 (.v 1), .need 38 [[.v 37]], .call 38 38 [[.v 37]] 32, .need 33 [[.v 5, .v 6, .v 7, .v 8, .v 9, .v 10, .v 11, .v 12, .v 13, .v 14, .v 15, .v 16, .v 17, .v 18, .v 19, .v 20, .v 21, .v 22, .v 23, .v 24, .v 25, .v 26, .v 27, .v 28, .v 29, .v 30, .v 31, .v 32, .v 33, .v 34, .v 35, .v 36], [.v 38, .v 39, .v 40, .v 41, .v 42, .v 43, .v 44, .v 45, .v 46, .v 47, .v 48, .v 49, .v 50, .v 51, .v 52, .v 53, .v 54, .v 55, .v 56, .v 57, .v 58, .v 59, .v 60, .v 61, .v 62, .v 63, .v 64, .v 65, .v 66, .v 67, .v 68, .v 69]], .call 70 33 [[.v 5, .v 6, .v 7, .v 8, .v 9, .v 10, .v 11, .v 12, .v 13, .v 14, .v 15, .v 16, .v 17, .v 18, .v 19, .v 20, .v 21, .v 22, .v 23, .v 24, .v 25, .v 26, .v 27, .v 28, .v 29, .v 30, .v 31, .v 32, .v 33, .v 34, .v 35, .v 36], [.v 38, .v 39, .v 40, .v 41, .v 42, .v 43, .v 44, .v 45, .v 46, .v 47, .v 48, .v 49, .v 50, .v 51, .v 52, .v 53, .v 54, .v 55, .v 56, .v 57, .v 58, .v 59, .v 60, .v 61, .v 62, .v 63, .v 64, .v 65, .v 66, .v 67, .v 68, .v 69]] 32, .conv 102 .i64 (.v 0), .conv 103 .i64 (.v 1), .bin 104 .add .i64 (.v 102) (.v 103), .need 38 [[.v 104]], .call 105 38 [[.v 104]] 32, .eqs 137 [(.v 70, .v 105), (.v 71, .v 106), (.v 72, .v 107), (.v 73, .v 108), (.v 74, .v 109), (.v 75, .v 110), (.v 76, .v 111), (.v 77, .v 112), (.v 78, .v 113), (.v 79, .v 114), (.v 80, .v 115), (.v 81, .v 116), (.v 82, .v 117), (.v 83, .v 118), (.v 84, .v 119), (.v 85, .v 120), (.v 86, .v 121), (.v 87, .v 122), (.v 88, .v 123), (.v 89, .v 124), (.v 90, .v 125), (.v 91, .v 126), (.v 92, .v 127), (.v 93, .v 128), (.v 94, .v 129), (.v 95, .v 130), (.v 96, .v 131), (.v 97, .v 132), (.v 98, .v 133), (.v 99, .v 134), (.v 100, .v 135), (.v 101, .v 136)], .cond 137 true, .need 34 [[.v 5, .v 6, .v 7, .v 8, .v 9, .v 10, .v 11, .v 12, .v 13, .v 14, .v 15, .v 16, .v 17, .v 18, .v 19, .v 20, .v 21, .v 22, .v 23, .v 24, .v 25, .v 26, .v 27, .v 28, .v 29, .v 30, .v 31, .v 32, .v 33, .v 34, .v 35, .v 36], [.v 38, .v 39, .v 40, .v 41, .v 42, .v 43, .v 44, .v 45, .v 46, .v 47, .v 48, .v 49, .v 50, .v 51, .v 52, .v 53, .v 54, .v 55, .v 56, .v 57, .v 58, .v 59, .v 60, .v 61, .v 62, .v 63, .v 64, .v 65, .v 66, .v 67, .v 68, .v 69]], .call 138 34 [[.v 5, .v 6, .v 7, .v 8, .v 9, .v 10, .v 11, .v 12, .v 13, .v 14, .v 15, .v 16, .v 17, .v 18, .v 19, .v 20, .v 21, .v 22, .v 23, .v 24, .v 25, .v 26, .v 27, .v 28, .v 29, .v 30, .v 31, .v 32, .v 33, .v 34, .v 35, .v 36], [.v 38, .v 39, .v 40, .v 41, .v 42, .v 43, .v 44, .v 45, .v 46, .v 47, .v 48, .v 49, .v 50, .v 51, .v 52, .v 53, .v 54, .v 55, .v 56, .v 57, .v 58, .v 59, .v 60, .v 61, .v 62, .v 63, .v 64, .v 65, .v 66, .v 67, .v 68, .v 69]] 32, .conv 170 .i64 (.v 0), .conv 171 .i64 (.v 1), .bin 172 .sub .i64 (.v 170) (.v 171), .need 38 [[.v 172]], .call 173 38 [[.v 172]] 32, .eqs 205 [(.v 138, .v 173), (.v 139, .v 174), (.v 140, .v 175), (.v 141, .v 176), (.v 142, .v 177), (.v 143, .v 178), (.v 144, .v 179), (.v 145, .v 180), (.v 146, .v 181), (.v 147, .v 182), (.v 148, .v 183), (.v 149, .v 184), (.v 150, .v 185), (.v 151, .v 186), (.v 152, .v 187), (.v 153, .v 188), (.v 154, .v 189), (.v 155, .v 190), (.v 156, .v 191), (.v 157, .v 192), (.v 158, .v 193), (.v 159, .v 194), (.v 160, .v 195), (.v 161, .v 196), (.v 162, .v 197), (.v 163, .v 198), (.v 164, .v 199), (.v 165, .v 200), (.v 166, .v 201), (.v 167, .v 202), (.v 168, .v 203), (.v 169, .v 204)], .cond 205 true, .need 35 [[.v 5, .v 6, .v 7, .v 8, .v 9, .v 10, .v 11, .v 12, .v 13, .v 14, .v 15, .v 16, .v 17, .v 18, .v 19, .v 20, .v 21, .v 22, .v 23, .v 24, .v 25, .v 26, .v 27, .v 28, .v 29, .v 30, .v 31, .v 32, .v 33, .v 34, .v 35, .v 36], [.v 38, .v 39, .v 40, .v 41, .v 42, .v 43, .v 44, .v 45, .v 46, .v 47, .v 48, .v 49, .v 50, .v 51, .v 52, .v 53, .v 54, .v 55, .v 56, .v 57, .v 58, .v 59, .v 60, .v 61, .v 62, .v 63, .v 64, .v 65, .v 66, .v 67, .v 68, .v 69]], .call 206 35 [[.v 5, .v 6, .v 7, .v 8, .v 9, .v 10, .v 11, .v 12, .v 13, .v 14, .v 15, .v 16, .v 17, .v 18, .v 19, .v 20, .v 21, .v 22, .v 23, .v 24, .v 25, .v 26, .v 27, .v 28, .v 29, .v 30, .v 31, .v 32, .v 33, .v 34, .v 35, .v 36], [.v 38, .v 39, .v 40, .v 41, .v 42, .v 43, .v 44, .v 45, .v 46, .v 47, .v 48, .v 49, .v 50, .v 51, .v 52, .v 53, .v 54, .v 55, .v 56, .v 57, .v 58, .v 59, .v 60, .v 61, .v 62, .v 63, .v 64, .v 65, .v 66, .v 67, .v 68, .v 69]] 32, .conv 238 .i64 (.v 0), .conv 239 .i64 (.v 1), .bin 240 .mul .i64 (.v 238) (.v 239), .need 38 [[.v 240]], .call 241 38 [[.v 240]] 32, .eqs 273 [(.v 206, .v 241), (.v 207, .v 242), (.v 208, .v 243), (.v 209, .v 244), (.v 210, .v 245), (.v 211, .v 246), (.v 212, .v 247), (.v 213, .v 248), (.v 214, .v 249), (.v 215, .v 250), (.v 216, .v 251), (.v 217, .v 252), (.v 218, .v 253), (.v 219, .v 254), (.v 220, .v 255), (.v 221, .v 256), (.v 222, .v 257), (.v 223, .v 258), (.v 224, .v 259), (.v 225, .v 260), (.v 226, .v 261), (.v 227, .v 262), (.v 228, .v 263), (.v 229, .v 264), (.v 230, .v 265), (.v 231, .v 266), (.v 232, .v 267), (.v 233, .v 268), (.v 234, .v 269), (.v 235, .v 270), (.v 236, .v 271), (.v 237, .v 272)], .cond 273 true, .eqs 274 [(.v 5, .v 38), (.v 6, .v 39), (.v 7, .v 40), (.v 8, .v 41), (.v 9, .v 42), (.v 10, .v 43), (.v 11, .v 44), (.v 12, .v 45), (.v 13, .v 46), (.v 14, .v 47), (.v 15, .v 48), (.v 16, .v 49), (.v 17, .v 50), (.v 18, .v 51), (.v 19, .v 52), (.v 20, .v 53), (.v 21, .v 54), (.v 22, .v 55), (.v 23, .v 56), (.v 24, .v 57), (.v 25, .v 58), (.v 26, .v 59), (.v 27, .v 60), (.v 28, .v 61), (.v 29, .v 62), (.v 30, .v 63), (.v 31, .v 64), (.v 32, .v 65), (.v 33, .v 66), (.v 34, .v 67), (.v 35, .v 68), (.v 36, .v 69)], .cmp 275 .eql (.v 0) (.v 1), .beq 276 false (.v 274) (.v 275)]) (refs := [.v 276]) (by kernel_rfl) fun ρ hρ hd => ?_
  have r0 : ρ 0 = a := hρ 0 (by decide)
  have r1 : ρ 1 = b := hρ 1 (by decide)
  simp only [D_nil, D_add, D_sub, D_mul, D_and, D_or, D_xor, D_shl, D_shr, D_andNot, D_quo, D_rem, D_add_i64, D_sub_i64, D_mul_i64, D_add_u32, D_sub_u32, D_mul_u32, D_add_u8, D_sub_u8, D_mul_u8, D_eql, D_neq, D_lss, D_leq, D_gtr, D_geq, D_not, D_conv, D_eqs, D_call, D_cond, D_need, D_idx, D_sel, D_upd, D_shv, D_beq, List.map_cons, List.map_nil, Ref.den, r0, r1, IntKind.wrap_i64] at hd
  obtain ⟨h2, h3, h4, h5, h37, h38, h70, h102, h103, h104, h105, h137, h138, h170, h171, h172, h173, h205, h206, h238, h239, h240, h241, h273, h274, h275, h276, -⟩ := hd
  have s2 : ρ 2 = 1 := h2 0 (by decide)
  have s5 : seg ρ 5 32 = dg 256 32 (ρ 4 % PP) := seg_of h5 (by first | exact dg_len _ _ _ | rfl)
  have s38 : seg ρ 38 32 = dg 256 32 (ρ 37 % PP) := seg_of h38 (by first | exact dg_len _ _ _ | rfl)
  have s70 : seg ρ 70 32 = dg 256 32 ((dv 256 (seg ρ 5 32) + dv 256 (seg ρ 38 32)) % PP) := seg_of h70 (by first | exact dg_len _ _ _ | rfl)
  have s105 : seg ρ 105 32 = dg 256 32 (ρ 104 % PP) := seg_of h105 (by first | exact dg_len _ _ _ | rfl)
  have q137 : ρ 137 = b2i (decide ((seg ρ 70 32) = (seg ρ 105 32))) := h137.trans (congrArg b2i eqs_lists)
  have s138 : seg ρ 138 32 = dg 256 32 ((dv 256 (seg ρ 5 32) - dv 256 (seg ρ 38 32)) % PP) := seg_of h138 (by first | exact dg_len _ _ _ | rfl)
  have s173 : seg ρ 173 32 = dg 256 32 (ρ 172 % PP) := seg_of h173 (by first | exact dg_len _ _ _ | rfl)
  have q205 : ρ 205 = b2i (decide ((seg ρ 138 32) = (seg ρ 173 32))) := h205.trans (congrArg b2i eqs_lists)
  have s206 : seg ρ 206 32 = dg 256 32 (dv 256 (seg ρ 5 32) * dv 256 (seg ρ 38 32) % PP) := seg_of h206 (by first | exact dg_len _ _ _ | rfl)
  have s241 : seg ρ 241 32 = dg 256 32 (ρ 240 % PP) := seg_of h241 (by first | exact dg_len _ _ _ | rfl)
  have q273 : ρ 273 = b2i (decide ((seg ρ 206 32) = (seg ρ 241 32))) := h273.trans (congrArg b2i eqs_lists)
  have q274 : ρ 274 = b2i (decide ((seg ρ 5 32) = (seg ρ 38 32))) := h274.trans (congrArg b2i eqs_lists)
  have k3 := not_bit h3 s2
  have e4 : ρ 4 = a := by rw [h4]; omega
  have e37 : ρ 37 = b := by rw [h37]; omega
  have e102 : ρ 102 = a := by rw [h102]; omega
  have e103 : ρ 103 = b := by rw [h103]; omega
  have e170 : ρ 170 = a := by rw [h170]; omega
  have e171 : ρ 171 = b := by rw [h171]; omega
  have e238 : ρ 238 = a := by rw [h238]; omega
  have e239 : ρ 239 = b := by rw [h239]; omega
  have e104 : ρ 104 = a + b := by rw [h104, e102, e103]; omega
  have e172 : ρ 172 = a - b := by rw [h172, e170, e171]; omega
  have e240 : ρ 240 = a * b := by rw [h240, e238, e239]; omega
  rw [e4] at s5
  rw [e37] at s38
  rw [s5, s38, dvq, dvq, addl, addr] at s70
  rw [s5, s38, dvq, dvq, subl, subr] at s138
  rw [s5, s38, dvq, dvq, mulP, mulP'] at s206
  rw [s70, s105, e104] at q137
  rw [s138, s173, e172] at q205
  rw [s206, s241, e240] at q273
  have k137 := bit_true q137 (decide_eq_true rfl)
  have k205 := bit_true q205 (decide_eq_true rfl)
  have k273 := bit_true q273 (decide_eq_true rfl)
  have same : seg ρ 5 32 = seg ρ 38 32 ↔ a = b := by
    rw [s5, s38]
    constructor
    · intro h
      have h := congrArg (dv 256) h
      rw [dvq, dvq] at h
      simp only [PP] at h
      omega
    · rintro rfl; rfl
  have k276 : ρ 276 = 1 := by
    refine beq_one h276 ?_
    have q1 := b2i_dec (a = b) (q274.trans (b2i_congr same))
    have q2 := b2i_dec (a = b) h275
    omega
  refine ⟨?_, ?_⟩
  · simp only [G_nil, G_bin, G_cmp, G_not, G_conv, G_eqs, G_call, G_cond, G_need, G_idx, G_sel, G_upd, G_shv, G_beq, List.map_cons, List.map_nil, Ref.den]
    exact ⟨trivial, k3, trivial, trivial, trivial, trivial, k137, trivial, trivial, k205, trivial, trivial, k273, trivial⟩
  · show [ρ 276] = [1]
    rw [k276]
#print axioms okFOf
end Go.Proofs.Ytgjjndbogghfcaa
namespace Go.Proofs.Ytgjjndbogghfcaa.fieldOf
open Go.RowKit Go.Bx Go.Sx
theorem walk (a : Int) (ha : (-2147483648 ≤ a ∧ a < 2147483648)) (b : Int) (hb : (-2147483648 ≤ b ∧ b < 2147483648)) (w : World) :
    Calls Try.prog 6 #[.int .i32 a, .int .i32 b] w fun e w' => e = .returned (.bool true) ∧ Below w.heap.size w w' :=
  CtrOK.calls okFOf (fn := Try.f6) (body := (Try.f6).body.getD .skip) (by kernel_rfl) (by kernel_rfl) (by kernel_rfl) rfl (xs := [[a], [b]]) rfl trivial ⟨arg_int ⟨by simp only [lo]; omega, by simp only [hi]; omega⟩, arg_int ⟨by simp only [lo]; omega, by simp only [hi]; omega⟩, trivial⟩
end Go.Proofs.Ytgjjndbogghfcaa.fieldOf
