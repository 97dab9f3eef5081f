/- Numbers modulo L: what is shown of times. No condition. -/
import Derived.Test.YtokndemdmkaofaaSk4
namespace Go.Bx
theorem mul_lt_MM {x y : Int} (hx : 0 ≤ x ∧ x < MM) (hy : 0 ≤ y ∧ y < MM) : 0 ≤ x * y ∧ x * y ≤ (MM - 1) * (MM - 1) := by
  refine ⟨Int.mul_nonneg hx.1 hy.1, ?_⟩
  exact Int.mul_le_mul (by omega) (by omega) hy.1 (by unfold MM; omega)
/-- A step of a long product. -/
theorem mac {x y c t hi lo lo' z hi' t' z' c' : Int} (hx : 0 ≤ x ∧ x < MM) (hy : 0 ≤ y ∧ y < MM) (hc : 0 ≤ c ∧ c < MM) (ht : 0 ≤ t ∧ t < MM)
    (h1 : hi = x * y / MM ∧ lo = x * y % MM) (h2 : lo' = (lo + c + 0) % MM ∧ z = (lo + c + 0) / MM) (h3 : hi' = (hi + z) % 18446744073709551616) (h4 : t' = (t + lo' + 0) % MM ∧ z' = (t + lo' + 0) / MM) (h5 : c' = (hi' + z') % 18446744073709551616) :
    t' + MM * c' = t + x * y + c ∧ (0 ≤ t' ∧ t' < MM) ∧ (0 ≤ c' ∧ c' < MM) := by
  have hp := mul_lt_MM hx hy
  generalize x * y = p at *
  unfold MM at *
  omega
theorem mul44 (x0 x1 x2 x3 y0 y1 y2 y3 : Int) : dv MM [x0, x1, x2, x3] * dv MM [y0, y1, y2, y3] = x0 * y0 + MM * (x0 * y1 + x1 * y0 + MM * (x0 * y2 + x1 * y1 + x2 * y0 + MM * (x0 * y3 + x1 * y2 + x2 * y1 + x3 * y0 + MM * (x1 * y3 + x2 * y2 + x3 * y1 + MM * (x2 * y3 + x3 * y2 + MM * (x3 * y3)))))) := by
  simp only [dv, Int.mul_zero, Int.add_zero]; grind
end Go.Bx
namespace Go.Proofs.Ytokndemdmkaofaa
open Go.RowKit Go.Bx Go.Sx
set_option linter.unusedSimpArgs false
def cTimes : Ctr := ⟨46, 16, [.arr .u64 4, .arr .u64 4], [.arr .u64 4]⟩
def T3 : List Ctr := [cAdd, cMul, cNorm]
theorem okT3 : ∀ c ∈ T3, CtrOK Try.prog sfns c := by
  intro c hc
  simp only [T3, List.mem_cons, List.not_mem_nil, or_false] at hc
  rcases hc with rfl | rfl | rfl
  · exact okAdd
  · exact okMul
  · exact okNorm
set_option maxRecDepth 10000 in
theorem okTimes : CtrOK Try.prog sfns cTimes := by
  refine CtrOK.of okT3 mixed (lf := 300) (d := 5) rfl fun w vs xs ha _ => ?_
  obtain ⟨v, u, a, b, rfl, rfl, ⟨la, -, ia⟩, ⟨lb, -, ib⟩⟩ := open2 ha
  obtain ⟨x0, x1, x2, x3, rfl⟩ := len4 la
  obtain ⟨y0, y1, y2, y3, rfl⟩ := len4 lb
  refine Go.Sx.Way.of (dec := []) (fs := [.need 2 [[.v 0], [.v 4]], .call 8 2 [[.v 0], [.v 4]] 2, .need 0 [[.v 9], [.l 0], [.l 0]], .call 10 0 [[.v 9], [.l 0], [.l 0]] 2, .bin 12 .add .u64 (.v 8) (.v 11), .need 0 [[.l 0], [.v 10], [.l 0]], .call 13 0 [[.l 0], [.v 10], [.l 0]] 2, .bin 15 .add .u64 (.v 12) (.v 14), .need 2 [[.v 0], [.v 5]], .call 16 2 [[.v 0], [.v 5]] 2, .need 0 [[.v 17], [.v 15], [.l 0]], .call 18 0 [[.v 17], [.v 15], [.l 0]] 2, .bin 20 .add .u64 (.v 16) (.v 19), .need 0 [[.l 0], [.v 18], [.l 0]], .call 21 0 [[.l 0], [.v 18], [.l 0]] 2, .bin 23 .add .u64 (.v 20) (.v 22), .need 2 [[.v 0], [.v 6]], .call 24 2 [[.v 0], [.v 6]] 2, .need 0 [[.v 25], [.v 23], [.l 0]], .call 26 0 [[.v 25], [.v 23], [.l 0]] 2, .bin 28 .add .u64 (.v 24) (.v 27), .need 0 [[.l 0], [.v 26], [.l 0]], .call 29 0 [[.l 0], [.v 26], [.l 0]] 2, .bin 31 .add .u64 (.v 28) (.v 30), .need 2 [[.v 0], [.v 7]], .call 32 2 [[.v 0], [.v 7]] 2, .need 0 [[.v 33], [.v 31], [.l 0]], .call 34 0 [[.v 33], [.v 31], [.l 0]] 2, .bin 36 .add .u64 (.v 32) (.v 35), .need 0 [[.l 0], [.v 34], [.l 0]], .call 37 0 [[.l 0], [.v 34], [.l 0]] 2, .bin 39 .add .u64 (.v 36) (.v 38), .need 2 [[.v 1], [.v 4]], .call 40 2 [[.v 1], [.v 4]] 2, .need 0 [[.v 41], [.l 0], [.l 0]], .call 42 0 [[.v 41], [.l 0], [.l 0]] 2, .bin 44 .add .u64 (.v 40) (.v 43), .need 0 [[.v 21], [.v 42], [.l 0]], .call 45 0 [[.v 21], [.v 42], [.l 0]] 2, .bin 47 .add .u64 (.v 44) (.v 46), .need 2 [[.v 1], [.v 5]], .call 48 2 [[.v 1], [.v 5]] 2, .need 0 [[.v 49], [.v 47], [.l 0]], .call 50 0 [[.v 49], [.v 47], [.l 0]] 2, .bin 52 .add .u64 (.v 48) (.v 51), .need 0 [[.v 29], [.v 50], [.l 0]], .call 53 0 [[.v 29], [.v 50], [.l 0]] 2, .bin 55 .add .u64 (.v 52) (.v 54), .need 2 [[.v 1], [.v 6]], .call 56 2 [[.v 1], [.v 6]] 2, .need 0 [[.v 57], [.v 55], [.l 0]], .call 58 0 [[.v 57], [.v 55], [.l 0]] 2, .bin 60 .add .u64 (.v 56) (.v 59), .need 0 [[.v 37], [.v 58], [.l 0]], .call 61 0 [[.v 37], [.v 58], [.l 0]] 2, .bin 63 .add .u64 (.v 60) (.v 62), .need 2 [[.v 1], [.v 7]], .call 64 2 [[.v 1], [.v 7]] 2, .need 0 [[.v 65], [.v 63], [.l 0]], .call 66 0 [[.v 65], [.v 63], [.l 0]] 2, .bin 68 .add .u64 (.v 64) (.v 67), .need 0 [[.v 39], [.v 66], [.l 0]], .call 69 0 [[.v 39], [.v 66], [.l 0]] 2, .bin 71 .add .u64 (.v 68) (.v 70), .need 2 [[.v 2], [.v 4]], .call 72 2 [[.v 2], [.v 4]] 2, .need 0 [[.v 73], [.l 0], [.l 0]], .call 74 0 [[.v 73], [.l 0], [.l 0]] 2, .bin 76 .add .u64 (.v 72) (.v 75), .need 0 [[.v 53], [.v 74], [.l 0]], .call 77 0 [[.v 53], [.v 74], [.l 0]] 2, .bin 79 .add .u64 (.v 76) (.v 78), .need 2 [[.v 2], [.v 5]], .call 80 2 [[.v 2], [.v 5]] 2, .need 0 [[.v 81], [.v 79], [.l 0]], .call 82 0 [[.v 81], [.v 79], [.l 0]] 2, .bin 84 .add .u64 (.v 80) (.v 83), .need 0 [[.v 61], [.v 82], [.l 0]], .call 85 0 [[.v 61], [.v 82], [.l 0]] 2, .bin 87 .add .u64 (.v 84) (.v 86), .need 2 [[.v 2], [.v 6]], .call 88 2 [[.v 2], [.v 6]] 2, .need 0 [[.v 89], [.v 87], [.l 0]], .call 90 0 [[.v 89], [.v 87], [.l 0]] 2, .bin 92 .add .u64 (.v 88) (.v 91), .need 0 [[.v 69], [.v 90], [.l 0]], .call 93 0 [[.v 69], [.v 90], [.l 0]] 2, .bin 95 .add .u64 (.v 92) (.v 94), .need 2 [[.v 2], [.v 7]], .call 96 2 [[.v 2], [.v 7]] 2, .need 0 [[.v 97], [.v 95], [.l 0]], .call 98 0 [[.v 97], [.v 95], [.l 0]] 2, .bin 100 .add .u64 (.v 96) (.v 99), .need 0 [[.v 71], [.v 98], [.l 0]], .call 101 0 [[.v 71], [.v 98], [.l 0]] 2, .bin 103 .add .u64 (.v 100) (.v 102), .need 2 [[.v 3], [.v 4]], .call 104 2 [[.v 3], [.v 4]] 2, .need 0 [[.v 105], [.l 0], [.l 0]], .call 106 0 [[.v 105], [.l 0], [.l 0]] 2, .bin 108 .add .u64 (.v 104) (.v 107), .need 0 [[.v 85], [.v 106], [.l 0]], .call 109 0 [[.v 85], [.v 106], [.l 0]] 2, .bin 111 .add .u64 (.v 108) (.v 110), .need 2 [[.v 3], [.v 5]], .call 112 2 [[.v 3], [.v 5]] 2, .need 0 [[.v 113], [.v 111], [.l 0]], .call 114 0 [[.v 113], [.v 111], [.l 0]] 2, .bin 116 .add .u64 (.v 112) (.v 115), .need 0 [[.v 93], [.v 114], [.l 0]], .call 117 0 [[.v 93], [.v 114], [.l 0]] 2, .bin 119 .add .u64 (.v 116) (.v 118), .need 2 [[.v 3], [.v 6]], .call 120 2 [[.v 3], [.v 6]] 2, .need 0 [[.v 121], [.v 119], [.l 0]], .call 122 0 [[.v 121], [.v 119], [.l 0]] 2, .bin 124 .add .u64 (.v 120) (.v 123), .need 0 [[.v 101], [.v 122], [.l 0]], .call 125 0 [[.v 101], [.v 122], [.l 0]] 2, .bin 127 .add .u64 (.v 124) (.v 126), .need 2 [[.v 3], [.v 7]], .call 128 2 [[.v 3], [.v 7]] 2, .need 0 [[.v 129], [.v 127], [.l 0]], .call 130 0 [[.v 129], [.v 127], [.l 0]] 2, .bin 132 .add .u64 (.v 128) (.v 131), .need 0 [[.v 103], [.v 130], [.l 0]], .call 133 0 [[.v 103], [.v 130], [.l 0]] 2, .bin 135 .add .u64 (.v 132) (.v 134), .need 3 [[.v 13, .v 45, .v 77, .v 109, .v 117, .v 125, .v 133, .v 135]], .call 136 3 [[.v 13, .v 45, .v 77, .v 109, .v 117, .v 125, .v 133, .v 135]] 4]) (refs := [.v 136, .v 137, .v 138, .v 139]) (by kernel_rfl) fun ρ hρ hd => ?_
  have r0 : ρ 0 = x0 := hρ 0 (by decide)
  have r1 : ρ 1 = x1 := hρ 1 (by decide)
  have r2 : ρ 2 = x2 := hρ 2 (by decide)
  have r3 : ρ 3 = x3 := hρ 3 (by decide)
  have r4 : ρ 4 = y0 := hρ 4 (by decide)
  have r5 : ρ 5 = y1 := hρ 5 (by decide)
  have r6 : ρ 6 = y2 := hρ 6 (by decide)
  have r7 : ρ 7 = y3 := hρ 7 (by decide)
  have hx0 : 0 ≤ x0 ∧ x0 < MM := in64 (ia x0 (by simp))
  have hx1 : 0 ≤ x1 ∧ x1 < MM := in64 (ia x1 (by simp))
  have hx2 : 0 ≤ x2 ∧ x2 < MM := in64 (ia x2 (by simp))
  have hx3 : 0 ≤ x3 ∧ x3 < MM := in64 (ia x3 (by simp))
  have hy0 : 0 ≤ y0 ∧ y0 < MM := in64 (ib y0 (by simp))
  have hy1 : 0 ≤ y1 ∧ y1 < MM := in64 (ib y1 (by simp))
  have hy2 : 0 ≤ y2 ∧ y2 < MM := in64 (ib y2 (by simp))
  have hy3 : 0 ≤ y3 ∧ y3 < MM := in64 (ib y3 (by simp))
  have hz : (0 : Int) ≤ 0 ∧ (0 : Int) < MM := by decide
  simp only [D_nil, D_add, D_sub, D_mul, D_and, D_or, D_xor, D_shl, D_shr, D_andNot, D_quo, D_rem, D_add_i64, D_sub_i64, D_mul_i64, D_add_u32, D_sub_u32, D_mul_u32, D_add_u8, D_sub_u8, D_mul_u8, D_eql, D_neq, D_lss, D_leq, D_gtr, D_geq, D_not, D_conv, D_eqs, D_call, D_cond, D_need, D_idx, D_sel, D_upd, D_shv, D_beq, List.map_cons, List.map_nil, Ref.den, r0, r1, r2, r3, r4, r5, r6, r7] at hd
  obtain ⟨m0, a0, b0, c0, d0, m1, a1, b1, c1, d1, m2, a2, b2, c2, d2, m3, a3, b3, c3, d3, m4, a4, b4, c4, d4, m5, a5, b5, c5, d5, m6, a6, b6, c6, d6, m7, a7, b7, c7, d7, m8, a8, b8, c8, d8, m9, a9, b9, c9, d9, m10, a10, b10, c10, d10, m11, a11, b11, c11, d11, m12, a12, b12, c12, d12, m13, a13, b13, c13, d13, m14, a14, b14, c14, d14, m15, a15, b15, c15, d15, hn, -⟩ := hd
  have e0 := mac hx0 hy0 hz hz (two m0) (two a0) b0 (two c0) d0
  have e1 := mac hx0 hy1 e0.2.2 hz (two m1) (two a1) b1 (two c1) d1
  have e2 := mac hx0 hy2 e1.2.2 hz (two m2) (two a2) b2 (two c2) d2
  have e3 := mac hx0 hy3 e2.2.2 hz (two m3) (two a3) b3 (two c3) d3
  have e4 := mac hx1 hy0 hz e1.2.1 (two m4) (two a4) b4 (two c4) d4
  have e5 := mac hx1 hy1 e4.2.2 e2.2.1 (two m5) (two a5) b5 (two c5) d5
  have e6 := mac hx1 hy2 e5.2.2 e3.2.1 (two m6) (two a6) b6 (two c6) d6
  have e7 := mac hx1 hy3 e6.2.2 e3.2.2 (two m7) (two a7) b7 (two c7) d7
  have e8 := mac hx2 hy0 hz e5.2.1 (two m8) (two a8) b8 (two c8) d8
  have e9 := mac hx2 hy1 e8.2.2 e6.2.1 (two m9) (two a9) b9 (two c9) d9
  have e10 := mac hx2 hy2 e9.2.2 e7.2.1 (two m10) (two a10) b10 (two c10) d10
  have e11 := mac hx2 hy3 e10.2.2 e7.2.2 (two m11) (two a11) b11 (two c11) d11
  have e12 := mac hx3 hy0 hz e9.2.1 (two m12) (two a12) b12 (two c12) d12
  have e13 := mac hx3 hy1 e12.2.2 e10.2.1 (two m13) (two a13) b13 (two c13) d13
  have e14 := mac hx3 hy2 e13.2.2 e11.2.1 (two m14) (two a14) b14 (two c14) d14
  have e15 := mac hx3 hy3 e14.2.2 e11.2.2 (two m15) (two a15) b15 (two c15) d15
  clear m0 a0 b0 c0 d0 m1 a1 b1 c1 d1 m2 a2 b2 c2 d2 m3 a3 b3 c3 d3 m4 a4 b4 c4 d4 m5 a5 b5 c5 d5 m6 a6 b6 c6 d6 m7 a7 b7 c7 d7 m8 a8 b8 c8 d8 m9 a9 b9 c9 d9 m10 a10 b10 c10 d10 m11 a11 b11 c11 d11 m12 a12 b12 c12 d12 m13 a13 b13 c13 d13 m14 a14 b14 c14 d14 m15 a15 b15 c15 d15
  have val : dv MM [ρ 13, ρ 45, ρ 77, ρ 109, ρ 117, ρ 125, ρ 133, ρ 135] = dv MM [x0, x1, x2, x3] * dv MM [y0, y1, y2, y3] := by
    rw [mul44]
    simp only [dv, MM] at e0 e1 e2 e3 e4 e5 e6 e7 e8 e9 e10 e11 e12 e13 e14 e15 ⊢
    generalize x0 * y0 = p00 at *
    generalize x0 * y1 = p01 at *
    generalize x0 * y2 = p02 at *
    generalize x0 * y3 = p03 at *
    generalize x1 * y0 = p10 at *
    generalize x1 * y1 = p11 at *
    generalize x1 * y2 = p12 at *
    generalize x1 * y3 = p13 at *
    generalize x2 * y0 = p20 at *
    generalize x2 * y1 = p21 at *
    generalize x2 * y2 = p22 at *
    generalize x2 * y3 = p23 at *
    generalize x3 * y0 = p30 at *
    generalize x3 * y1 = p31 at *
    generalize x3 * y2 = p32 at *
    generalize x3 * y3 = p33 at *
    omega
  refine ⟨?_, ?_⟩
  · simp only [G_nil, G_bin, G_cmp, G_not, G_conv, G_eqs, G_call, G_cond, G_need, G_idx, G_sel, G_upd, G_shv, G_beq, List.map_cons, List.map_nil, Ref.den]
    exact ⟨trivial, .inl rfl, .inl rfl, trivial, .inl rfl, .inl rfl, trivial, .inl rfl, .inl rfl, trivial, .inl rfl, .inl rfl, trivial, .inl rfl, .inl rfl, trivial, .inl rfl, .inl rfl, trivial, .inl rfl, .inl rfl, trivial, .inl rfl, .inl rfl, trivial, .inl rfl, .inl rfl, trivial, .inl rfl, .inl rfl, trivial, .inl rfl, .inl rfl, trivial, .inl rfl, .inl rfl, trivial, .inl rfl, .inl rfl, trivial, .inl rfl, .inl rfl, trivial, .inl rfl, .inl rfl, trivial, .inl rfl, .inl rfl, trivial, trivial⟩
  · have key : ∀ i, i < 4 → ρ (136 + i) = (dg MM 4 (dv MM [x0, x1, x2, x3] * dv MM [y0, y1, y2, y3] % LL)).getD i 0 := fun i hi => by
      rw [hn i hi, ← val]; rfl
    exact (arr_eq (a := dg MM 4 (dv MM [x0, x1, x2, x3] * dv MM [y0, y1, y2, y3] % LL)) (n := 4) (o := 136) (ρ := ρ) (dg_len _ _ _) key).symm
#print axioms okTimes
end Go.Proofs.Ytokndemdmkaofaa
