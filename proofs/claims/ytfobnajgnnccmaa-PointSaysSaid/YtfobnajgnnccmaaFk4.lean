/- Numbers modulo p: what is shown of Plus and Times. No condition. -/
import Derived.Test.YtfobnajgnnccmaaFk3
namespace Go.Proofs.Ytfobnajgnnccmaa
open Go.RowKit Go.Bx Go.Sx
set_option linter.unusedSimpArgs false
def T2 : List Ctr := [cAdd, cSub, cMul, cFold]
theorem okT2 : ∀ c ∈ T2, CtrOK Try.prog sfns c := by
  intro c hc
  simp only [T2, List.mem_cons, List.not_mem_nil, or_false] at hc
  rcases hc with rfl | rfl | rfl | rfl
  · exact okAdd
  · exact okSub
  · exact okMul
  · exact okFold
theorem dvbd {x y z t : Int} (hx : 0 ≤ x ∧ x < MM) (hy : 0 ≤ y ∧ y < MM) (hz : 0 ≤ z ∧ z < MM) (ht : 0 ≤ t ∧ t < MM) : 0 ≤ dv MM [x, y, z, t] ∧ dv MM [x, y, z, t] < WW := by
  have h := dv_bound MM_pos (Dig.cons hx.1 hx.2 (Dig.cons hy.1 hy.2 (Dig.cons hz.1 hz.2 (Dig.cons ht.1 ht.2 Dig.nil))))
  rw [PP_lt.2.2.1]; exact h
theorem foldZ_bd' {X n : Int} (h0 : 0 ≤ X) (h1 : X < WW) (n0 : 0 ≤ n) (n1 : n ≤ 1000) : 0 ≤ foldZ X n ∧ foldZ X n < WW := foldZ_bd h0 h1 n0 n1
theorem okPlus : CtrOK Try.prog sfns cPlus := by
  refine CtrOK.of okT2 mixed (lf := 300) (d := 5) rfl fun w vs xs ha _ => ?_
  obtain ⟨v, u, a, b, rfl, rfl, ⟨la, -, ia⟩, ⟨lb, -, ib⟩⟩ := open2 ha
  have hA := bdW la ia
  have hB := bdW lb ib
  obtain ⟨x0, x1, x2, x3, rfl⟩ := len4 la
  obtain ⟨y0, y1, y2, y3, rfl⟩ := len4 lb
  refine Go.Sx.Way.of (dec := []) (fs := [.need 0 [[.v 0], [.v 4], [.l 0]], .call 8 0 [[.v 0], [.v 4], [.l 0]] 2, .need 0 [[.v 1], [.v 5], [.v 9]], .call 10 0 [[.v 1], [.v 5], [.v 9]] 2, .need 0 [[.v 2], [.v 6], [.v 11]], .call 12 0 [[.v 2], [.v 6], [.v 11]] 2, .need 0 [[.v 3], [.v 7], [.v 13]], .call 14 0 [[.v 3], [.v 7], [.v 13]] 2, .need 14 [[.v 8, .v 10, .v 12, .v 14], [.v 15]], .call 16 14 [[.v 8, .v 10, .v 12, .v 14], [.v 15]] 4]) (refs := [.v 16, .v 17, .v 18, .v 19]) (by kernel_rfl) fun ρ hρ hd => ?_
  have r0 : ρ 0 = x0 := hρ 0 (by decide)
  have r1 : ρ 1 = x1 := hρ 1 (by decide)
  have r2 : ρ 2 = x2 := hρ 2 (by decide)
  have r3 : ρ 3 = x3 := hρ 3 (by decide)
  have r4 : ρ 4 = y0 := hρ 4 (by decide)
  have r5 : ρ 5 = y1 := hρ 5 (by decide)
  have r6 : ρ 6 = y2 := hρ 6 (by decide)
  have r7 : ρ 7 = y3 := hρ 7 (by decide)
  simp only [D_nil, D_add, D_sub, D_mul, D_and, D_or, D_xor, D_shl, D_shr, D_andNot, D_quo, D_rem, D_add_i64, D_sub_i64, D_mul_i64, D_add_u32, D_sub_u32, D_mul_u32, D_add_u8, D_sub_u8, D_mul_u8, D_eql, D_neq, D_lss, D_leq, D_gtr, D_geq, D_not, D_conv, D_eqs, D_call, D_cond, D_need, D_idx, D_sel, D_upd, D_shv, D_beq, List.map_cons, List.map_nil, Ref.den, r0, r1, r2, r3, r4, r5, r6, r7] at hd
  obtain ⟨h8, h10, h12, h14, h16, -⟩ := hd
  obtain ⟨a0, c0⟩ := two h8
  obtain ⟨a1, c1⟩ := two h10
  obtain ⟨a2, c2⟩ := two h12
  obtain ⟨a3, c3⟩ := two h14
  simp only [Nat.reduceAdd] at c0 c1 c2 c3
  have i0 := in64 (ia x0 (by simp))
  have j0 := in64 (ib y0 (by simp))
  have i1 := in64 (ia x1 (by simp))
  have j1 := in64 (ib y1 (by simp))
  have i2 := in64 (ia x2 (by simp))
  have j2 := in64 (ib y2 (by simp))
  have i3 := in64 (ia x3 (by simp))
  have j3 := in64 (ib y3 (by simp))
  have WWv : WW = 115792089237316195423570985008687907853269984665640564039457584007913129639936 := rfl
  have s16 : seg ρ 16 4 = dg MM 4 (foldZ (dv MM [ρ 8, ρ 10, ρ 12, ρ 14]) (ρ 15)) := seg_of h16 (dg_len _ _ _)
  have c : dv MM [ρ 8, ρ 10, ρ 12, ρ 14] + WW * ρ 15 = dv MM [x0, x1, x2, x3] + dv MM [y0, y1, y2, y3] := by
    simp only [dv, MM, WW] at a0 a1 a2 a3 c0 c1 c2 c3 ⊢
    omega
  have d : 0 ≤ dv MM [ρ 8, ρ 10, ρ 12, ρ 14] ∧ dv MM [ρ 8, ρ 10, ρ 12, ρ 14] < WW := by
    unfold MM at a0 a1 a2 a3
    exact dvbd (show 0 ≤ ρ 8 ∧ ρ 8 < 18446744073709551616 by omega) (show 0 ≤ ρ 10 ∧ ρ 10 < 18446744073709551616 by omega) (show 0 ≤ ρ 12 ∧ ρ 12 < 18446744073709551616 by omega) (show 0 ≤ ρ 14 ∧ ρ 14 < 18446744073709551616 by omega)
  unfold MM at a0 a1 a2 a3 c0 c1 c2 c3
  have k9 : ρ 9 = 0 ∨ ρ 9 = 1 := by omega
  have k11 : ρ 11 = 0 ∨ ρ 11 = 1 := by omega
  have k13 : ρ 13 = 0 ∨ ρ 13 = 1 := by omega
  have k15 : ρ 15 = 0 ∨ ρ 15 = 1 := by omega
  clear a0 a1 a2 a3 c0 c1 c2 c3 h8 h10 h12 h14
  refine ⟨?_, ?_⟩
  · simp only [G_nil, G_bin, G_cmp, G_not, G_conv, G_eqs, G_call, G_cond, G_need, G_idx, G_sel, G_upd, G_shv, G_beq, List.map_cons, List.map_nil, Ref.den]
    exact ⟨.inl rfl, k9, k11, k13, show ρ 15 ≤ 1000 by omega, trivial⟩
  · show seg ρ 16 4 = dg MM 4 (plusZ (dv MM [x0, x1, x2, x3]) (dv MM [y0, y1, y2, y3]))
    rw [s16, plusZ, ← c]
    have e1 : (dv MM [ρ 8, ρ 10, ρ 12, ρ 14] + WW * ρ 15) % WW = dv MM [ρ 8, ρ 10, ρ 12, ρ 14] := by rw [Int.add_mul_emod_self_left, Int.emod_eq_of_lt d.1 d.2]
    have e2 : (dv MM [ρ 8, ρ 10, ρ 12, ρ 14] + WW * ρ 15) / WW = ρ 15 := by rw [Int.add_mul_ediv_left _ _ (by omega), Int.ediv_eq_zero_of_lt d.1 d.2]; omega
    rw [e1, e2]
theorem plusZ_bd {A B : Int} (a0 : 0 ≤ A) (a1 : A < WW) (b0 : 0 ≤ B) (b1 : B < WW) : 0 ≤ plusZ A B ∧ plusZ A B < WW := by
  have WWv : WW = 115792089237316195423570985008687907853269984665640564039457584007913129639936 := rfl
  refine foldZ_bd (Int.emod_nonneg _ (by omega)) (Int.emod_lt_of_pos _ (by omega)) ?_ ?_ <;> simp only [WW] at * <;> omega
def T3 : List Ctr := [cAdd, cMul, cFold, cPlus]
theorem okT3 : ∀ c ∈ T3, CtrOK Try.prog sfns c := by
  intro c hc
  simp only [T3, List.mem_cons, List.not_mem_nil, or_false] at hc
  rcases hc with rfl | rfl | rfl | rfl
  · exact okAdd
  · exact okMul
  · exact okFold
  · exact okPlus
set_option maxRecDepth 10000 in
theorem okTimes : CtrOK Try.prog sfns cTimes := by
  refine CtrOK.of okT3 mixed (lf := 300) (d := 5) rfl fun w vs xs ha _ => ?_
  obtain ⟨v, u, a, b, rfl, rfl, ⟨la, -, ia⟩, ⟨lb, -, ib⟩⟩ := open2 ha
  obtain ⟨x0, x1, x2, x3, rfl⟩ := len4 la
  obtain ⟨y0, y1, y2, y3, rfl⟩ := len4 lb
  refine Go.Sx.Way.of (dec := []) (fs := [.need 2 [[.v 0], [.v 4]], .call 8 2 [[.v 0], [.v 4]] 2, .need 0 [[.v 9], [.l 0], [.l 0]], .call 10 0 [[.v 9], [.l 0], [.l 0]] 2, .bin 12 .add .u64 (.v 8) (.v 11), .need 0 [[.l 0], [.v 10], [.l 0]], .call 13 0 [[.l 0], [.v 10], [.l 0]] 2, .bin 15 .add .u64 (.v 12) (.v 14), .need 2 [[.v 0], [.v 5]], .call 16 2 [[.v 0], [.v 5]] 2, .need 0 [[.v 17], [.v 15], [.l 0]], .call 18 0 [[.v 17], [.v 15], [.l 0]] 2, .bin 20 .add .u64 (.v 16) (.v 19), .need 0 [[.l 0], [.v 18], [.l 0]], .call 21 0 [[.l 0], [.v 18], [.l 0]] 2, .bin 23 .add .u64 (.v 20) (.v 22), .need 2 [[.v 0], [.v 6]], .call 24 2 [[.v 0], [.v 6]] 2, .need 0 [[.v 25], [.v 23], [.l 0]], .call 26 0 [[.v 25], [.v 23], [.l 0]] 2, .bin 28 .add .u64 (.v 24) (.v 27), .need 0 [[.l 0], [.v 26], [.l 0]], .call 29 0 [[.l 0], [.v 26], [.l 0]] 2, .bin 31 .add .u64 (.v 28) (.v 30), .need 2 [[.v 0], [.v 7]], .call 32 2 [[.v 0], [.v 7]] 2, .need 0 [[.v 33], [.v 31], [.l 0]], .call 34 0 [[.v 33], [.v 31], [.l 0]] 2, .bin 36 .add .u64 (.v 32) (.v 35), .need 0 [[.l 0], [.v 34], [.l 0]], .call 37 0 [[.l 0], [.v 34], [.l 0]] 2, .bin 39 .add .u64 (.v 36) (.v 38), .need 2 [[.v 1], [.v 4]], .call 40 2 [[.v 1], [.v 4]] 2, .need 0 [[.v 41], [.l 0], [.l 0]], .call 42 0 [[.v 41], [.l 0], [.l 0]] 2, .bin 44 .add .u64 (.v 40) (.v 43), .need 0 [[.v 21], [.v 42], [.l 0]], .call 45 0 [[.v 21], [.v 42], [.l 0]] 2, .bin 47 .add .u64 (.v 44) (.v 46), .need 2 [[.v 1], [.v 5]], .call 48 2 [[.v 1], [.v 5]] 2, .need 0 [[.v 49], [.v 47], [.l 0]], .call 50 0 [[.v 49], [.v 47], [.l 0]] 2, .bin 52 .add .u64 (.v 48) (.v 51), .need 0 [[.v 29], [.v 50], [.l 0]], .call 53 0 [[.v 29], [.v 50], [.l 0]] 2, .bin 55 .add .u64 (.v 52) (.v 54), .need 2 [[.v 1], [.v 6]], .call 56 2 [[.v 1], [.v 6]] 2, .need 0 [[.v 57], [.v 55], [.l 0]], .call 58 0 [[.v 57], [.v 55], [.l 0]] 2, .bin 60 .add .u64 (.v 56) (.v 59), .need 0 [[.v 37], [.v 58], [.l 0]], .call 61 0 [[.v 37], [.v 58], [.l 0]] 2, .bin 63 .add .u64 (.v 60) (.v 62), .need 2 [[.v 1], [.v 7]], .call 64 2 [[.v 1], [.v 7]] 2, .need 0 [[.v 65], [.v 63], [.l 0]], .call 66 0 [[.v 65], [.v 63], [.l 0]] 2, .bin 68 .add .u64 (.v 64) (.v 67), .need 0 [[.v 39], [.v 66], [.l 0]], .call 69 0 [[.v 39], [.v 66], [.l 0]] 2, .bin 71 .add .u64 (.v 68) (.v 70), .need 2 [[.v 2], [.v 4]], .call 72 2 [[.v 2], [.v 4]] 2, .need 0 [[.v 73], [.l 0], [.l 0]], .call 74 0 [[.v 73], [.l 0], [.l 0]] 2, .bin 76 .add .u64 (.v 72) (.v 75), .need 0 [[.v 53], [.v 74], [.l 0]], .call 77 0 [[.v 53], [.v 74], [.l 0]] 2, .bin 79 .add .u64 (.v 76) (.v 78), .need 2 [[.v 2], [.v 5]], .call 80 2 [[.v 2], [.v 5]] 2, .need 0 [[.v 81], [.v 79], [.l 0]], .call 82 0 [[.v 81], [.v 79], [.l 0]] 2, .bin 84 .add .u64 (.v 80) (.v 83), .need 0 [[.v 61], [.v 82], [.l 0]], .call 85 0 [[.v 61], [.v 82], [.l 0]] 2, .bin 87 .add .u64 (.v 84) (.v 86), .need 2 [[.v 2], [.v 6]], .call 88 2 [[.v 2], [.v 6]] 2, .need 0 [[.v 89], [.v 87], [.l 0]], .call 90 0 [[.v 89], [.v 87], [.l 0]] 2, .bin 92 .add .u64 (.v 88) (.v 91), .need 0 [[.v 69], [.v 90], [.l 0]], .call 93 0 [[.v 69], [.v 90], [.l 0]] 2, .bin 95 .add .u64 (.v 92) (.v 94), .need 2 [[.v 2], [.v 7]], .call 96 2 [[.v 2], [.v 7]] 2, .need 0 [[.v 97], [.v 95], [.l 0]], .call 98 0 [[.v 97], [.v 95], [.l 0]] 2, .bin 100 .add .u64 (.v 96) (.v 99), .need 0 [[.v 71], [.v 98], [.l 0]], .call 101 0 [[.v 71], [.v 98], [.l 0]] 2, .bin 103 .add .u64 (.v 100) (.v 102), .need 2 [[.v 3], [.v 4]], .call 104 2 [[.v 3], [.v 4]] 2, .need 0 [[.v 105], [.l 0], [.l 0]], .call 106 0 [[.v 105], [.l 0], [.l 0]] 2, .bin 108 .add .u64 (.v 104) (.v 107), .need 0 [[.v 85], [.v 106], [.l 0]], .call 109 0 [[.v 85], [.v 106], [.l 0]] 2, .bin 111 .add .u64 (.v 108) (.v 110), .need 2 [[.v 3], [.v 5]], .call 112 2 [[.v 3], [.v 5]] 2, .need 0 [[.v 113], [.v 111], [.l 0]], .call 114 0 [[.v 113], [.v 111], [.l 0]] 2, .bin 116 .add .u64 (.v 112) (.v 115), .need 0 [[.v 93], [.v 114], [.l 0]], .call 117 0 [[.v 93], [.v 114], [.l 0]] 2, .bin 119 .add .u64 (.v 116) (.v 118), .need 2 [[.v 3], [.v 6]], .call 120 2 [[.v 3], [.v 6]] 2, .need 0 [[.v 121], [.v 119], [.l 0]], .call 122 0 [[.v 121], [.v 119], [.l 0]] 2, .bin 124 .add .u64 (.v 120) (.v 123), .need 0 [[.v 101], [.v 122], [.l 0]], .call 125 0 [[.v 101], [.v 122], [.l 0]] 2, .bin 127 .add .u64 (.v 124) (.v 126), .need 2 [[.v 3], [.v 7]], .call 128 2 [[.v 3], [.v 7]] 2, .need 0 [[.v 129], [.v 127], [.l 0]], .call 130 0 [[.v 129], [.v 127], [.l 0]] 2, .bin 132 .add .u64 (.v 128) (.v 131), .need 0 [[.v 103], [.v 130], [.l 0]], .call 133 0 [[.v 103], [.v 130], [.l 0]] 2, .bin 135 .add .u64 (.v 132) (.v 134), .need 2 [[.l 38], [.v 117]], .call 136 2 [[.l 38], [.v 117]] 2, .need 0 [[.v 137], [.l 0], [.l 0]], .call 138 0 [[.v 137], [.l 0], [.l 0]] 2, .bin 140 .add .u64 (.v 136) (.v 139), .need 0 [[.l 0], [.v 138], [.l 0]], .call 141 0 [[.l 0], [.v 138], [.l 0]] 2, .bin 143 .add .u64 (.v 140) (.v 142), .need 2 [[.l 38], [.v 125]], .call 144 2 [[.l 38], [.v 125]] 2, .need 0 [[.v 145], [.v 143], [.l 0]], .call 146 0 [[.v 145], [.v 143], [.l 0]] 2, .bin 148 .add .u64 (.v 144) (.v 147), .need 0 [[.l 0], [.v 146], [.l 0]], .call 149 0 [[.l 0], [.v 146], [.l 0]] 2, .bin 151 .add .u64 (.v 148) (.v 150), .need 2 [[.l 38], [.v 133]], .call 152 2 [[.l 38], [.v 133]] 2, .need 0 [[.v 153], [.v 151], [.l 0]], .call 154 0 [[.v 153], [.v 151], [.l 0]] 2, .bin 156 .add .u64 (.v 152) (.v 155), .need 0 [[.l 0], [.v 154], [.l 0]], .call 157 0 [[.l 0], [.v 154], [.l 0]] 2, .bin 159 .add .u64 (.v 156) (.v 158), .need 2 [[.l 38], [.v 135]], .call 160 2 [[.l 38], [.v 135]] 2, .need 0 [[.v 161], [.v 159], [.l 0]], .call 162 0 [[.v 161], [.v 159], [.l 0]] 2, .bin 164 .add .u64 (.v 160) (.v 163), .need 0 [[.l 0], [.v 162], [.l 0]], .call 165 0 [[.l 0], [.v 162], [.l 0]] 2, .bin 167 .add .u64 (.v 164) (.v 166), .need 15 [[.v 13, .v 45, .v 77, .v 109], [.v 141, .v 149, .v 157, .v 165]], .call 168 15 [[.v 13, .v 45, .v 77, .v 109], [.v 141, .v 149, .v 157, .v 165]] 4, .need 14 [[.v 168, .v 169, .v 170, .v 171], [.v 167]], .call 172 14 [[.v 168, .v 169, .v 170, .v 171], [.v 167]] 4]) (refs := [.v 172, .v 173, .v 174, .v 175]) (by kernel_rfl) fun ρ hρ hd => ?_
  have r0 : ρ 0 = x0 := hρ 0 (by decide)
  have r1 : ρ 1 = x1 := hρ 1 (by decide)
  have r2 : ρ 2 = x2 := hρ 2 (by decide)
  have r3 : ρ 3 = x3 := hρ 3 (by decide)
  have r4 : ρ 4 = y0 := hρ 4 (by decide)
  have r5 : ρ 5 = y1 := hρ 5 (by decide)
  have r6 : ρ 6 = y2 := hρ 6 (by decide)
  have r7 : ρ 7 = y3 := hρ 7 (by decide)
  have hx0 : 0 ≤ x0 ∧ x0 < MM := in64 (ia x0 (by simp))
  have hx1 : 0 ≤ x1 ∧ x1 < MM := in64 (ia x1 (by simp))
  have hx2 : 0 ≤ x2 ∧ x2 < MM := in64 (ia x2 (by simp))
  have hx3 : 0 ≤ x3 ∧ x3 < MM := in64 (ia x3 (by simp))
  have hy0 : 0 ≤ y0 ∧ y0 < MM := in64 (ib y0 (by simp))
  have hy1 : 0 ≤ y1 ∧ y1 < MM := in64 (ib y1 (by simp))
  have hy2 : 0 ≤ y2 ∧ y2 < MM := in64 (ib y2 (by simp))
  have hy3 : 0 ≤ y3 ∧ y3 < MM := in64 (ib y3 (by simp))
  have hz : (0 : Int) ≤ 0 ∧ (0 : Int) < MM := by decide
  have h38 : (0 : Int) ≤ 38 ∧ (38 : Int) < MM := by decide
  simp only [D_nil, D_add, D_sub, D_mul, D_and, D_or, D_xor, D_shl, D_shr, D_andNot, D_quo, D_rem, D_add_i64, D_sub_i64, D_mul_i64, D_add_u32, D_sub_u32, D_mul_u32, D_add_u8, D_sub_u8, D_mul_u8, D_eql, D_neq, D_lss, D_leq, D_gtr, D_geq, D_not, D_conv, D_eqs, D_call, D_cond, D_need, D_idx, D_sel, D_upd, D_shv, D_beq, List.map_cons, List.map_nil, Ref.den, r0, r1, r2, r3, r4, r5, r6, r7] at hd
  obtain ⟨m0, a0, b0, c0, d0, m1, a1, b1, c1, d1, m2, a2, b2, c2, d2, m3, a3, b3, c3, d3, m4, a4, b4, c4, d4, m5, a5, b5, c5, d5, m6, a6, b6, c6, d6, m7, a7, b7, c7, d7, m8, a8, b8, c8, d8, m9, a9, b9, c9, d9, m10, a10, b10, c10, d10, m11, a11, b11, c11, d11, m12, a12, b12, c12, d12, m13, a13, b13, c13, d13, m14, a14, b14, c14, d14, m15, a15, b15, c15, d15, m16, a16, b16, c16, d16, m17, a17, b17, c17, d17, m18, a18, b18, c18, d18, m19, a19, b19, c19, d19, hq, hn, -⟩ := hd
  have e0 := mac hx0 hy0 hz hz (two m0) (two a0) b0 (two c0) d0
  have e1 := mac hx0 hy1 e0.2.2 hz (two m1) (two a1) b1 (two c1) d1
  have e2 := mac hx0 hy2 e1.2.2 hz (two m2) (two a2) b2 (two c2) d2
  have e3 := mac hx0 hy3 e2.2.2 hz (two m3) (two a3) b3 (two c3) d3
  have e4 := mac hx1 hy0 hz e1.2.1 (two m4) (two a4) b4 (two c4) d4
  have e5 := mac hx1 hy1 e4.2.2 e2.2.1 (two m5) (two a5) b5 (two c5) d5
  have e6 := mac hx1 hy2 e5.2.2 e3.2.1 (two m6) (two a6) b6 (two c6) d6
  have e7 := mac hx1 hy3 e6.2.2 e3.2.2 (two m7) (two a7) b7 (two c7) d7
  have e8 := mac hx2 hy0 hz e5.2.1 (two m8) (two a8) b8 (two c8) d8
  have e9 := mac hx2 hy1 e8.2.2 e6.2.1 (two m9) (two a9) b9 (two c9) d9
  have e10 := mac hx2 hy2 e9.2.2 e7.2.1 (two m10) (two a10) b10 (two c10) d10
  have e11 := mac hx2 hy3 e10.2.2 e7.2.2 (two m11) (two a11) b11 (two c11) d11
  have e12 := mac hx3 hy0 hz e9.2.1 (two m12) (two a12) b12 (two c12) d12
  have e13 := mac hx3 hy1 e12.2.2 e10.2.1 (two m13) (two a13) b13 (two c13) d13
  have e14 := mac hx3 hy2 e13.2.2 e11.2.1 (two m14) (two a14) b14 (two c14) d14
  have e15 := mac hx3 hy3 e14.2.2 e11.2.2 (two m15) (two a15) b15 (two c15) d15
  have e16 := mac h38 e13.2.1 hz hz (two m16) (two a16) b16 (two c16) d16
  have e17 := mac h38 e14.2.1 e16.2.2 hz (two m17) (two a17) b17 (two c17) d17
  have e18 := mac h38 e15.2.1 e17.2.2 hz (two m18) (two a18) b18 (two c18) d18
  have e19 := mac h38 e15.2.2 e18.2.2 hz (two m19) (two a19) b19 (two c19) d19
  clear m0 a0 b0 c0 d0 m1 a1 b1 c1 d1 m2 a2 b2 c2 d2 m3 a3 b3 c3 d3 m4 a4 b4 c4 d4 m5 a5 b5 c5 d5 m6 a6 b6 c6 d6 m7 a7 b7 c7 d7 m8 a8 b8 c8 d8 m9 a9 b9 c9 d9 m10 a10 b10 c10 d10 m11 a11 b11 c11 d11 m12 a12 b12 c12 d12 m13 a13 b13 c13 d13 m14 a14 b14 c14 d14 m15 a15 b15 c15 d15 m16 a16 b16 c16 d16 m17 a17 b17 c17 d17 m18 a18 b18 c18 d18 m19 a19 b19 c19 d19
  have val : dv MM [ρ 13, ρ 45, ρ 77, ρ 109, ρ 117, ρ 125, ρ 133, ρ 135] = dv MM [x0, x1, x2, x3] * dv MM [y0, y1, y2, y3] := by
    rw [mul44]
    simp only [dv, MM] at e0 e1 e2 e3 e4 e5 e6 e7 e8 e9 e10 e11 e12 e13 e14 e15 ⊢
    generalize x0 * y0 = p00 at *
    generalize x0 * y1 = p01 at *
    generalize x0 * y2 = p02 at *
    generalize x0 * y3 = p03 at *
    generalize x1 * y0 = p10 at *
    generalize x1 * y1 = p11 at *
    generalize x1 * y2 = p12 at *
    generalize x1 * y3 = p13 at *
    generalize x2 * y0 = p20 at *
    generalize x2 * y1 = p21 at *
    generalize x2 * y2 = p22 at *
    generalize x2 * y3 = p23 at *
    generalize x3 * y0 = p30 at *
    generalize x3 * y1 = p31 at *
    generalize x3 * y2 = p32 at *
    generalize x3 * y3 = p33 at *
    omega
  have uval : dv MM [ρ 141, ρ 149, ρ 157, ρ 165] + WW * ρ 167 = 38 * dv MM [ρ 117, ρ 125, ρ 133, ρ 135] := by
    simp only [dv, MM, WW] at e16 e17 e18 e19 ⊢
    omega
  have WWv : WW = 115792089237316195423570985008687907853269984665640564039457584007913129639936 := rfl
  have lo : 0 ≤ dv MM [ρ 13, ρ 45, ρ 77, ρ 109] ∧ dv MM [ρ 13, ρ 45, ρ 77, ρ 109] < WW := dvbd e0.2.1 e4.2.1 e8.2.1 e12.2.1
  have hi : 0 ≤ dv MM [ρ 117, ρ 125, ρ 133, ρ 135] ∧ dv MM [ρ 117, ρ 125, ρ 133, ρ 135] < WW := dvbd e13.2.1 e14.2.1 e15.2.1 e15.2.2
  have ulo : 0 ≤ dv MM [ρ 141, ρ 149, ρ 157, ρ 165] ∧ dv MM [ρ 141, ρ 149, ρ 157, ρ 165] < WW := dvbd e16.2.1 e17.2.1 e18.2.1 e19.2.1
  have u4 : 0 ≤ ρ 167 := e19.2.2.1
  have val2 : dv MM [ρ 13, ρ 45, ρ 77, ρ 109] + WW * dv MM [ρ 117, ρ 125, ρ 133, ρ 135] = dv MM [x0, x1, x2, x3] * dv MM [y0, y1, y2, y3] := by
    rw [← val]; simp only [dv, MM, WW]; omega
  clear e0 e1 e2 e3 e4 e5 e6 e7 e8 e9 e10 e11 e12 e13 e14 e15 e16 e17 e18 e19 val
  have q1 : dv MM [x0, x1, x2, x3] * dv MM [y0, y1, y2, y3] % WW = dv MM [ρ 13, ρ 45, ρ 77, ρ 109] := by rw [← val2, Int.add_mul_emod_self_left, Int.emod_eq_of_lt lo.1 lo.2]
  have q2 : dv MM [x0, x1, x2, x3] * dv MM [y0, y1, y2, y3] / WW = dv MM [ρ 117, ρ 125, ρ 133, ρ 135] := by rw [← val2, Int.add_mul_ediv_left _ _ (by omega), Int.ediv_eq_zero_of_lt lo.1 lo.2]; omega
  have q3 : 38 * dv MM [ρ 117, ρ 125, ρ 133, ρ 135] % WW = dv MM [ρ 141, ρ 149, ρ 157, ρ 165] := by rw [← uval, Int.add_mul_emod_self_left, Int.emod_eq_of_lt ulo.1 ulo.2]
  have q4 : 38 * dv MM [ρ 117, ρ 125, ρ 133, ρ 135] / WW = ρ 167 := by rw [← uval, Int.add_mul_ediv_left _ _ (by omega), Int.ediv_eq_zero_of_lt ulo.1 ulo.2]; omega
  have u5 : ρ 167 ≤ 1000 := by simp only [WW] at uval hi ulo; omega
  have sq : seg ρ 168 4 = dg MM 4 (plusZ (dv MM [ρ 13, ρ 45, ρ 77, ρ 109]) (dv MM [ρ 141, ρ 149, ρ 157, ρ 165])) := seg_of hq (dg_len _ _ _)
  have sn : seg ρ 172 4 = dg MM 4 (foldZ (dv MM (seg ρ 168 4)) (ρ 167)) := seg_of hn (dg_len _ _ _)
  have pb := plusZ_bd lo.1 lo.2 ulo.1 ulo.2
  rw [sq, dvW pb.1 pb.2] at sn
  refine ⟨?_, ?_⟩
  · simp only [G_nil, G_bin, G_cmp, G_not, G_conv, G_eqs, G_call, G_cond, G_need, G_idx, G_sel, G_upd, G_shv, G_beq, List.map_cons, List.map_nil, Ref.den]
    exact ⟨trivial, .inl rfl, .inl rfl, trivial, .inl rfl, .inl rfl, trivial, .inl rfl, .inl rfl, trivial, .inl rfl, .inl rfl, trivial, .inl rfl, .inl rfl, trivial, .inl rfl, .inl rfl, trivial, .inl rfl, .inl rfl, trivial, .inl rfl, .inl rfl, trivial, .inl rfl, .inl rfl, trivial, .inl rfl, .inl rfl, trivial, .inl rfl, .inl rfl, trivial, .inl rfl, .inl rfl, trivial, .inl rfl, .inl rfl, trivial, .inl rfl, .inl rfl, trivial, .inl rfl, .inl rfl, trivial, .inl rfl, .inl rfl, trivial, .inl rfl, .inl rfl, trivial, .inl rfl, .inl rfl, trivial, .inl rfl, .inl rfl, trivial, .inl rfl, .inl rfl, trivial, u5, trivial⟩
  · show seg ρ 172 4 = dg MM 4 (timesZ (dv MM [x0, x1, x2, x3]) (dv MM [y0, y1, y2, y3]))
    rw [sn, timesZ, q1, q2, q3, q4]
#print axioms okTimes
end Go.Proofs.Ytfobnajgnnccmaa
