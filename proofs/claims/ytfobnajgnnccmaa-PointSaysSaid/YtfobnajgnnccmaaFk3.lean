/- Numbers modulo p: what is shown of reading, writing, sums, products. No condition. -/
import Derived.Test.YtfobnajgnnccmaaFk2
import Derived.Test.YtfobnajgnnccmaaPlainM
namespace Go.Bx
theorem MM_pow : (256 : Int) ^ 8 = MM := by decide
theorem word_dig0 (x : Int) : dg 256 8 x = [x / 2 ^ 0 % 256, x / 2 ^ 8 % 256, x / 2 ^ 16 % 256, x / 2 ^ 24 % 256, x / 2 ^ 32 % 256, x / 2 ^ 40 % 256, x / 2 ^ 48 % 256, x / 2 ^ 56 % 256] := by
  rw [word_dig]; simp only [Int.reducePow, Int.ediv_one]
theorem foldZ_bd {X n : Int} (h0 : 0 ≤ X) (h1 : X < WW) (n0 : 0 ≤ n) (n1 : n ≤ 1000) : 0 ≤ foldZ X n ∧ foldZ X n < WW := by
  unfold foldZ; split
  · omega
  · have : (38038 : Int) < WW := by decide
    omega
theorem mul_lt_MM {x y : Int} (hx : 0 ≤ x ∧ x < MM) (hy : 0 ≤ y ∧ y < MM) : 0 ≤ x * y ∧ x * y ≤ (MM - 1) * (MM - 1) := by
  refine ⟨Int.mul_nonneg hx.1 hy.1, ?_⟩
  exact Int.mul_le_mul (by omega) (by omega) hy.1 (by unfold MM; omega)
/-- A step of a long product. -/
theorem mac {x y c t hi lo lo' z hi' t' z' c' : Int} (hx : 0 ≤ x ∧ x < MM) (hy : 0 ≤ y ∧ y < MM) (hc : 0 ≤ c ∧ c < MM) (ht : 0 ≤ t ∧ t < MM)
    (h1 : hi = x * y / MM ∧ lo = x * y % MM) (h2 : lo' = (lo + c + 0) % MM ∧ z = (lo + c + 0) / MM) (h3 : hi' = (hi + z) % 18446744073709551616) (h4 : t' = (t + lo' + 0) % MM ∧ z' = (t + lo' + 0) / MM) (h5 : c' = (hi' + z') % 18446744073709551616) :
    t' + MM * c' = t + x * y + c ∧ (0 ≤ t' ∧ t' < MM) ∧ (0 ≤ c' ∧ c' < MM) := by
  have hp := mul_lt_MM hx hy
  generalize x * y = p at *
  unfold MM at *
  omega
theorem mul44 (x0 x1 x2 x3 y0 y1 y2 y3 : Int) : dv MM [x0, x1, x2, x3] * dv MM [y0, y1, y2, y3] = x0 * y0 + MM * (x0 * y1 + x1 * y0 + MM * (x0 * y2 + x1 * y1 + x2 * y0 + MM * (x0 * y3 + x1 * y2 + x2 * y1 + x3 * y0 + MM * (x1 * y3 + x2 * y2 + x3 * y1 + MM * (x2 * y3 + x3 * y2 + MM * (x3 * y3)))))) := by
  simp only [dv, Int.mul_zero, Int.add_zero]; grind
end Go.Bx
namespace Go.Proofs.Ytfobnajgnnccmaa
open Go.RowKit Go.Bx Go.Sx
set_option linter.unusedSimpArgs false
theorem okFrom : CtrOK Try.prog sfns cFrom := by
  refine CtrOK.of okT0 mixed (lf := 300) (d := 5) rfl fun w vs xs ha _ => ?_
  obtain ⟨v, a, rfl, rfl, ⟨la, -, ia⟩⟩ := open1 ha
  refine Go.Sx.Way.of (dec := []) (fs := [.conv 32 .u64 (.v 0), .bin 33 .shl .u64 (.v 32) (.l 0), .bin 34 .or .u64 (.l 0) (.v 33), .conv 35 .u64 (.v 1), .bin 36 .shl .u64 (.v 35) (.l 8), .bin 37 .or .u64 (.v 34) (.v 36), .conv 38 .u64 (.v 2), .bin 39 .shl .u64 (.v 38) (.l 16), .bin 40 .or .u64 (.v 37) (.v 39), .conv 41 .u64 (.v 3), .bin 42 .shl .u64 (.v 41) (.l 24), .bin 43 .or .u64 (.v 40) (.v 42), .conv 44 .u64 (.v 4), .bin 45 .shl .u64 (.v 44) (.l 32), .bin 46 .or .u64 (.v 43) (.v 45), .conv 47 .u64 (.v 5), .bin 48 .shl .u64 (.v 47) (.l 40), .bin 49 .or .u64 (.v 46) (.v 48), .conv 50 .u64 (.v 6), .bin 51 .shl .u64 (.v 50) (.l 48), .bin 52 .or .u64 (.v 49) (.v 51), .conv 53 .u64 (.v 7), .bin 54 .shl .u64 (.v 53) (.l 56), .bin 55 .or .u64 (.v 52) (.v 54), .conv 56 .u64 (.v 8), .bin 57 .shl .u64 (.v 56) (.l 0), .bin 58 .or .u64 (.l 0) (.v 57), .conv 59 .u64 (.v 9), .bin 60 .shl .u64 (.v 59) (.l 8), .bin 61 .or .u64 (.v 58) (.v 60), .conv 62 .u64 (.v 10), .bin 63 .shl .u64 (.v 62) (.l 16), .bin 64 .or .u64 (.v 61) (.v 63), .conv 65 .u64 (.v 11), .bin 66 .shl .u64 (.v 65) (.l 24), .bin 67 .or .u64 (.v 64) (.v 66), .conv 68 .u64 (.v 12), .bin 69 .shl .u64 (.v 68) (.l 32), .bin 70 .or .u64 (.v 67) (.v 69), .conv 71 .u64 (.v 13), .bin 72 .shl .u64 (.v 71) (.l 40), .bin 73 .or .u64 (.v 70) (.v 72), .conv 74 .u64 (.v 14), .bin 75 .shl .u64 (.v 74) (.l 48), .bin 76 .or .u64 (.v 73) (.v 75), .conv 77 .u64 (.v 15), .bin 78 .shl .u64 (.v 77) (.l 56), .bin 79 .or .u64 (.v 76) (.v 78), .conv 80 .u64 (.v 16), .bin 81 .shl .u64 (.v 80) (.l 0), .bin 82 .or .u64 (.l 0) (.v 81), .conv 83 .u64 (.v 17), .bin 84 .shl .u64 (.v 83) (.l 8), .bin 85 .or .u64 (.v 82) (.v 84), .conv 86 .u64 (.v 18), .bin 87 .shl .u64 (.v 86) (.l 16), .bin 88 .or .u64 (.v 85) (.v 87), .conv 89 .u64 (.v 19), .bin 90 .shl .u64 (.v 89) (.l 24), .bin 91 .or .u64 (.v 88) (.v 90), .conv 92 .u64 (.v 20), .bin 93 .shl .u64 (.v 92) (.l 32), .bin 94 .or .u64 (.v 91) (.v 93), .conv 95 .u64 (.v 21), .bin 96 .shl .u64 (.v 95) (.l 40), .bin 97 .or .u64 (.v 94) (.v 96), .conv 98 .u64 (.v 22), .bin 99 .shl .u64 (.v 98) (.l 48), .bin 100 .or .u64 (.v 97) (.v 99), .conv 101 .u64 (.v 23), .bin 102 .shl .u64 (.v 101) (.l 56), .bin 103 .or .u64 (.v 100) (.v 102), .conv 104 .u64 (.v 24), .bin 105 .shl .u64 (.v 104) (.l 0), .bin 106 .or .u64 (.l 0) (.v 105), .conv 107 .u64 (.v 25), .bin 108 .shl .u64 (.v 107) (.l 8), .bin 109 .or .u64 (.v 106) (.v 108), .conv 110 .u64 (.v 26), .bin 111 .shl .u64 (.v 110) (.l 16), .bin 112 .or .u64 (.v 109) (.v 111), .conv 113 .u64 (.v 27), .bin 114 .shl .u64 (.v 113) (.l 24), .bin 115 .or .u64 (.v 112) (.v 114), .conv 116 .u64 (.v 28), .bin 117 .shl .u64 (.v 116) (.l 32), .bin 118 .or .u64 (.v 115) (.v 117), .conv 119 .u64 (.v 29), .bin 120 .shl .u64 (.v 119) (.l 40), .bin 121 .or .u64 (.v 118) (.v 120), .conv 122 .u64 (.v 30), .bin 123 .shl .u64 (.v 122) (.l 48), .bin 124 .or .u64 (.v 121) (.v 123), .conv 125 .u64 (.v 31), .bin 126 .shl .u64 (.v 125) (.l 56), .bin 127 .or .u64 (.v 124) (.v 126)]) (refs := [.v 55, .v 79, .v 103, .v 127]) (by kernel_rfl) fun ρ hρ hd => ?_
  have hx : ∀ i, i < 32 → ρ i = a.getD i 0 := fun i hi => by
    rw [hρ i hi]; simp only [flat, List.flatten_cons, List.flatten_nil, List.append_nil]
  have hb : ∀ i, i < 32 → 0 ≤ ρ i ∧ ρ i < 256 := fun i hi => by rw [hx i hi]; exact digl (dig8 ia) (by omega)
  have ea : a = (List.range 32).map fun i => ρ (0 + i) := arr_eq la fun i hi => by rw [Nat.zero_add]; exact hx i hi
  simp only [D_nil, D_add, D_sub, D_mul, D_and, D_or, D_xor, D_shl, D_shr, D_andNot, D_quo, D_rem, D_add_i64, D_sub_i64, D_mul_i64, D_add_u32, D_sub_u32, D_mul_u32, D_add_u8, D_sub_u8, D_mul_u8, D_eql, D_neq, D_lss, D_leq, D_gtr, D_geq, D_not, D_conv, D_eqs, D_call, D_cond, D_need, D_idx, D_sel, D_upd, D_shv, D_beq, List.map_cons, List.map_nil, Ref.den] at hd
  obtain ⟨hc0, hs0, ho0, hc1, hs1, ho1, hc2, hs2, ho2, hc3, hs3, ho3, hc4, hs4, ho4, hc5, hs5, ho5, hc6, hs6, ho6, hc7, hs7, ho7, hc8, hs8, ho8, hc9, hs9, ho9, hc10, hs10, ho10, hc11, hs11, ho11, hc12, hs12, ho12, hc13, hs13, ho13, hc14, hs14, ho14, hc15, hs15, ho15, hc16, hs16, ho16, hc17, hs17, ho17, hc18, hs18, ho18, hc19, hs19, ho19, hc20, hs20, ho20, hc21, hs21, ho21, hc22, hs22, ho22, hc23, hs23, ho23, hc24, hs24, ho24, hc25, hs25, ho25, hc26, hs26, ho26, hc27, hs27, ho27, hc28, hs28, ho28, hc29, hs29, ho29, hc30, hs30, ho30, hc31, hs31, ho31, -⟩ := hd
  have w0 := bytes8 (hb 0 (by decide)) hc0 hs0 ho0 (hb 1 (by decide)) hc1 hs1 ho1 (hb 2 (by decide)) hc2 hs2 ho2 (hb 3 (by decide)) hc3 hs3 ho3 (hb 4 (by decide)) hc4 hs4 ho4 (hb 5 (by decide)) hc5 hs5 ho5 (hb 6 (by decide)) hc6 hs6 ho6 (hb 7 (by decide)) hc7 hs7 ho7
  have w1 := bytes8 (hb 8 (by decide)) hc8 hs8 ho8 (hb 9 (by decide)) hc9 hs9 ho9 (hb 10 (by decide)) hc10 hs10 ho10 (hb 11 (by decide)) hc11 hs11 ho11 (hb 12 (by decide)) hc12 hs12 ho12 (hb 13 (by decide)) hc13 hs13 ho13 (hb 14 (by decide)) hc14 hs14 ho14 (hb 15 (by decide)) hc15 hs15 ho15
  have w2 := bytes8 (hb 16 (by decide)) hc16 hs16 ho16 (hb 17 (by decide)) hc17 hs17 ho17 (hb 18 (by decide)) hc18 hs18 ho18 (hb 19 (by decide)) hc19 hs19 ho19 (hb 20 (by decide)) hc20 hs20 ho20 (hb 21 (by decide)) hc21 hs21 ho21 (hb 22 (by decide)) hc22 hs22 ho22 (hb 23 (by decide)) hc23 hs23 ho23
  have w3 := bytes8 (hb 24 (by decide)) hc24 hs24 ho24 (hb 25 (by decide)) hc25 hs25 ho25 (hb 26 (by decide)) hc26 hs26 ho26 (hb 27 (by decide)) hc27 hs27 ho27 (hb 28 (by decide)) hc28 hs28 ho28 (hb 29 (by decide)) hc29 hs29 ho29 (hb 30 (by decide)) hc30 hs30 ho30 (hb 31 (by decide)) hc31 hs31 ho31
  clear hc0 hs0 ho0 hc1 hs1 ho1 hc2 hs2 ho2 hc3 hs3 ho3 hc4 hs4 ho4 hc5 hs5 ho5 hc6 hs6 ho6 hc7 hs7 ho7 hc8 hs8 ho8 hc9 hs9 ho9 hc10 hs10 ho10 hc11 hs11 ho11 hc12 hs12 ho12 hc13 hs13 ho13 hc14 hs14 ho14 hc15 hs15 ho15 hc16 hs16 ho16 hc17 hs17 ho17 hc18 hs18 ho18 hc19 hs19 ho19 hc20 hs20 ho20 hc21 hs21 ho21 hc22 hs22 ho22 hc23 hs23 ho23 hc24 hs24 ho24 hc25 hs25 ho25 hc26 hs26 ho26 hc27 hs27 ho27 hc28 hs28 ho28 hc29 hs29 ho29 hc30 hs30 ho30 hc31 hs31 ho31
  refine ⟨by simp only [G_nil, G_bin, G_cmp, G_not, G_conv, G_eqs, G_call, G_cond, G_need, G_idx, G_sel, G_upd, G_shv, G_beq, List.map_cons, List.map_nil, Ref.den], ?_⟩
  show [ρ 55, ρ 79, ρ 103, ρ 127] = dg MM 4 (dv 256 a)
  refine dg_eq MM_pos rfl ((Dig.cons w0.2.1 w0.2.2 (Dig.cons w1.2.1 w1.2.2 (Dig.cons w2.2.1 w2.2.2 (Dig.cons w3.2.1 w3.2.2 Dig.nil))))) ?_
  rw [ea]
  show dv MM [ρ 55, ρ 79, ρ 103, ρ 127] = dv 256 ([ρ 0, ρ 1, ρ 2, ρ 3, ρ 4, ρ 5, ρ 6, ρ 7] ++ ([ρ 8, ρ 9, ρ 10, ρ 11, ρ 12, ρ 13, ρ 14, ρ 15] ++ ([ρ 16, ρ 17, ρ 18, ρ 19, ρ 20, ρ 21, ρ 22, ρ 23] ++ ([ρ 24, ρ 25, ρ 26, ρ 27, ρ 28, ρ 29, ρ 30, ρ 31]))))
  have := of_bytes [ρ 0, ρ 1, ρ 2, ρ 3, ρ 4, ρ 5, ρ 6, ρ 7] [ρ 8, ρ 9, ρ 10, ρ 11, ρ 12, ρ 13, ρ 14, ρ 15] [ρ 16, ρ 17, ρ 18, ρ 19, ρ 20, ρ 21, ρ 22, ρ 23] [ρ 24, ρ 25, ρ 26, ρ 27, ρ 28, ρ 29, ρ 30, ρ 31] rfl rfl rfl rfl 0
  simp only [Int.mul_zero, Int.add_zero] at this
  rw [← w0.1, ← w1.1, ← w2.1, ← w3.1] at this
  rw [← this]
  simp only [dv, MM]
  omega
def TW : List Ctr := [cNorm]
theorem okTW : ∀ c ∈ TW, CtrOK Try.prog sfns c := by
  intro c hc
  simp only [TW, List.mem_cons, List.not_mem_nil, or_false] at hc
  rcases hc with rfl
  exact okNorm
theorem okWord : CtrOK Try.prog sfns cWord := by
  refine CtrOK.of okTW mixed (lf := 300) (d := 5) rfl fun w vs xs ha _ => ?_
  obtain ⟨v, a, rfl, rfl, ⟨la, -, ia⟩⟩ := open1 ha
  refine Go.Sx.Way.of (dec := []) (fs := [.need 12 [[.v 0, .v 1, .v 2, .v 3]], .call 4 12 [[.v 0, .v 1, .v 2, .v 3]] 4, .bin 8 .shr .u64 (.v 4) (.l 0), .conv 9 .u8 (.v 8), .bin 10 .shr .u64 (.v 4) (.l 8), .conv 11 .u8 (.v 10), .bin 12 .shr .u64 (.v 4) (.l 16), .conv 13 .u8 (.v 12), .bin 14 .shr .u64 (.v 4) (.l 24), .conv 15 .u8 (.v 14), .bin 16 .shr .u64 (.v 4) (.l 32), .conv 17 .u8 (.v 16), .bin 18 .shr .u64 (.v 4) (.l 40), .conv 19 .u8 (.v 18), .bin 20 .shr .u64 (.v 4) (.l 48), .conv 21 .u8 (.v 20), .bin 22 .shr .u64 (.v 4) (.l 56), .conv 23 .u8 (.v 22), .bin 24 .shr .u64 (.v 5) (.l 0), .conv 25 .u8 (.v 24), .bin 26 .shr .u64 (.v 5) (.l 8), .conv 27 .u8 (.v 26), .bin 28 .shr .u64 (.v 5) (.l 16), .conv 29 .u8 (.v 28), .bin 30 .shr .u64 (.v 5) (.l 24), .conv 31 .u8 (.v 30), .bin 32 .shr .u64 (.v 5) (.l 32), .conv 33 .u8 (.v 32), .bin 34 .shr .u64 (.v 5) (.l 40), .conv 35 .u8 (.v 34), .bin 36 .shr .u64 (.v 5) (.l 48), .conv 37 .u8 (.v 36), .bin 38 .shr .u64 (.v 5) (.l 56), .conv 39 .u8 (.v 38), .bin 40 .shr .u64 (.v 6) (.l 0), .conv 41 .u8 (.v 40), .bin 42 .shr .u64 (.v 6) (.l 8), .conv 43 .u8 (.v 42), .bin 44 .shr .u64 (.v 6) (.l 16), .conv 45 .u8 (.v 44), .bin 46 .shr .u64 (.v 6) (.l 24), .conv 47 .u8 (.v 46), .bin 48 .shr .u64 (.v 6) (.l 32), .conv 49 .u8 (.v 48), .bin 50 .shr .u64 (.v 6) (.l 40), .conv 51 .u8 (.v 50), .bin 52 .shr .u64 (.v 6) (.l 48), .conv 53 .u8 (.v 52), .bin 54 .shr .u64 (.v 6) (.l 56), .conv 55 .u8 (.v 54), .bin 56 .shr .u64 (.v 7) (.l 0), .conv 57 .u8 (.v 56), .bin 58 .shr .u64 (.v 7) (.l 8), .conv 59 .u8 (.v 58), .bin 60 .shr .u64 (.v 7) (.l 16), .conv 61 .u8 (.v 60), .bin 62 .shr .u64 (.v 7) (.l 24), .conv 63 .u8 (.v 62), .bin 64 .shr .u64 (.v 7) (.l 32), .conv 65 .u8 (.v 64), .bin 66 .shr .u64 (.v 7) (.l 40), .conv 67 .u8 (.v 66), .bin 68 .shr .u64 (.v 7) (.l 48), .conv 69 .u8 (.v 68), .bin 70 .shr .u64 (.v 7) (.l 56), .conv 71 .u8 (.v 70)]) (refs := [.v 9, .v 11, .v 13, .v 15, .v 17, .v 19, .v 21, .v 23, .v 25, .v 27, .v 29, .v 31, .v 33, .v 35, .v 37, .v 39, .v 41, .v 43, .v 45, .v 47, .v 49, .v 51, .v 53, .v 55, .v 57, .v 59, .v 61, .v 63, .v 65, .v 67, .v 69, .v 71]) (by kernel_rfl) fun ρ hρ hd => ?_
  have ea := seg0 la hρ
  have hP := PP_lt
  have m0 := Int.emod_nonneg (dv MM a) (b := PP) (by omega)
  have m1 := Int.emod_lt_of_pos (dv MM a) hP.1
  simp only [D_nil, D_add, D_sub, D_mul, D_and, D_or, D_xor, D_shl, D_shr, D_andNot, D_quo, D_rem, D_add_i64, D_sub_i64, D_mul_i64, D_add_u32, D_sub_u32, D_mul_u32, D_add_u8, D_sub_u8, D_mul_u8, D_eql, D_neq, D_lss, D_leq, D_gtr, D_geq, D_not, D_conv, D_eqs, D_call, D_cond, D_need, D_idx, D_sel, D_upd, D_shv, D_beq, List.map_cons, List.map_nil, Ref.den] at hd
  obtain ⟨hn, h0, g0, h1, g1, h2, g2, h3, g3, h4, g4, h5, g5, h6, g6, h7, g7, h8, g8, h9, g9, h10, g10, h11, g11, h12, g12, h13, g13, h14, g14, h15, g15, h16, g16, h17, g17, h18, g18, h19, g19, h20, g20, h21, g21, h22, g22, h23, g23, h24, g24, h25, g25, h26, g26, h27, g27, h28, g28, h29, g29, h30, g30, h31, g31, -⟩ := hd
  have en : seg ρ 4 4 = dg MM 4 (dv MM (seg ρ 0 4) % PP) := seg_of hn (dg_len _ _ _)
  rw [ea] at en
  rw [c_u8, u_shr 0 (by decide) h0 rfl] at g0
  rw [c_u8, u_shr 8 (by decide) h1 rfl] at g1
  rw [c_u8, u_shr 16 (by decide) h2 rfl] at g2
  rw [c_u8, u_shr 24 (by decide) h3 rfl] at g3
  rw [c_u8, u_shr 32 (by decide) h4 rfl] at g4
  rw [c_u8, u_shr 40 (by decide) h5 rfl] at g5
  rw [c_u8, u_shr 48 (by decide) h6 rfl] at g6
  rw [c_u8, u_shr 56 (by decide) h7 rfl] at g7
  rw [c_u8, u_shr 0 (by decide) h8 rfl] at g8
  rw [c_u8, u_shr 8 (by decide) h9 rfl] at g9
  rw [c_u8, u_shr 16 (by decide) h10 rfl] at g10
  rw [c_u8, u_shr 24 (by decide) h11 rfl] at g11
  rw [c_u8, u_shr 32 (by decide) h12 rfl] at g12
  rw [c_u8, u_shr 40 (by decide) h13 rfl] at g13
  rw [c_u8, u_shr 48 (by decide) h14 rfl] at g14
  rw [c_u8, u_shr 56 (by decide) h15 rfl] at g15
  rw [c_u8, u_shr 0 (by decide) h16 rfl] at g16
  rw [c_u8, u_shr 8 (by decide) h17 rfl] at g17
  rw [c_u8, u_shr 16 (by decide) h18 rfl] at g18
  rw [c_u8, u_shr 24 (by decide) h19 rfl] at g19
  rw [c_u8, u_shr 32 (by decide) h20 rfl] at g20
  rw [c_u8, u_shr 40 (by decide) h21 rfl] at g21
  rw [c_u8, u_shr 48 (by decide) h22 rfl] at g22
  rw [c_u8, u_shr 56 (by decide) h23 rfl] at g23
  rw [c_u8, u_shr 0 (by decide) h24 rfl] at g24
  rw [c_u8, u_shr 8 (by decide) h25 rfl] at g25
  rw [c_u8, u_shr 16 (by decide) h26 rfl] at g26
  rw [c_u8, u_shr 24 (by decide) h27 rfl] at g27
  rw [c_u8, u_shr 32 (by decide) h28 rfl] at g28
  rw [c_u8, u_shr 40 (by decide) h29 rfl] at g29
  rw [c_u8, u_shr 48 (by decide) h30 rfl] at g30
  rw [c_u8, u_shr 56 (by decide) h31 rfl] at g31
  refine ⟨by simp only [G_nil, G_bin, G_cmp, G_not, G_conv, G_eqs, G_call, G_cond, G_need, G_idx, G_sel, G_upd, G_shv, G_beq, List.map_cons, List.map_nil, Ref.den]; exact ⟨trivial, trivial⟩, ?_⟩
  show [ρ 9, ρ 11, ρ 13, ρ 15, ρ 17, ρ 19, ρ 21, ρ 23, ρ 25, ρ 27, ρ 29, ρ 31, ρ 33, ρ 35, ρ 37, ρ 39, ρ 41, ρ 43, ρ 45, ρ 47, ρ 49, ρ 51, ρ 53, ρ 55, ρ 57, ρ 59, ρ 61, ρ 63, ρ 65, ρ 67, ρ 69, ρ 71] = dg 256 (4 * 8) (dv MM a % PP)
  rw [dg_flat (by decide), MM_pow, ← en]
  show _ = ([ρ 4, ρ 5, ρ 6, ρ 7] : List Int).flatMap fun x => dg 256 8 x
  simp only [List.flatMap_cons, List.flatMap_nil, word_dig0, g0, g1, g2, g3, g4, g5, g6, g7, g8, g9, g10, g11, g12, g13, g14, g15, g16, g17, g18, g19, g20, g21, g22, g23, g24, g25, g26, g27, g28, g29, g30, g31, List.cons_append, List.nil_append]
theorem okFold : CtrOK Try.prog sfns cFold := by
  refine CtrOK.of okT0 mixed (lf := 300) (d := 5) rfl fun w vs xs ha hpre => ?_
  obtain ⟨v, u, a, b, rfl, rfl, ⟨la, -, ia⟩, ⟨n, rfl, rfl, hn⟩⟩ := open2 ha
  have hA := bdW la ia
  have hn1 : n ≤ 1000 := hpre
  have hn0 := (in64 hn).1
  have hP := PP_lt
  have hdig : dg MM 4 (dv MM a) = a := by have := dg_dv MM_pos (dig64 ia); rwa [la] at this
  obtain ⟨x0, x1, x2, x3, rfl⟩ := len4 la
  have i0 := in64 (ia x0 (by simp))
  have i1 := in64 (ia x1 (by simp))
  have i2 := in64 (ia x2 (by simp))
  have i3 := in64 (ia x3 (by simp))
  obtain ⟨X, hX⟩ : ∃ X, X = dv MM [x0, x1, x2, x3] := ⟨_, rfl⟩
  have hX' : X = x0 + 18446744073709551616 * x1 + 340282366920938463463374607431768211456 * x2 + 6277101735386680763835789423207666416102355444464034512896 * x3 := by rw [hX]; simp only [dv, MM]; omega
  show Go.Sx.Way Try.prog sfns T0 300 5 cFold [[x0, x1, x2, x3], [n]] (dg MM 4 (foldZ (dv MM [x0, x1, x2, x3]) n))
  rw [← hX] at hdig hA ⊢
  have four : ∀ y0 y1 y2 y3 Y : Int, (0 ≤ y0 ∧ y0 < 18446744073709551616) → (0 ≤ y1 ∧ y1 < 18446744073709551616) → (0 ≤ y2 ∧ y2 < 18446744073709551616) → (0 ≤ y3 ∧ y3 < 18446744073709551616) → Y = y0 + 18446744073709551616 * y1 + 340282366920938463463374607431768211456 * y2 + 6277101735386680763835789423207666416102355444464034512896 * y3 → [y0, y1, y2, y3] = dg MM 4 Y := by
    intro y0 y1 y2 y3 Y h0 h1 h2 h3 e
    exact dg_eq MM_pos rfl (Dig.cons h0.1 h0.2 (Dig.cons h1.1 h1.2 (Dig.cons h2.1 h2.2 (Dig.cons h3.1 h3.2 Dig.nil)))) (by rw [e]; simp only [dv, MM]; omega)
  have W38 : (38038 : Int) < WW := by decide
  have WWv : WW = 115792089237316195423570985008687907853269984665640564039457584007913129639936 := rfl
  by_cases hz : n = 0
  · refine Go.Sx.Way.of (dec := [false]) (fs := [.cmp 5 .gtr (.v 4) (.l 0), .cond 5 false]) (refs := [.v 0, .v 1, .v 2, .v 3]) (by kernel_rfl) fun ρ hρ hd => ?_
    have r0 : ρ 0 = x0 := hρ 0 (by decide)
    have r1 : ρ 1 = x1 := hρ 1 (by decide)
    have r2 : ρ 2 = x2 := hρ 2 (by decide)
    have r3 : ρ 3 = x3 := hρ 3 (by decide)
    have r4 : ρ 4 = n := hρ 4 (by decide)
    simp only [D_nil, D_add, D_sub, D_mul, D_and, D_or, D_xor, D_shl, D_shr, D_andNot, D_quo, D_rem, D_add_i64, D_sub_i64, D_mul_i64, D_add_u32, D_sub_u32, D_mul_u32, D_add_u8, D_sub_u8, D_mul_u8, D_eql, D_neq, D_lss, D_leq, D_gtr, D_geq, D_not, D_conv, D_eqs, D_call, D_cond, D_need, D_idx, D_sel, D_upd, D_shv, D_beq, List.map_cons, List.map_nil, Ref.den, r0, r1, r2, r3, r4] at hd
    obtain ⟨h5, -⟩ := hd
    refine ⟨?_, ?_⟩
    · simp only [G_nil, G_bin, G_cmp, G_not, G_conv, G_eqs, G_call, G_cond, G_need, G_idx, G_sel, G_upd, G_shv, G_beq, List.map_cons, List.map_nil, Ref.den]; exact ⟨bit_false h5 (decide_eq_false (by omega)), trivial⟩
    · show [ρ 0, ρ 1, ρ 2, ρ 3] = _
      rw [r0, r1, r2, r3, foldZ, if_pos (by omega), hz, ← hdig]; congr 1; omega
  · by_cases hc : X + 38 * n < WW
    · refine Go.Sx.Way.of (dec := [true,false]) (fs := [.cmp 5 .gtr (.v 4) (.l 0), .cond 5 true, .bin 6 .mul .u64 (.v 4) (.l 38), .need 0 [[.v 0], [.v 6], [.l 0]], .call 7 0 [[.v 0], [.v 6], [.l 0]] 2, .need 0 [[.v 1], [.v 8], [.l 0]], .call 9 0 [[.v 1], [.v 8], [.l 0]] 2, .need 0 [[.v 2], [.v 10], [.l 0]], .call 11 0 [[.v 2], [.v 10], [.l 0]] 2, .need 0 [[.v 3], [.v 12], [.l 0]], .call 13 0 [[.v 3], [.v 12], [.l 0]] 2, .cmp 15 .gtr (.v 14) (.l 0), .cond 15 false]) (refs := [.v 7, .v 9, .v 11, .v 13]) (by kernel_rfl) fun ρ hρ hd => ?_
      have r0 : ρ 0 = x0 := hρ 0 (by decide)
      have r1 : ρ 1 = x1 := hρ 1 (by decide)
      have r2 : ρ 2 = x2 := hρ 2 (by decide)
      have r3 : ρ 3 = x3 := hρ 3 (by decide)
      have r4 : ρ 4 = n := hρ 4 (by decide)
      simp only [D_nil, D_add, D_sub, D_mul, D_and, D_or, D_xor, D_shl, D_shr, D_andNot, D_quo, D_rem, D_add_i64, D_sub_i64, D_mul_i64, D_add_u32, D_sub_u32, D_mul_u32, D_add_u8, D_sub_u8, D_mul_u8, D_eql, D_neq, D_lss, D_leq, D_gtr, D_geq, D_not, D_conv, D_eqs, D_call, D_cond, D_need, D_idx, D_sel, D_upd, D_shv, D_beq, List.map_cons, List.map_nil, Ref.den, r0, r1, r2, r3, r4] at hd
      obtain ⟨h5, h6, h7, h9, h11, h13, h15, -⟩ := hd
      obtain ⟨a0, c0⟩ := two h7
      obtain ⟨a1, c1⟩ := two h9
      obtain ⟨a2, c2⟩ := two h11
      obtain ⟨a3, c3⟩ := two h13
      simp only [Nat.reduceAdd] at c0 c1 c2 c3
      unfold MM at a0 a1 a2 a3 c0 c1 c2 c3
      have e14 : ρ 14 = 0 := by omega
      refine ⟨?_, ?_⟩
      · simp only [G_nil, G_bin, G_cmp, G_not, G_conv, G_eqs, G_call, G_cond, G_need, G_idx, G_sel, G_upd, G_shv, G_beq, List.map_cons, List.map_nil, Ref.den]
        exact ⟨bit_true h5 (decide_eq_true (by omega)), .inl rfl, .inl rfl, .inl rfl, .inl rfl, bit_false h15 (decide_eq_false (by omega)), trivial⟩
      · show [ρ 7, ρ 9, ρ 11, ρ 13] = _
        rw [foldZ, if_pos hc]
        exact four _ _ _ _ _ (by omega) (by omega) (by omega) (by omega) (by omega)
    · refine Go.Sx.Way.of (dec := [true,true,false]) (fs := [.cmp 5 .gtr (.v 4) (.l 0), .cond 5 true, .bin 6 .mul .u64 (.v 4) (.l 38), .need 0 [[.v 0], [.v 6], [.l 0]], .call 7 0 [[.v 0], [.v 6], [.l 0]] 2, .need 0 [[.v 1], [.v 8], [.l 0]], .call 9 0 [[.v 1], [.v 8], [.l 0]] 2, .need 0 [[.v 2], [.v 10], [.l 0]], .call 11 0 [[.v 2], [.v 10], [.l 0]] 2, .need 0 [[.v 3], [.v 12], [.l 0]], .call 13 0 [[.v 3], [.v 12], [.l 0]] 2, .cmp 15 .gtr (.v 14) (.l 0), .cond 15 true, .bin 16 .mul .u64 (.v 14) (.l 38), .need 0 [[.v 7], [.v 16], [.l 0]], .call 17 0 [[.v 7], [.v 16], [.l 0]] 2, .need 0 [[.v 9], [.v 18], [.l 0]], .call 19 0 [[.v 9], [.v 18], [.l 0]] 2, .need 0 [[.v 11], [.v 20], [.l 0]], .call 21 0 [[.v 11], [.v 20], [.l 0]] 2, .need 0 [[.v 13], [.v 22], [.l 0]], .call 23 0 [[.v 13], [.v 22], [.l 0]] 2, .cmp 25 .gtr (.v 24) (.l 0), .cond 25 false]) (refs := [.v 17, .v 19, .v 21, .v 23]) (by kernel_rfl) fun ρ hρ hd => ?_
      have r0 : ρ 0 = x0 := hρ 0 (by decide)
      have r1 : ρ 1 = x1 := hρ 1 (by decide)
      have r2 : ρ 2 = x2 := hρ 2 (by decide)
      have r3 : ρ 3 = x3 := hρ 3 (by decide)
      have r4 : ρ 4 = n := hρ 4 (by decide)
      simp only [D_nil, D_add, D_sub, D_mul, D_and, D_or, D_xor, D_shl, D_shr, D_andNot, D_quo, D_rem, D_add_i64, D_sub_i64, D_mul_i64, D_add_u32, D_sub_u32, D_mul_u32, D_add_u8, D_sub_u8, D_mul_u8, D_eql, D_neq, D_lss, D_leq, D_gtr, D_geq, D_not, D_conv, D_eqs, D_call, D_cond, D_need, D_idx, D_sel, D_upd, D_shv, D_beq, List.map_cons, List.map_nil, Ref.den, r0, r1, r2, r3, r4] at hd
      obtain ⟨h5, h6, h7, h9, h11, h13, h15, h16, h17, h19, h21, h23, h25, -⟩ := hd
      obtain ⟨a0, c0⟩ := two h7
      obtain ⟨a1, c1⟩ := two h9
      obtain ⟨a2, c2⟩ := two h11
      obtain ⟨a3, c3⟩ := two h13
      obtain ⟨a4, c4⟩ := two h17
      obtain ⟨a5, c5⟩ := two h19
      obtain ⟨a6, c6⟩ := two h21
      obtain ⟨a7, c7⟩ := two h23
      simp only [Nat.reduceAdd] at c0 c1 c2 c3 c4 c5 c6 c7
      unfold MM at a0 a1 a2 a3 c0 c1 c2 c3 a4 a5 a6 a7 c4 c5 c6 c7
      have e14 : ρ 14 = 1 := by omega
      have e1 : ρ 7 + 18446744073709551616 * ρ 9 + 340282366920938463463374607431768211456 * ρ 11 + 6277101735386680763835789423207666416102355444464034512896 * ρ 13 = X + 38 * n - WW := by omega
      have e16 : ρ 16 = 38 := by rw [h16, e14]; decide
      have k7 : 0 ≤ ρ 7 ∧ ρ 7 < 18446744073709551616 := by omega
      have k9 : 0 ≤ ρ 9 ∧ ρ 9 < 18446744073709551616 := by omega
      have k11 : 0 ≤ ρ 11 ∧ ρ 11 < 18446744073709551616 := by omega
      have k13 : 0 ≤ ρ 13 ∧ ρ 13 < 18446744073709551616 := by omega
      clear a0 a1 a2 a3 c0 c1 c2 c3 h7 h9 h11 h13 h17 h19 h21 h23
      have e24 : ρ 24 = 0 := by omega
      refine ⟨?_, ?_⟩
      · simp only [G_nil, G_bin, G_cmp, G_not, G_conv, G_eqs, G_call, G_cond, G_need, G_idx, G_sel, G_upd, G_shv, G_beq, List.map_cons, List.map_nil, Ref.den]
        exact ⟨bit_true h5 (decide_eq_true (by omega)), .inl rfl, .inl rfl, .inl rfl, .inl rfl, bit_true h15 (decide_eq_true (by omega)), .inl rfl, .inl rfl, .inl rfl, .inl rfl, bit_false h25 (decide_eq_false (by omega)), trivial⟩
      · show [ρ 17, ρ 19, ρ 21, ρ 23] = _
        rw [foldZ, if_neg hc]
        exact four _ _ _ _ _ (by omega) (by omega) (by omega) (by omega) (by omega)
#print axioms okFold
end Go.Proofs.Ytfobnajgnnccmaa
