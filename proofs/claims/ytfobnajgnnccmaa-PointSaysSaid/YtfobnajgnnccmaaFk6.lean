/- Numbers modulo p: what is shown of the exported functions. No condition. -/
import Derived.Test.YtfobnajgnnccmaaFk5
namespace Go.Bx
theorem foldZ_mod (X n : Int) : foldZ X n % PP = (X + 38 * n) % PP := by
  unfold foldZ; split
  · rfl
  · simp only [PP, WW]; omega
theorem plusZ_mod (A B : Int) : plusZ A B % PP = (A + B) % PP := by
  unfold plusZ; rw [foldZ_mod]; simp only [PP, WW]; omega
theorem minZ_mod (A B : Int) : minZ A B % PP = (A - B) % PP := by
  unfold minZ; split
  · rfl
  · split <;> (simp only [PP, WW]; omega)
theorem timesZ_mod (A B : Int) : timesZ A B % PP = A * B % PP := by
  unfold timesZ
  generalize A * B = T
  rw [foldZ_mod]
  have h := plusZ_mod (T % WW) (38 * (T / WW) % WW)
  generalize plusZ (T % WW) (38 * (T / WW) % WW) = p at *
  simp only [PP, WW] at *
  omega
theorem mulP (x y : Int) : (x % PP * y) % PP = (x * y) % PP := by rw [Int.mul_emod, Int.emod_emod, ← Int.mul_emod]
theorem mulP' (x y : Int) : (x * (y % PP)) % PP = (x * y) % PP := by rw [Int.mul_emod, Int.emod_emod, ← Int.mul_emod]
theorem mul_congP {x x' y y' : Int} (hx : x % PP = x' % PP) (hy : y % PP = y' % PP) : (x * y) % PP = (x' * y') % PP := by rw [Int.mul_emod, hx, hy, ← Int.mul_emod]
theorem powZ_mod (A : Int) (N : Nat) : ∀ k, k ≤ 256 → N < 2 ^ 256 → powZ A N k % PP = A ^ (N / 2 ^ (256 - k)) % PP
  | 0, _, hN => by rw [Nat.sub_zero, Nat.div_eq_of_lt hN, Int.pow_zero]; rfl
  | k + 1, hk, hN => by
    have ih := powZ_mod A N k (by omega) hN
    have e1 : N / 2 ^ (256 - k) = N / 2 ^ (256 - (k + 1)) / 2 := by
      rw [Nat.div_div_eq_div_mul, ← Nat.pow_succ]; congr 2; omega
    have e2 : (N : Int) / 2 ^ (255 - k) % 2 = ((N / 2 ^ (256 - (k + 1)) % 2 : Nat) : Int) := by
      rw [show 255 - k = 256 - (k + 1) by omega]; push_cast; rfl
    rw [e1] at ih
    generalize N / 2 ^ (256 - (k + 1)) = m at *
    have sq : timesZ (powZ A N k) (powZ A N k) % PP = A ^ (2 * (m / 2)) % PP := by
      rw [timesZ_mod, mul_congP ih ih, ← Int.pow_add]; congr 2; omega
    unfold powZ
    rw [e2]
    split
    · rename_i h
      rw [timesZ_mod, mul_congP sq (rfl : A % PP = A % PP), ← Int.pow_succ]; congr 2; omega
    · rename_i h
      rw [sq]; congr 2; omega
theorem powZ_all (A : Int) {N : Int} (h0 : 0 ≤ N) (h1 : N < WW) : powZ A N 256 % PP = A ^ N.toNat % PP := by
  obtain ⟨n, rfl⟩ := Int.eq_ofNat_of_zero_le h0
  have := powZ_mod A n 256 (Nat.le_refl _) (by simp only [WW] at h1; omega)
  rw [this, Nat.sub_self, Nat.pow_zero, Nat.div_one]; rfl
end Go.Bx
namespace Go.Proofs.Ytfobnajgnnccmaa
open Go.RowKit Go.Bx Go.Sx
set_option linter.unusedSimpArgs false
def cEAdd : Ctr := ⟨28, 33, [.arr .u8 32, .arr .u8 32], [.arr .u8 32]⟩
def cESub : Ctr := ⟨27, 34, [.arr .u8 32, .arr .u8 32], [.arr .u8 32]⟩
def cEMul : Ctr := ⟨24, 35, [.arr .u8 32, .arr .u8 32], [.arr .u8 32]⟩
def cENorm : Ctr := ⟨98, 31, [.arr .u8 32], [.arr .u8 32]⟩
def cEInv : Ctr := ⟨26, 37, [.arr .u8 32], [.arr .u8 32]⟩
def cEGood : Ctr := ⟨70, 32, [.arr .u8 32], [.bool]⟩
def cEOf : Ctr := ⟨25, 38, [.int .i64], [.arr .u8 32]⟩
def T5 : List Ctr := [cLess, cFrom, cNorm, cWord, cFold, cPlus, cMinus, cTimes, cPower]
theorem okT5 : ∀ c ∈ T5, CtrOK Try.prog sfns c := by
  intro c hc
  simp only [T5, List.mem_cons, List.not_mem_nil, or_false] at hc
  rcases hc with rfl | rfl | rfl | rfl | rfl | rfl | rfl | rfl | rfl
  · exact okLess
  · exact okFrom
  · exact okNorm
  · exact okWord
  · exact okFold
  · exact okPlus
  · exact okMinus
  · exact okTimes
  · exact okPower
theorem bd32 {a : List Int} (la : a.length = 32) (ia : ∀ z ∈ a, InR .u8 z) : 0 ≤ dv 256 a ∧ dv 256 a < WW := by
  have := dv_bound (b := 256) (by decide) (dig8 ia)
  rw [la] at this
  have := PP_lt
  omega
theorem minZ_bd {A B : Int} (a0 : 0 ≤ A) (a1 : A < WW) (b0 : 0 ≤ B) (b1 : B < WW) : 0 ≤ minZ A B ∧ minZ A B < WW := by
  have W38 : 1000 < WW := by decide
  unfold minZ; split
  · omega
  · split <;> omega
theorem okEAdd : CtrOK Try.prog sfns cEAdd := by
  refine CtrOK.of okT5 mixed (lf := 300) (d := 5) rfl fun w vs xs ha _ => ?_
  obtain ⟨v, u, a, b, rfl, rfl, ⟨la, -, ia⟩, ⟨lb, -, ib⟩⟩ := open2 ha
  have bA := bd32 la ia
  have bB := bd32 lb ib
  refine Go.Sx.Way.of (dec := []) (fs := [.need 10 [[.v 0, .v 1, .v 2, .v 3, .v 4, .v 5, .v 6, .v 7, .v 8, .v 9, .v 10, .v 11, .v 12, .v 13, .v 14, .v 15, .v 16, .v 17, .v 18, .v 19, .v 20, .v 21, .v 22, .v 23, .v 24, .v 25, .v 26, .v 27, .v 28, .v 29, .v 30, .v 31]], .call 64 10 [[.v 0, .v 1, .v 2, .v 3, .v 4, .v 5, .v 6, .v 7, .v 8, .v 9, .v 10, .v 11, .v 12, .v 13, .v 14, .v 15, .v 16, .v 17, .v 18, .v 19, .v 20, .v 21, .v 22, .v 23, .v 24, .v 25, .v 26, .v 27, .v 28, .v 29, .v 30, .v 31]] 4, .need 10 [[.v 32, .v 33, .v 34, .v 35, .v 36, .v 37, .v 38, .v 39, .v 40, .v 41, .v 42, .v 43, .v 44, .v 45, .v 46, .v 47, .v 48, .v 49, .v 50, .v 51, .v 52, .v 53, .v 54, .v 55, .v 56, .v 57, .v 58, .v 59, .v 60, .v 61, .v 62, .v 63]], .call 68 10 [[.v 32, .v 33, .v 34, .v 35, .v 36, .v 37, .v 38, .v 39, .v 40, .v 41, .v 42, .v 43, .v 44, .v 45, .v 46, .v 47, .v 48, .v 49, .v 50, .v 51, .v 52, .v 53, .v 54, .v 55, .v 56, .v 57, .v 58, .v 59, .v 60, .v 61, .v 62, .v 63]] 4, .need 15 [[.v 64, .v 65, .v 66, .v 67], [.v 68, .v 69, .v 70, .v 71]], .call 72 15 [[.v 64, .v 65, .v 66, .v 67], [.v 68, .v 69, .v 70, .v 71]] 4, .need 13 [[.v 72, .v 73, .v 74, .v 75]], .call 76 13 [[.v 72, .v 73, .v 74, .v 75]] 32]) (refs := [.v 76, .v 77, .v 78, .v 79, .v 80, .v 81, .v 82, .v 83, .v 84, .v 85, .v 86, .v 87, .v 88, .v 89, .v 90, .v 91, .v 92, .v 93, .v 94, .v 95, .v 96, .v 97, .v 98, .v 99, .v 100, .v 101, .v 102, .v 103, .v 104, .v 105, .v 106, .v 107]) (by kernel_rfl) fun ρ hρ hd => ?_
  obtain ⟨ea, eb⟩ := seg2 la lb hρ
  simp only [D_nil, D_add, D_sub, D_mul, D_and, D_or, D_xor, D_shl, D_shr, D_andNot, D_quo, D_rem, D_add_i64, D_sub_i64, D_mul_i64, D_add_u32, D_sub_u32, D_mul_u32, D_add_u8, D_sub_u8, D_mul_u8, D_eql, D_neq, D_lss, D_leq, D_gtr, D_geq, D_not, D_conv, D_eqs, D_call, D_cond, D_need, D_idx, D_sel, D_upd, D_shv, D_beq, List.map_cons, List.map_nil, Ref.den] at hd
  obtain ⟨h64, h68, h72, h76, -⟩ := hd
  have s64 : seg ρ 64 4 = dg MM 4 (dv 256 (seg ρ 0 32)) := seg_of h64 (dg_len _ _ _)
  have s68 : seg ρ 68 4 = dg MM 4 (dv 256 (seg ρ 32 32)) := seg_of h68 (dg_len _ _ _)
  have s72 : seg ρ 72 4 = dg MM 4 (plusZ (dv MM (seg ρ 64 4)) (dv MM (seg ρ 68 4))) := seg_of h72 (dg_len _ _ _)
  have s76 : seg ρ 76 32 = dg 256 32 (dv MM (seg ρ 72 4) % PP) := seg_of h76 (dg_len _ _ _)
  rw [ea] at s64
  rw [eb] at s68
  rw [s64, s68, dvW bA.1 bA.2, dvW bB.1 bB.2] at s72
  have bz := plusZ_bd bA.1 bA.2 bB.1 bB.2
  rw [s72, dvW bz.1 bz.2, plusZ_mod] at s76
  refine ⟨by simp only [G_nil, G_bin, G_cmp, G_not, G_conv, G_eqs, G_call, G_cond, G_need, G_idx, G_sel, G_upd, G_shv, G_beq, List.map_cons, List.map_nil, Ref.den]; exact ⟨trivial, trivial, trivial, trivial, trivial⟩, ?_⟩
  exact s76
theorem okESub : CtrOK Try.prog sfns cESub := by
  refine CtrOK.of okT5 mixed (lf := 300) (d := 5) rfl fun w vs xs ha _ => ?_
  obtain ⟨v, u, a, b, rfl, rfl, ⟨la, -, ia⟩, ⟨lb, -, ib⟩⟩ := open2 ha
  have bA := bd32 la ia
  have bB := bd32 lb ib
  refine Go.Sx.Way.of (dec := []) (fs := [.need 10 [[.v 0, .v 1, .v 2, .v 3, .v 4, .v 5, .v 6, .v 7, .v 8, .v 9, .v 10, .v 11, .v 12, .v 13, .v 14, .v 15, .v 16, .v 17, .v 18, .v 19, .v 20, .v 21, .v 22, .v 23, .v 24, .v 25, .v 26, .v 27, .v 28, .v 29, .v 30, .v 31]], .call 64 10 [[.v 0, .v 1, .v 2, .v 3, .v 4, .v 5, .v 6, .v 7, .v 8, .v 9, .v 10, .v 11, .v 12, .v 13, .v 14, .v 15, .v 16, .v 17, .v 18, .v 19, .v 20, .v 21, .v 22, .v 23, .v 24, .v 25, .v 26, .v 27, .v 28, .v 29, .v 30, .v 31]] 4, .need 10 [[.v 32, .v 33, .v 34, .v 35, .v 36, .v 37, .v 38, .v 39, .v 40, .v 41, .v 42, .v 43, .v 44, .v 45, .v 46, .v 47, .v 48, .v 49, .v 50, .v 51, .v 52, .v 53, .v 54, .v 55, .v 56, .v 57, .v 58, .v 59, .v 60, .v 61, .v 62, .v 63]], .call 68 10 [[.v 32, .v 33, .v 34, .v 35, .v 36, .v 37, .v 38, .v 39, .v 40, .v 41, .v 42, .v 43, .v 44, .v 45, .v 46, .v 47, .v 48, .v 49, .v 50, .v 51, .v 52, .v 53, .v 54, .v 55, .v 56, .v 57, .v 58, .v 59, .v 60, .v 61, .v 62, .v 63]] 4, .need 16 [[.v 64, .v 65, .v 66, .v 67], [.v 68, .v 69, .v 70, .v 71]], .call 72 16 [[.v 64, .v 65, .v 66, .v 67], [.v 68, .v 69, .v 70, .v 71]] 4, .need 13 [[.v 72, .v 73, .v 74, .v 75]], .call 76 13 [[.v 72, .v 73, .v 74, .v 75]] 32]) (refs := [.v 76, .v 77, .v 78, .v 79, .v 80, .v 81, .v 82, .v 83, .v 84, .v 85, .v 86, .v 87, .v 88, .v 89, .v 90, .v 91, .v 92, .v 93, .v 94, .v 95, .v 96, .v 97, .v 98, .v 99, .v 100, .v 101, .v 102, .v 103, .v 104, .v 105, .v 106, .v 107]) (by kernel_rfl) fun ρ hρ hd => ?_
  obtain ⟨ea, eb⟩ := seg2 la lb hρ
  simp only [D_nil, D_add, D_sub, D_mul, D_and, D_or, D_xor, D_shl, D_shr, D_andNot, D_quo, D_rem, D_add_i64, D_sub_i64, D_mul_i64, D_add_u32, D_sub_u32, D_mul_u32, D_add_u8, D_sub_u8, D_mul_u8, D_eql, D_neq, D_lss, D_leq, D_gtr, D_geq, D_not, D_conv, D_eqs, D_call, D_cond, D_need, D_idx, D_sel, D_upd, D_shv, D_beq, List.map_cons, List.map_nil, Ref.den] at hd
  obtain ⟨h64, h68, h72, h76, -⟩ := hd
  have s64 : seg ρ 64 4 = dg MM 4 (dv 256 (seg ρ 0 32)) := seg_of h64 (dg_len _ _ _)
  have s68 : seg ρ 68 4 = dg MM 4 (dv 256 (seg ρ 32 32)) := seg_of h68 (dg_len _ _ _)
  have s72 : seg ρ 72 4 = dg MM 4 (minZ (dv MM (seg ρ 64 4)) (dv MM (seg ρ 68 4))) := seg_of h72 (dg_len _ _ _)
  have s76 : seg ρ 76 32 = dg 256 32 (dv MM (seg ρ 72 4) % PP) := seg_of h76 (dg_len _ _ _)
  rw [ea] at s64
  rw [eb] at s68
  rw [s64, s68, dvW bA.1 bA.2, dvW bB.1 bB.2] at s72
  have bz := minZ_bd bA.1 bA.2 bB.1 bB.2
  rw [s72, dvW bz.1 bz.2, minZ_mod] at s76
  refine ⟨by simp only [G_nil, G_bin, G_cmp, G_not, G_conv, G_eqs, G_call, G_cond, G_need, G_idx, G_sel, G_upd, G_shv, G_beq, List.map_cons, List.map_nil, Ref.den]; exact ⟨trivial, trivial, trivial, trivial, trivial⟩, ?_⟩
  exact s76
theorem okEMul : CtrOK Try.prog sfns cEMul := by
  refine CtrOK.of okT5 mixed (lf := 300) (d := 5) rfl fun w vs xs ha _ => ?_
  obtain ⟨v, u, a, b, rfl, rfl, ⟨la, -, ia⟩, ⟨lb, -, ib⟩⟩ := open2 ha
  have bA := bd32 la ia
  have bB := bd32 lb ib
  refine Go.Sx.Way.of (dec := []) (fs := [.need 10 [[.v 0, .v 1, .v 2, .v 3, .v 4, .v 5, .v 6, .v 7, .v 8, .v 9, .v 10, .v 11, .v 12, .v 13, .v 14, .v 15, .v 16, .v 17, .v 18, .v 19, .v 20, .v 21, .v 22, .v 23, .v 24, .v 25, .v 26, .v 27, .v 28, .v 29, .v 30, .v 31]], .call 64 10 [[.v 0, .v 1, .v 2, .v 3, .v 4, .v 5, .v 6, .v 7, .v 8, .v 9, .v 10, .v 11, .v 12, .v 13, .v 14, .v 15, .v 16, .v 17, .v 18, .v 19, .v 20, .v 21, .v 22, .v 23, .v 24, .v 25, .v 26, .v 27, .v 28, .v 29, .v 30, .v 31]] 4, .need 10 [[.v 32, .v 33, .v 34, .v 35, .v 36, .v 37, .v 38, .v 39, .v 40, .v 41, .v 42, .v 43, .v 44, .v 45, .v 46, .v 47, .v 48, .v 49, .v 50, .v 51, .v 52, .v 53, .v 54, .v 55, .v 56, .v 57, .v 58, .v 59, .v 60, .v 61, .v 62, .v 63]], .call 68 10 [[.v 32, .v 33, .v 34, .v 35, .v 36, .v 37, .v 38, .v 39, .v 40, .v 41, .v 42, .v 43, .v 44, .v 45, .v 46, .v 47, .v 48, .v 49, .v 50, .v 51, .v 52, .v 53, .v 54, .v 55, .v 56, .v 57, .v 58, .v 59, .v 60, .v 61, .v 62, .v 63]] 4, .need 18 [[.v 64, .v 65, .v 66, .v 67], [.v 68, .v 69, .v 70, .v 71]], .call 72 18 [[.v 64, .v 65, .v 66, .v 67], [.v 68, .v 69, .v 70, .v 71]] 4, .need 13 [[.v 72, .v 73, .v 74, .v 75]], .call 76 13 [[.v 72, .v 73, .v 74, .v 75]] 32]) (refs := [.v 76, .v 77, .v 78, .v 79, .v 80, .v 81, .v 82, .v 83, .v 84, .v 85, .v 86, .v 87, .v 88, .v 89, .v 90, .v 91, .v 92, .v 93, .v 94, .v 95, .v 96, .v 97, .v 98, .v 99, .v 100, .v 101, .v 102, .v 103, .v 104, .v 105, .v 106, .v 107]) (by kernel_rfl) fun ρ hρ hd => ?_
  obtain ⟨ea, eb⟩ := seg2 la lb hρ
  simp only [D_nil, D_add, D_sub, D_mul, D_and, D_or, D_xor, D_shl, D_shr, D_andNot, D_quo, D_rem, D_add_i64, D_sub_i64, D_mul_i64, D_add_u32, D_sub_u32, D_mul_u32, D_add_u8, D_sub_u8, D_mul_u8, D_eql, D_neq, D_lss, D_leq, D_gtr, D_geq, D_not, D_conv, D_eqs, D_call, D_cond, D_need, D_idx, D_sel, D_upd, D_shv, D_beq, List.map_cons, List.map_nil, Ref.den] at hd
  obtain ⟨h64, h68, h72, h76, -⟩ := hd
  have s64 : seg ρ 64 4 = dg MM 4 (dv 256 (seg ρ 0 32)) := seg_of h64 (dg_len _ _ _)
  have s68 : seg ρ 68 4 = dg MM 4 (dv 256 (seg ρ 32 32)) := seg_of h68 (dg_len _ _ _)
  have s72 : seg ρ 72 4 = dg MM 4 (timesZ (dv MM (seg ρ 64 4)) (dv MM (seg ρ 68 4))) := seg_of h72 (dg_len _ _ _)
  have s76 : seg ρ 76 32 = dg 256 32 (dv MM (seg ρ 72 4) % PP) := seg_of h76 (dg_len _ _ _)
  rw [ea] at s64
  rw [eb] at s68
  rw [s64, s68, dvW bA.1 bA.2, dvW bB.1 bB.2] at s72
  have bz := timesZ_bd bA.1 bA.2 bB.1 bB.2
  rw [s72, dvW bz.1 bz.2, timesZ_mod] at s76
  refine ⟨by simp only [G_nil, G_bin, G_cmp, G_not, G_conv, G_eqs, G_call, G_cond, G_need, G_idx, G_sel, G_upd, G_shv, G_beq, List.map_cons, List.map_nil, Ref.den]; exact ⟨trivial, trivial, trivial, trivial, trivial⟩, ?_⟩
  exact s76
theorem okENorm : CtrOK Try.prog sfns cENorm := by
  refine CtrOK.of okT5 mixed (lf := 300) (d := 5) rfl fun w vs xs ha _ => ?_
  obtain ⟨v, a, rfl, rfl, ⟨la, -, ia⟩⟩ := open1 ha
  have bA := bd32 la ia
  refine Go.Sx.Way.of (dec := []) (fs := [.need 10 [[.v 0, .v 1, .v 2, .v 3, .v 4, .v 5, .v 6, .v 7, .v 8, .v 9, .v 10, .v 11, .v 12, .v 13, .v 14, .v 15, .v 16, .v 17, .v 18, .v 19, .v 20, .v 21, .v 22, .v 23, .v 24, .v 25, .v 26, .v 27, .v 28, .v 29, .v 30, .v 31]], .call 32 10 [[.v 0, .v 1, .v 2, .v 3, .v 4, .v 5, .v 6, .v 7, .v 8, .v 9, .v 10, .v 11, .v 12, .v 13, .v 14, .v 15, .v 16, .v 17, .v 18, .v 19, .v 20, .v 21, .v 22, .v 23, .v 24, .v 25, .v 26, .v 27, .v 28, .v 29, .v 30, .v 31]] 4, .need 13 [[.v 32, .v 33, .v 34, .v 35]], .call 36 13 [[.v 32, .v 33, .v 34, .v 35]] 32]) (refs := [.v 36, .v 37, .v 38, .v 39, .v 40, .v 41, .v 42, .v 43, .v 44, .v 45, .v 46, .v 47, .v 48, .v 49, .v 50, .v 51, .v 52, .v 53, .v 54, .v 55, .v 56, .v 57, .v 58, .v 59, .v 60, .v 61, .v 62, .v 63, .v 64, .v 65, .v 66, .v 67]) (by kernel_rfl) fun ρ hρ hd => ?_
  have ea := seg0 la hρ
  simp only [D_nil, D_add, D_sub, D_mul, D_and, D_or, D_xor, D_shl, D_shr, D_andNot, D_quo, D_rem, D_add_i64, D_sub_i64, D_mul_i64, D_add_u32, D_sub_u32, D_mul_u32, D_add_u8, D_sub_u8, D_mul_u8, D_eql, D_neq, D_lss, D_leq, D_gtr, D_geq, D_not, D_conv, D_eqs, D_call, D_cond, D_need, D_idx, D_sel, D_upd, D_shv, D_beq, List.map_cons, List.map_nil, Ref.den] at hd
  obtain ⟨h32, h36, -⟩ := hd
  have s32 : seg ρ 32 4 = dg MM 4 (dv 256 (seg ρ 0 32)) := seg_of h32 (dg_len _ _ _)
  have s36 : seg ρ 36 32 = dg 256 32 (dv MM (seg ρ 32 4) % PP) := seg_of h36 (dg_len _ _ _)
  rw [ea] at s32
  rw [s32, dvW bA.1 bA.2] at s36
  refine ⟨by simp only [G_nil, G_bin, G_cmp, G_not, G_conv, G_eqs, G_call, G_cond, G_need, G_idx, G_sel, G_upd, G_shv, G_beq, List.map_cons, List.map_nil, Ref.den]; exact ⟨trivial, trivial, trivial⟩, ?_⟩
  exact s36
theorem okEInv : CtrOK Try.prog sfns cEInv := by
  refine CtrOK.of okT5 mixed (lf := 300) (d := 5) rfl fun w vs xs ha _ => ?_
  obtain ⟨v, a, rfl, rfl, ⟨la, -, ia⟩⟩ := open1 ha
  have bA := bd32 la ia
  refine Go.Sx.Way.of (dec := []) (fs := [.need 10 [[.v 0, .v 1, .v 2, .v 3, .v 4, .v 5, .v 6, .v 7, .v 8, .v 9, .v 10, .v 11, .v 12, .v 13, .v 14, .v 15, .v 16, .v 17, .v 18, .v 19, .v 20, .v 21, .v 22, .v 23, .v 24, .v 25, .v 26, .v 27, .v 28, .v 29, .v 30, .v 31]], .call 32 10 [[.v 0, .v 1, .v 2, .v 3, .v 4, .v 5, .v 6, .v 7, .v 8, .v 9, .v 10, .v 11, .v 12, .v 13, .v 14, .v 15, .v 16, .v 17, .v 18, .v 19, .v 20, .v 21, .v 22, .v 23, .v 24, .v 25, .v 26, .v 27, .v 28, .v 29, .v 30, .v 31]] 4, .need 11 [[.l 18446744073709551597, .l 18446744073709551615, .l 18446744073709551615, .l 9223372036854775807], [.l 2, .l 0, .l 0, .l 0]], .call 36 11 [[.l 18446744073709551597, .l 18446744073709551615, .l 18446744073709551615, .l 9223372036854775807], [.l 2, .l 0, .l 0, .l 0]] 5, .need 19 [[.v 32, .v 33, .v 34, .v 35], [.v 36, .v 37, .v 38, .v 39]], .call 41 19 [[.v 32, .v 33, .v 34, .v 35], [.v 36, .v 37, .v 38, .v 39]] 4, .need 13 [[.v 41, .v 42, .v 43, .v 44]], .call 45 13 [[.v 41, .v 42, .v 43, .v 44]] 32]) (refs := [.v 45, .v 46, .v 47, .v 48, .v 49, .v 50, .v 51, .v 52, .v 53, .v 54, .v 55, .v 56, .v 57, .v 58, .v 59, .v 60, .v 61, .v 62, .v 63, .v 64, .v 65, .v 66, .v 67, .v 68, .v 69, .v 70, .v 71, .v 72, .v 73, .v 74, .v 75, .v 76]) (by kernel_rfl) fun ρ hρ hd => ?_
  have ea := seg0 la hρ
  simp only [D_nil, D_add, D_sub, D_mul, D_and, D_or, D_xor, D_shl, D_shr, D_andNot, D_quo, D_rem, D_add_i64, D_sub_i64, D_mul_i64, D_add_u32, D_sub_u32, D_mul_u32, D_add_u8, D_sub_u8, D_mul_u8, D_eql, D_neq, D_lss, D_leq, D_gtr, D_geq, D_not, D_conv, D_eqs, D_call, D_cond, D_need, D_idx, D_sel, D_upd, D_shv, D_beq, List.map_cons, List.map_nil, Ref.den] at hd
  obtain ⟨h32, h36, h41, h45, -⟩ := hd
  have s32 : seg ρ 32 4 = dg MM 4 (dv 256 (seg ρ 0 32)) := seg_of h32 (dg_len _ _ _)
  obtain ⟨s36, -⟩ := less_seg (a := [18446744073709551597, 18446744073709551615, 18446744073709551615, 9223372036854775807]) (b := [2, 0, 0, 0]) h36
  have s41 : seg ρ 41 4 = dg MM 4 (powZ (dv MM (seg ρ 32 4)) (dv MM (seg ρ 36 4)) 256) := seg_of h41 (dg_len _ _ _)
  have s45 : seg ρ 45 32 = dg 256 32 (dv MM (seg ρ 41 4) % PP) := seg_of h45 (dg_len _ _ _)
  rw [ea] at s32
  rw [prime_eq, show dv MM [2, 0, 0, 0] = 2 by decide] at s36
  have bz := powZ_bd (N := PP - 2) bA.1 bA.2 256
  rw [s32, s36, dvW bA.1 bA.2, dvW (x := PP - 2) (by decide) (by decide)] at s41
  rw [s41, dvW bz.1 bz.2] at s45
  refine ⟨by simp only [G_nil, G_bin, G_cmp, G_not, G_conv, G_eqs, G_call, G_cond, G_need, G_idx, G_sel, G_upd, G_shv, G_beq, List.map_cons, List.map_nil, Ref.den]; exact ⟨trivial, trivial, trivial, trivial, trivial⟩, ?_⟩
  exact s45
theorem okEGood : CtrOK Try.prog sfns cEGood := by
  refine CtrOK.of okT5 mixed (lf := 300) (d := 5) rfl fun w vs xs ha _ => ?_
  obtain ⟨v, a, rfl, rfl, ⟨la, -, ia⟩⟩ := open1 ha
  have bA := bd32 la ia
  refine Go.Sx.Way.of (dec := []) (fs := [.need 10 [[.v 0, .v 1, .v 2, .v 3, .v 4, .v 5, .v 6, .v 7, .v 8, .v 9, .v 10, .v 11, .v 12, .v 13, .v 14, .v 15, .v 16, .v 17, .v 18, .v 19, .v 20, .v 21, .v 22, .v 23, .v 24, .v 25, .v 26, .v 27, .v 28, .v 29, .v 30, .v 31]], .call 32 10 [[.v 0, .v 1, .v 2, .v 3, .v 4, .v 5, .v 6, .v 7, .v 8, .v 9, .v 10, .v 11, .v 12, .v 13, .v 14, .v 15, .v 16, .v 17, .v 18, .v 19, .v 20, .v 21, .v 22, .v 23, .v 24, .v 25, .v 26, .v 27, .v 28, .v 29, .v 30, .v 31]] 4, .need 13 [[.v 32, .v 33, .v 34, .v 35]], .call 36 13 [[.v 32, .v 33, .v 34, .v 35]] 32, .eqs 68 [(.v 36, .v 0), (.v 37, .v 1), (.v 38, .v 2), (.v 39, .v 3), (.v 40, .v 4), (.v 41, .v 5), (.v 42, .v 6), (.v 43, .v 7), (.v 44, .v 8), (.v 45, .v 9), (.v 46, .v 10), (.v 47, .v 11), (.v 48, .v 12), (.v 49, .v 13), (.v 50, .v 14), (.v 51, .v 15), (.v 52, .v 16), (.v 53, .v 17), (.v 54, .v 18), (.v 55, .v 19), (.v 56, .v 20), (.v 57, .v 21), (.v 58, .v 22), (.v 59, .v 23), (.v 60, .v 24), (.v 61, .v 25), (.v 62, .v 26), (.v 63, .v 27), (.v 64, .v 28), (.v 65, .v 29), (.v 66, .v 30), (.v 67, .v 31)]]) (refs := [.v 68]) (by kernel_rfl) fun ρ hρ hd => ?_
  have ea := seg0 la hρ
  simp only [D_nil, D_add, D_sub, D_mul, D_and, D_or, D_xor, D_shl, D_shr, D_andNot, D_quo, D_rem, D_add_i64, D_sub_i64, D_mul_i64, D_add_u32, D_sub_u32, D_mul_u32, D_add_u8, D_sub_u8, D_mul_u8, D_eql, D_neq, D_lss, D_leq, D_gtr, D_geq, D_not, D_conv, D_eqs, D_call, D_cond, D_need, D_idx, D_sel, D_upd, D_shv, D_beq, List.map_cons, List.map_nil, Ref.den] at hd
  obtain ⟨h32, h36, h68, -⟩ := hd
  have s32 : seg ρ 32 4 = dg MM 4 (dv 256 (seg ρ 0 32)) := seg_of h32 (dg_len _ _ _)
  have s36 : seg ρ 36 32 = dg 256 32 (dv MM (seg ρ 32 4) % PP) := seg_of h36 (dg_len _ _ _)
  rw [ea] at s32
  rw [s32, dvW bA.1 bA.2] at s36
  refine ⟨by simp only [G_nil, G_bin, G_cmp, G_not, G_conv, G_eqs, G_call, G_cond, G_need, G_idx, G_sel, G_upd, G_shv, G_beq, List.map_cons, List.map_nil, Ref.den]; exact ⟨trivial, trivial, trivial⟩, ?_⟩
  show [ρ 68] = [b2i (decide (dv 256 a < PP))]
  have hP := PP_lt
  have hm := Int.emod_nonneg (dv 256 a) (b := PP) (by omega)
  have hm' := Int.emod_lt_of_pos (dv 256 a) hP.1
  have q : ρ 68 = b2i (decide (seg ρ 36 32 = seg ρ 0 32)) := h68.trans (congrArg b2i eqs_lists)
  rw [q, s36, ea]
  congr 1
  refine b2i_congr ⟨fun h => ?_, fun h => ?_⟩
  · have h6 := congrArg (dv 256) h
    rw [dv_dg_of (by decide) hm (by omega)] at h6
    omega
  · rw [Int.emod_eq_of_lt bA.1 h, ← la, dg_dv (by decide) (dig8 ia)]
theorem okEOf : CtrOK Try.prog sfns cEOf := by
  refine CtrOK.of okT5 mixed (lf := 300) (d := 5) rfl fun w vs xs ha _ => ?_
  obtain ⟨v, x, rfl, rfl, ⟨n, rfl, rfl, hn⟩⟩ := open1 ha
  have bn : -9223372036854775808 ≤ n ∧ n < 9223372036854775808 := by obtain ⟨h1, h2⟩ := hn; simp only [lo, hi] at h1 h2; omega
  have hW : (18446744073709551616 : Int) < WW := by decide
  show Go.Sx.Way Try.prog sfns T5 300 5 cEOf [[n]] (dg 256 32 (n % PP))
  by_cases hneg : n < 0
  · refine Go.Sx.Way.of (dec := [true]) (fs := [.cmp 1 .lss (.v 0) (.l 0), .cond 1 true, .bin 2 .sub .i64 (.l 0) (.v 0), .conv 3 .u64 (.v 2), .need 16 [[.l 0, .l 0, .l 0, .l 0], [.v 3, .l 0, .l 0, .l 0]], .call 4 16 [[.l 0, .l 0, .l 0, .l 0], [.v 3, .l 0, .l 0, .l 0]] 4, .need 13 [[.v 4, .v 5, .v 6, .v 7]], .call 8 13 [[.v 4, .v 5, .v 6, .v 7]] 32]) (refs := [.v 8, .v 9, .v 10, .v 11, .v 12, .v 13, .v 14, .v 15, .v 16, .v 17, .v 18, .v 19, .v 20, .v 21, .v 22, .v 23, .v 24, .v 25, .v 26, .v 27, .v 28, .v 29, .v 30, .v 31, .v 32, .v 33, .v 34, .v 35, .v 36, .v 37, .v 38, .v 39]) (by kernel_rfl) fun ρ hρ hd => ?_
    have r0 : ρ 0 = n := hρ 0 (by decide)
    simp only [D_nil, D_add, D_sub, D_mul, D_and, D_or, D_xor, D_shl, D_shr, D_andNot, D_quo, D_rem, D_add_i64, D_sub_i64, D_mul_i64, D_add_u32, D_sub_u32, D_mul_u32, D_add_u8, D_sub_u8, D_mul_u8, D_eql, D_neq, D_lss, D_leq, D_gtr, D_geq, D_not, D_conv, D_eqs, D_call, D_cond, D_need, D_idx, D_sel, D_upd, D_shv, D_beq, List.map_cons, List.map_nil, Ref.den, r0] at hd
    obtain ⟨h1, h2, h3, h4, h8, -⟩ := hd
    have e3 : ρ 3 = -n := by rw [h3, h2, c_u64, IntKind.wrap_i64]; omega
    have s4 : seg ρ 4 4 = dg MM 4 (minZ (dv MM [0, 0, 0, 0]) (dv MM [ρ 3, 0, 0, 0])) := seg_of h4 (dg_len _ _ _)
    have s8 : seg ρ 8 32 = dg 256 32 (dv MM (seg ρ 4 4) % PP) := seg_of h8 (dg_len _ _ _)
    have d0 : dv MM [0, 0, 0, 0] = 0 := by decide
    have d3 : dv MM [ρ 3, 0, 0, 0] = -n := by rw [e3]; simp [dv]
    have bz := minZ_bd (A := 0) (B := -n) (by omega) (by omega) (by omega) (by omega)
    rw [d0, d3] at s4
    rw [s4, dvW bz.1 bz.2, minZ_mod] at s8
    refine ⟨by simp only [G_nil, G_bin, G_cmp, G_not, G_conv, G_eqs, G_call, G_cond, G_need, G_idx, G_sel, G_upd, G_shv, G_beq, List.map_cons, List.map_nil, Ref.den]; exact ⟨bit_true h1 (decide_eq_true hneg), trivial, trivial, trivial⟩, ?_⟩
    show seg ρ 8 32 = _
    rw [s8]; congr 2; omega
  · refine Go.Sx.Way.of (dec := [false]) (fs := [.cmp 1 .lss (.v 0) (.l 0), .cond 1 false, .conv 2 .u64 (.v 0), .need 13 [[.v 2, .l 0, .l 0, .l 0]], .call 3 13 [[.v 2, .l 0, .l 0, .l 0]] 32]) (refs := [.v 3, .v 4, .v 5, .v 6, .v 7, .v 8, .v 9, .v 10, .v 11, .v 12, .v 13, .v 14, .v 15, .v 16, .v 17, .v 18, .v 19, .v 20, .v 21, .v 22, .v 23, .v 24, .v 25, .v 26, .v 27, .v 28, .v 29, .v 30, .v 31, .v 32, .v 33, .v 34]) (by kernel_rfl) fun ρ hρ hd => ?_
    have r0 : ρ 0 = n := hρ 0 (by decide)
    simp only [D_nil, D_add, D_sub, D_mul, D_and, D_or, D_xor, D_shl, D_shr, D_andNot, D_quo, D_rem, D_add_i64, D_sub_i64, D_mul_i64, D_add_u32, D_sub_u32, D_mul_u32, D_add_u8, D_sub_u8, D_mul_u8, D_eql, D_neq, D_lss, D_leq, D_gtr, D_geq, D_not, D_conv, D_eqs, D_call, D_cond, D_need, D_idx, D_sel, D_upd, D_shv, D_beq, List.map_cons, List.map_nil, Ref.den, r0] at hd
    obtain ⟨h1, h2, h3, -⟩ := hd
    have e2 : ρ 2 = n := by rw [h2, c_u64]; omega
    have s3 : seg ρ 3 32 = dg 256 32 (dv MM [ρ 2, 0, 0, 0] % PP) := seg_of h3 (dg_len _ _ _)
    have d3 : dv MM [ρ 2, 0, 0, 0] = n := by rw [e2]; simp [dv]
    rw [d3] at s3
    refine ⟨by simp only [G_nil, G_bin, G_cmp, G_not, G_conv, G_eqs, G_call, G_cond, G_need, G_idx, G_sel, G_upd, G_shv, G_beq, List.map_cons, List.map_nil, Ref.den]; exact ⟨bit_false h1 (decide_eq_false hneg), trivial, trivial⟩, ?_⟩
    exact s3
#print axioms okEOf
end Go.Proofs.Ytfobnajgnnccmaa
