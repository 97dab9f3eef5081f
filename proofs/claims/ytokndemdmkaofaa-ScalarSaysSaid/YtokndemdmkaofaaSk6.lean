/- Numbers modulo L: what is shown of the exported functions. No condition. -/
import Derived.Test.YtokndemdmkaofaaSk3
import Derived.Test.YtokndemdmkaofaaSk5
import Derived.Test.YtokndemdmkaofaaSxS
namespace Go.Bx
theorem LL_lt2 : LL < MM ^ 4 ∧ LL < 256 ^ 32 ∧ (256 : Int) ^ 32 = MM ^ 4 ∧ (256 : Int) ^ 64 = MM ^ 8 ∧ MM ^ 4 < MM ^ 8 := by decide
theorem dv_dg_of {b : Int} (hb : 0 < b) {k : Nat} {n : Int} (h0 : 0 ≤ n) (h1 : n < b ^ k) : dv b (dg b k n) = n := by rw [dv_dg hb, Int.emod_eq_of_lt h0 h1]
theorem mod_LL (x : Int) : 0 ≤ x % LL ∧ x % LL < LL := ⟨Int.emod_nonneg _ (by have := LL_lt.1; omega), Int.emod_lt_of_pos _ LL_lt.1⟩
theorem eqs_seg {ρ : Nat → Int} {o p m : Nat} : (((List.range m).map fun i => (Go.Sx.Ref.v (o + i), Go.Sx.Ref.v (p + i))).all fun q => decide (q.1.den ρ = q.2.den ρ)) = decide (seg ρ o m = seg ρ p m) := by
  rw [Bool.eq_iff_iff]
  simp only [List.all_eq_true, List.mem_map, List.mem_range, decide_eq_true_eq, forall_exists_index, and_imp]
  constructor
  · intro h
    exact List.map_congr_left fun i hi => h _ i (List.mem_range.1 hi) rfl
  · rintro h q i hi rfl
    have := congrArg (fun l => l.getD i 0) h
    show ρ (o + i) = ρ (p + i)
    simpa [seg, List.getD_eq_getElem?_getD, hi] using this
end Go.Bx
namespace Go.Proofs.Ytokndemdmkaofaa
open Go.RowKit Go.Bx Go.Sx
set_option linter.unusedSimpArgs false
def cSAdd : Ctr := ⟨21, 20, [.arr .u8 32, .arr .u8 32], [.arr .u8 32]⟩
def cSSub : Ctr := ⟨23, 21, [.arr .u8 32, .arr .u8 32], [.arr .u8 32]⟩
def cSMul : Ctr := ⟨22, 22, [.arr .u8 32, .arr .u8 32], [.arr .u8 32]⟩
def cSNorm : Ctr := ⟨24, 23, [.arr .u8 32], [.arr .u8 32]⟩
def cSLong : Ctr := ⟨27, 24, [.arr .u8 64], [.arr .u8 32]⟩
def cSGood : Ctr := ⟨25, 25, [.arr .u8 32], [.bool]⟩
def T4 : List Ctr := [cPlus, cLess, cCut, cWord, cFrom32, cFrom64, cNorm, cTimes]
theorem okT4 : ∀ c ∈ T4, CtrOK Try.prog sfns c := by
  intro c hc
  simp only [T4, List.mem_cons, List.not_mem_nil, or_false] at hc
  rcases hc with rfl | rfl | rfl | rfl | rfl | rfl | rfl | rfl
  · exact okPlus
  · exact okLess
  · exact okCut
  · exact okWord
  · exact okFrom32
  · exact okFrom64
  · exact okNorm
  · exact okTimes
theorem bd32 {a : List Int} (la : a.length = 32) (ia : ∀ z ∈ a, InR .u8 z) : 0 ≤ dv 256 a ∧ dv 256 a < MM ^ 8 := by
  have := dv_bound (b := 256) (by decide) (dig8 ia)
  rw [la] at this
  have := LL_lt2
  omega
theorem bd64 {a : List Int} (la : a.length = 64) (ia : ∀ z ∈ a, InR .u8 z) : 0 ≤ dv 256 a ∧ dv 256 a < MM ^ 8 := by
  have := dv_bound (b := 256) (by decide) (dig8 ia)
  rw [la] at this
  have := LL_lt2
  omega
theorem okSNorm : CtrOK Try.prog sfns cSNorm := by
  refine CtrOK.of okT4 mixed (lf := 300) (d := 5) rfl fun w vs xs ha _ => ?_
  obtain ⟨v, a, rfl, rfl, ⟨la, -, ia⟩⟩ := open1 ha
  have bd := bd32 la ia
  refine Go.Sx.Way.of (dec := []) (fs := [.need 14 [[.v 0, .v 1, .v 2, .v 3, .v 4, .v 5, .v 6, .v 7, .v 8, .v 9, .v 10, .v 11, .v 12, .v 13, .v 14, .v 15, .v 16, .v 17, .v 18, .v 19, .v 20, .v 21, .v 22, .v 23, .v 24, .v 25, .v 26, .v 27, .v 28, .v 29, .v 30, .v 31]], .call 32 14 [[.v 0, .v 1, .v 2, .v 3, .v 4, .v 5, .v 6, .v 7, .v 8, .v 9, .v 10, .v 11, .v 12, .v 13, .v 14, .v 15, .v 16, .v 17, .v 18, .v 19, .v 20, .v 21, .v 22, .v 23, .v 24, .v 25, .v 26, .v 27, .v 28, .v 29, .v 30, .v 31]] 8, .need 3 [[.v 32, .v 33, .v 34, .v 35, .v 36, .v 37, .v 38, .v 39]], .call 40 3 [[.v 32, .v 33, .v 34, .v 35, .v 36, .v 37, .v 38, .v 39]] 4, .need 13 [[.v 40, .v 41, .v 42, .v 43]], .call 44 13 [[.v 40, .v 41, .v 42, .v 43]] 32]) (refs := [.v 44, .v 45, .v 46, .v 47, .v 48, .v 49, .v 50, .v 51, .v 52, .v 53, .v 54, .v 55, .v 56, .v 57, .v 58, .v 59, .v 60, .v 61, .v 62, .v 63, .v 64, .v 65, .v 66, .v 67, .v 68, .v 69, .v 70, .v 71, .v 72, .v 73, .v 74, .v 75]) (by kernel_rfl) fun ρ hρ hd => ?_
  have ea : seg ρ 0 32 = a := seg_of (fun i hi => by rw [Nat.zero_add, hρ i hi]; simp only [flat, List.flatten_cons, List.flatten_nil, List.append_nil]) la
  simp only [D_nil, D_add, D_sub, D_mul, D_and, D_or, D_xor, D_shl, D_shr, D_andNot, D_quo, D_rem, D_add_i64, D_sub_i64, D_mul_i64, D_add_u32, D_sub_u32, D_mul_u32, D_add_u8, D_sub_u8, D_mul_u8, D_eql, D_neq, D_lss, D_leq, D_gtr, D_geq, D_not, D_conv, D_eqs, D_call, D_cond, D_need, D_idx, D_sel, D_upd, D_shv, D_beq, List.map_cons, List.map_nil, Ref.den] at hd
  obtain ⟨h1, h2, h3, -⟩ := hd
  have e1 : seg ρ 32 8 = dg MM 8 (dv 256 (seg ρ 0 32)) := seg_of h1 (dg_len _ _ _)
  have e2 : seg ρ 40 4 = dg MM 4 (dv MM (seg ρ 32 8) % LL) := seg_of h2 (dg_len _ _ _)
  have e3 : seg ρ 44 32 = dg 256 32 (dv MM (seg ρ 40 4)) := seg_of h3 (dg_len _ _ _)
  have hm := mod_LL (dv 256 a)
  have hL := LL_lt2
  rw [ea] at e1
  rw [e1, dv_dg_of MM_pos bd.1 bd.2] at e2
  rw [e2, dv_dg_of MM_pos hm.1 (by omega)] at e3
  refine ⟨by simp only [G_nil, G_bin, G_cmp, G_not, G_conv, G_eqs, G_call, G_cond, G_need, G_idx, G_sel, G_upd, G_shv, G_beq, List.map_cons, List.map_nil, Ref.den]; exact ⟨trivial, trivial, trivial, trivial⟩, ?_⟩
  exact e3
theorem okSLong : CtrOK Try.prog sfns cSLong := by
  refine CtrOK.of okT4 mixed (lf := 300) (d := 5) rfl fun w vs xs ha _ => ?_
  obtain ⟨v, a, rfl, rfl, ⟨la, -, ia⟩⟩ := open1 ha
  have bd := bd64 la ia
  refine Go.Sx.Way.of (dec := []) (fs := [.need 14 [[.v 0, .v 1, .v 2, .v 3, .v 4, .v 5, .v 6, .v 7, .v 8, .v 9, .v 10, .v 11, .v 12, .v 13, .v 14, .v 15, .v 16, .v 17, .v 18, .v 19, .v 20, .v 21, .v 22, .v 23, .v 24, .v 25, .v 26, .v 27, .v 28, .v 29, .v 30, .v 31, .v 32, .v 33, .v 34, .v 35, .v 36, .v 37, .v 38, .v 39, .v 40, .v 41, .v 42, .v 43, .v 44, .v 45, .v 46, .v 47, .v 48, .v 49, .v 50, .v 51, .v 52, .v 53, .v 54, .v 55, .v 56, .v 57, .v 58, .v 59, .v 60, .v 61, .v 62, .v 63]], .call 64 14 [[.v 0, .v 1, .v 2, .v 3, .v 4, .v 5, .v 6, .v 7, .v 8, .v 9, .v 10, .v 11, .v 12, .v 13, .v 14, .v 15, .v 16, .v 17, .v 18, .v 19, .v 20, .v 21, .v 22, .v 23, .v 24, .v 25, .v 26, .v 27, .v 28, .v 29, .v 30, .v 31, .v 32, .v 33, .v 34, .v 35, .v 36, .v 37, .v 38, .v 39, .v 40, .v 41, .v 42, .v 43, .v 44, .v 45, .v 46, .v 47, .v 48, .v 49, .v 50, .v 51, .v 52, .v 53, .v 54, .v 55, .v 56, .v 57, .v 58, .v 59, .v 60, .v 61, .v 62, .v 63]] 8, .need 3 [[.v 64, .v 65, .v 66, .v 67, .v 68, .v 69, .v 70, .v 71]], .call 72 3 [[.v 64, .v 65, .v 66, .v 67, .v 68, .v 69, .v 70, .v 71]] 4, .need 13 [[.v 72, .v 73, .v 74, .v 75]], .call 76 13 [[.v 72, .v 73, .v 74, .v 75]] 32]) (refs := [.v 76, .v 77, .v 78, .v 79, .v 80, .v 81, .v 82, .v 83, .v 84, .v 85, .v 86, .v 87, .v 88, .v 89, .v 90, .v 91, .v 92, .v 93, .v 94, .v 95, .v 96, .v 97, .v 98, .v 99, .v 100, .v 101, .v 102, .v 103, .v 104, .v 105, .v 106, .v 107]) (by kernel_rfl) fun ρ hρ hd => ?_
  have ea : seg ρ 0 64 = a := seg_of (fun i hi => by rw [Nat.zero_add, hρ i hi]; simp only [flat, List.flatten_cons, List.flatten_nil, List.append_nil]) la
  simp only [D_nil, D_add, D_sub, D_mul, D_and, D_or, D_xor, D_shl, D_shr, D_andNot, D_quo, D_rem, D_add_i64, D_sub_i64, D_mul_i64, D_add_u32, D_sub_u32, D_mul_u32, D_add_u8, D_sub_u8, D_mul_u8, D_eql, D_neq, D_lss, D_leq, D_gtr, D_geq, D_not, D_conv, D_eqs, D_call, D_cond, D_need, D_idx, D_sel, D_upd, D_shv, D_beq, List.map_cons, List.map_nil, Ref.den] at hd
  obtain ⟨h1, h2, h3, -⟩ := hd
  have e1 : seg ρ 64 8 = dg MM 8 (dv 256 (seg ρ 0 64)) := seg_of h1 (dg_len _ _ _)
  have e2 : seg ρ 72 4 = dg MM 4 (dv MM (seg ρ 64 8) % LL) := seg_of h2 (dg_len _ _ _)
  have e3 : seg ρ 76 32 = dg 256 32 (dv MM (seg ρ 72 4)) := seg_of h3 (dg_len _ _ _)
  have hm := mod_LL (dv 256 a)
  have hL := LL_lt2
  rw [ea] at e1
  rw [e1, dv_dg_of MM_pos bd.1 bd.2] at e2
  rw [e2, dv_dg_of MM_pos hm.1 (by omega)] at e3
  refine ⟨by simp only [G_nil, G_bin, G_cmp, G_not, G_conv, G_eqs, G_call, G_cond, G_need, G_idx, G_sel, G_upd, G_shv, G_beq, List.map_cons, List.map_nil, Ref.den]; exact ⟨trivial, trivial, trivial, trivial⟩, ?_⟩
  exact e3
theorem okSGood : CtrOK Try.prog sfns cSGood := by
  refine CtrOK.of okT4 mixed (lf := 300) (d := 5) rfl fun w vs xs ha _ => ?_
  obtain ⟨v, a, rfl, rfl, ⟨la, -, ia⟩⟩ := open1 ha
  have bd := bd32 la ia
  refine Go.Sx.Way.of (dec := []) (fs := [.need 14 [[.v 0, .v 1, .v 2, .v 3, .v 4, .v 5, .v 6, .v 7, .v 8, .v 9, .v 10, .v 11, .v 12, .v 13, .v 14, .v 15, .v 16, .v 17, .v 18, .v 19, .v 20, .v 21, .v 22, .v 23, .v 24, .v 25, .v 26, .v 27, .v 28, .v 29, .v 30, .v 31]], .call 32 14 [[.v 0, .v 1, .v 2, .v 3, .v 4, .v 5, .v 6, .v 7, .v 8, .v 9, .v 10, .v 11, .v 12, .v 13, .v 14, .v 15, .v 16, .v 17, .v 18, .v 19, .v 20, .v 21, .v 22, .v 23, .v 24, .v 25, .v 26, .v 27, .v 28, .v 29, .v 30, .v 31]] 8, .need 3 [[.v 32, .v 33, .v 34, .v 35, .v 36, .v 37, .v 38, .v 39]], .call 40 3 [[.v 32, .v 33, .v 34, .v 35, .v 36, .v 37, .v 38, .v 39]] 4, .need 13 [[.v 40, .v 41, .v 42, .v 43]], .call 44 13 [[.v 40, .v 41, .v 42, .v 43]] 32, .eqs 76 [(.v 44, .v 0), (.v 45, .v 1), (.v 46, .v 2), (.v 47, .v 3), (.v 48, .v 4), (.v 49, .v 5), (.v 50, .v 6), (.v 51, .v 7), (.v 52, .v 8), (.v 53, .v 9), (.v 54, .v 10), (.v 55, .v 11), (.v 56, .v 12), (.v 57, .v 13), (.v 58, .v 14), (.v 59, .v 15), (.v 60, .v 16), (.v 61, .v 17), (.v 62, .v 18), (.v 63, .v 19), (.v 64, .v 20), (.v 65, .v 21), (.v 66, .v 22), (.v 67, .v 23), (.v 68, .v 24), (.v 69, .v 25), (.v 70, .v 26), (.v 71, .v 27), (.v 72, .v 28), (.v 73, .v 29), (.v 74, .v 30), (.v 75, .v 31)]]) (refs := [.v 76]) (by kernel_rfl) fun ρ hρ hd => ?_
  have ea : seg ρ 0 32 = a := seg_of (fun i hi => by rw [Nat.zero_add, hρ i hi]; simp only [flat, List.flatten_cons, List.flatten_nil, List.append_nil]) la
  simp only [D_nil, D_add, D_sub, D_mul, D_and, D_or, D_xor, D_shl, D_shr, D_andNot, D_quo, D_rem, D_add_i64, D_sub_i64, D_mul_i64, D_add_u32, D_sub_u32, D_mul_u32, D_add_u8, D_sub_u8, D_mul_u8, D_eql, D_neq, D_lss, D_leq, D_gtr, D_geq, D_not, D_conv, D_eqs, D_call, D_cond, D_need, D_idx, D_sel, D_upd, D_shv, D_beq, List.map_cons, List.map_nil, Ref.den] at hd
  obtain ⟨h1, h2, h3, h4, -⟩ := hd
  have e1 : seg ρ 32 8 = dg MM 8 (dv 256 (seg ρ 0 32)) := seg_of h1 (dg_len _ _ _)
  have e2 : seg ρ 40 4 = dg MM 4 (dv MM (seg ρ 32 8) % LL) := seg_of h2 (dg_len _ _ _)
  have e3 : seg ρ 44 32 = dg 256 32 (dv MM (seg ρ 40 4)) := seg_of h3 (dg_len _ _ _)
  have hm := mod_LL (dv 256 a)
  have hL := LL_lt2
  rw [ea] at e1
  rw [e1, dv_dg_of MM_pos bd.1 bd.2] at e2
  rw [e2, dv_dg_of MM_pos hm.1 (by omega)] at e3
  refine ⟨by simp only [G_nil, G_bin, G_cmp, G_not, G_conv, G_eqs, G_call, G_cond, G_need, G_idx, G_sel, G_upd, G_shv, G_beq, List.map_cons, List.map_nil, Ref.den]; exact ⟨trivial, trivial, trivial, trivial⟩, ?_⟩
  show [ρ 76] = [b2i (decide (dv 256 a < LL))]
  have h5 : ρ 76 = b2i (((List.range 32).map fun i => (Ref.v (44 + i), Ref.v (0 + i))).all fun p => decide (p.1.den ρ = p.2.den ρ)) := h4
  rw [h5, eqs_seg, e3, ea, eq_comm]
  congr 2
  refine decide_eq_decide.2 ⟨fun h => ?_, fun h => ?_⟩
  · rw [Int.emod_eq_of_lt bd.1 h, ← la, dg_dv (by decide) (dig8 ia)]
  · have h6 := congrArg (dv 256) h
    rw [dv_dg_of (by decide) hm.1 (by omega)] at h6
    omega
theorem okSAdd : CtrOK Try.prog sfns cSAdd := by
  refine CtrOK.of okT4 mixed (lf := 300) (d := 5) rfl fun w vs xs ha _ => ?_
  obtain ⟨v, u, a, b, rfl, rfl, ⟨la, -, ia⟩, ⟨lb, -, ib⟩⟩ := open2 ha
  have bda := bd32 la ia
  have bdb := bd32 lb ib
  have hma := mod_LL (dv 256 a)
  have hmb := mod_LL (dv 256 b)
  have hL := LL_lt2
  have hL' := LL_lt
  refine Go.Sx.Way.of (dec := []) (fs := [.need 14 [[.v 0, .v 1, .v 2, .v 3, .v 4, .v 5, .v 6, .v 7, .v 8, .v 9, .v 10, .v 11, .v 12, .v 13, .v 14, .v 15, .v 16, .v 17, .v 18, .v 19, .v 20, .v 21, .v 22, .v 23, .v 24, .v 25, .v 26, .v 27, .v 28, .v 29, .v 30, .v 31]], .call 64 14 [[.v 0, .v 1, .v 2, .v 3, .v 4, .v 5, .v 6, .v 7, .v 8, .v 9, .v 10, .v 11, .v 12, .v 13, .v 14, .v 15, .v 16, .v 17, .v 18, .v 19, .v 20, .v 21, .v 22, .v 23, .v 24, .v 25, .v 26, .v 27, .v 28, .v 29, .v 30, .v 31]] 8, .need 3 [[.v 64, .v 65, .v 66, .v 67, .v 68, .v 69, .v 70, .v 71]], .call 72 3 [[.v 64, .v 65, .v 66, .v 67, .v 68, .v 69, .v 70, .v 71]] 4, .need 14 [[.v 32, .v 33, .v 34, .v 35, .v 36, .v 37, .v 38, .v 39, .v 40, .v 41, .v 42, .v 43, .v 44, .v 45, .v 46, .v 47, .v 48, .v 49, .v 50, .v 51, .v 52, .v 53, .v 54, .v 55, .v 56, .v 57, .v 58, .v 59, .v 60, .v 61, .v 62, .v 63]], .call 76 14 [[.v 32, .v 33, .v 34, .v 35, .v 36, .v 37, .v 38, .v 39, .v 40, .v 41, .v 42, .v 43, .v 44, .v 45, .v 46, .v 47, .v 48, .v 49, .v 50, .v 51, .v 52, .v 53, .v 54, .v 55, .v 56, .v 57, .v 58, .v 59, .v 60, .v 61, .v 62, .v 63]] 8, .need 3 [[.v 76, .v 77, .v 78, .v 79, .v 80, .v 81, .v 82, .v 83]], .call 84 3 [[.v 76, .v 77, .v 78, .v 79, .v 80, .v 81, .v 82, .v 83]] 4, .need 10 [[.v 72, .v 73, .v 74, .v 75], [.v 84, .v 85, .v 86, .v 87]], .call 88 10 [[.v 72, .v 73, .v 74, .v 75], [.v 84, .v 85, .v 86, .v 87]] 4, .need 12 [[.v 88, .v 89, .v 90, .v 91]], .call 92 12 [[.v 88, .v 89, .v 90, .v 91]] 4, .need 13 [[.v 92, .v 93, .v 94, .v 95]], .call 96 13 [[.v 92, .v 93, .v 94, .v 95]] 32]) (refs := [.v 96, .v 97, .v 98, .v 99, .v 100, .v 101, .v 102, .v 103, .v 104, .v 105, .v 106, .v 107, .v 108, .v 109, .v 110, .v 111, .v 112, .v 113, .v 114, .v 115, .v 116, .v 117, .v 118, .v 119, .v 120, .v 121, .v 122, .v 123, .v 124, .v 125, .v 126, .v 127]) (by kernel_rfl) fun ρ hρ hd => ?_
  have ea : seg ρ 0 32 = a := seg_of (fun i hi => by
    rw [Nat.zero_add, hρ i (by show i < 64; omega)]
    simp only [flat, List.flatten_cons, List.flatten_nil, List.append_nil, List.getD_eq_getElem?_getD]
    rw [List.getElem?_append_left (by omega)]) la
  have eb : seg ρ 32 32 = b := seg_of (fun i hi => by
    rw [hρ (32 + i) (by show 32 + i < 64; omega)]
    simp only [flat, List.flatten_cons, List.flatten_nil, List.append_nil, List.getD_eq_getElem?_getD]
    rw [List.getElem?_append_right (by omega), la, Nat.add_sub_cancel_left]) lb
  simp only [D_nil, D_add, D_sub, D_mul, D_and, D_or, D_xor, D_shl, D_shr, D_andNot, D_quo, D_rem, D_add_i64, D_sub_i64, D_mul_i64, D_add_u32, D_sub_u32, D_mul_u32, D_add_u8, D_sub_u8, D_mul_u8, D_eql, D_neq, D_lss, D_leq, D_gtr, D_geq, D_not, D_conv, D_eqs, D_call, D_cond, D_need, D_idx, D_sel, D_upd, D_shv, D_beq, List.map_cons, List.map_nil, Ref.den] at hd
  obtain ⟨h1, h2, h3, h4, h5, h6, h7, -⟩ := hd
  have e1 : seg ρ 64 8 = dg MM 8 (dv 256 (seg ρ 0 32)) := seg_of h1 (dg_len _ _ _)
  have e2 : seg ρ 72 4 = dg MM 4 (dv MM (seg ρ 64 8) % LL) := seg_of h2 (dg_len _ _ _)
  have e3 : seg ρ 76 8 = dg MM 8 (dv 256 (seg ρ 32 32)) := seg_of h3 (dg_len _ _ _)
  have e4 : seg ρ 84 4 = dg MM 4 (dv MM (seg ρ 76 8) % LL) := seg_of h4 (dg_len _ _ _)
  have e5 : seg ρ 88 4 = dg MM 4 (dv MM (seg ρ 72 4) + dv MM (seg ρ 84 4)) := seg_of h5 (dg_len _ _ _)
  have e6 : seg ρ 92 4 = dg MM 4 (cutZ (dv MM (seg ρ 88 4))) := seg_of h6 (dg_len _ _ _)
  have e7 : seg ρ 96 32 = dg 256 32 (dv MM (seg ρ 92 4)) := seg_of h7 (dg_len _ _ _)
  rw [ea] at e1
  rw [eb] at e3
  rw [e1, dv_dg_of MM_pos bda.1 bda.2] at e2
  rw [e3, dv_dg_of MM_pos bdb.1 bdb.2] at e4
  rw [e2, e4, dv_dg_of MM_pos hma.1 (by omega), dv_dg_of MM_pos hmb.1 (by omega)] at e5
  rw [e5, dv_dg_of MM_pos (by omega) (by omega), cutZ_mod (by omega) (by omega), ← Int.add_emod] at e6
  have hm := mod_LL (dv 256 a + dv 256 b)
  rw [e6, dv_dg_of MM_pos hm.1 (by omega)] at e7
  refine ⟨by simp only [G_nil, G_bin, G_cmp, G_not, G_conv, G_eqs, G_call, G_cond, G_need, G_idx, G_sel, G_upd, G_shv, G_beq, List.map_cons, List.map_nil, Ref.den]; exact ⟨trivial, trivial, trivial, trivial, trivial, trivial, trivial, trivial⟩, ?_⟩
  exact e7
theorem okSMul : CtrOK Try.prog sfns cSMul := by
  refine CtrOK.of okT4 mixed (lf := 300) (d := 5) rfl fun w vs xs ha _ => ?_
  obtain ⟨v, u, a, b, rfl, rfl, ⟨la, -, ia⟩, ⟨lb, -, ib⟩⟩ := open2 ha
  have bda := bd32 la ia
  have bdb := bd32 lb ib
  have hma := mod_LL (dv 256 a)
  have hmb := mod_LL (dv 256 b)
  have hL := LL_lt2
  have hL' := LL_lt
  refine Go.Sx.Way.of (dec := []) (fs := [.need 14 [[.v 0, .v 1, .v 2, .v 3, .v 4, .v 5, .v 6, .v 7, .v 8, .v 9, .v 10, .v 11, .v 12, .v 13, .v 14, .v 15, .v 16, .v 17, .v 18, .v 19, .v 20, .v 21, .v 22, .v 23, .v 24, .v 25, .v 26, .v 27, .v 28, .v 29, .v 30, .v 31]], .call 64 14 [[.v 0, .v 1, .v 2, .v 3, .v 4, .v 5, .v 6, .v 7, .v 8, .v 9, .v 10, .v 11, .v 12, .v 13, .v 14, .v 15, .v 16, .v 17, .v 18, .v 19, .v 20, .v 21, .v 22, .v 23, .v 24, .v 25, .v 26, .v 27, .v 28, .v 29, .v 30, .v 31]] 8, .need 3 [[.v 64, .v 65, .v 66, .v 67, .v 68, .v 69, .v 70, .v 71]], .call 72 3 [[.v 64, .v 65, .v 66, .v 67, .v 68, .v 69, .v 70, .v 71]] 4, .need 14 [[.v 32, .v 33, .v 34, .v 35, .v 36, .v 37, .v 38, .v 39, .v 40, .v 41, .v 42, .v 43, .v 44, .v 45, .v 46, .v 47, .v 48, .v 49, .v 50, .v 51, .v 52, .v 53, .v 54, .v 55, .v 56, .v 57, .v 58, .v 59, .v 60, .v 61, .v 62, .v 63]], .call 76 14 [[.v 32, .v 33, .v 34, .v 35, .v 36, .v 37, .v 38, .v 39, .v 40, .v 41, .v 42, .v 43, .v 44, .v 45, .v 46, .v 47, .v 48, .v 49, .v 50, .v 51, .v 52, .v 53, .v 54, .v 55, .v 56, .v 57, .v 58, .v 59, .v 60, .v 61, .v 62, .v 63]] 8, .need 3 [[.v 76, .v 77, .v 78, .v 79, .v 80, .v 81, .v 82, .v 83]], .call 84 3 [[.v 76, .v 77, .v 78, .v 79, .v 80, .v 81, .v 82, .v 83]] 4, .need 16 [[.v 72, .v 73, .v 74, .v 75], [.v 84, .v 85, .v 86, .v 87]], .call 88 16 [[.v 72, .v 73, .v 74, .v 75], [.v 84, .v 85, .v 86, .v 87]] 4, .need 13 [[.v 88, .v 89, .v 90, .v 91]], .call 92 13 [[.v 88, .v 89, .v 90, .v 91]] 32]) (refs := [.v 92, .v 93, .v 94, .v 95, .v 96, .v 97, .v 98, .v 99, .v 100, .v 101, .v 102, .v 103, .v 104, .v 105, .v 106, .v 107, .v 108, .v 109, .v 110, .v 111, .v 112, .v 113, .v 114, .v 115, .v 116, .v 117, .v 118, .v 119, .v 120, .v 121, .v 122, .v 123]) (by kernel_rfl) fun ρ hρ hd => ?_
  have ea : seg ρ 0 32 = a := seg_of (fun i hi => by
    rw [Nat.zero_add, hρ i (by show i < 64; omega)]
    simp only [flat, List.flatten_cons, List.flatten_nil, List.append_nil, List.getD_eq_getElem?_getD]
    rw [List.getElem?_append_left (by omega)]) la
  have eb : seg ρ 32 32 = b := seg_of (fun i hi => by
    rw [hρ (32 + i) (by show 32 + i < 64; omega)]
    simp only [flat, List.flatten_cons, List.flatten_nil, List.append_nil, List.getD_eq_getElem?_getD]
    rw [List.getElem?_append_right (by omega), la, Nat.add_sub_cancel_left]) lb
  simp only [D_nil, D_add, D_sub, D_mul, D_and, D_or, D_xor, D_shl, D_shr, D_andNot, D_quo, D_rem, D_add_i64, D_sub_i64, D_mul_i64, D_add_u32, D_sub_u32, D_mul_u32, D_add_u8, D_sub_u8, D_mul_u8, D_eql, D_neq, D_lss, D_leq, D_gtr, D_geq, D_not, D_conv, D_eqs, D_call, D_cond, D_need, D_idx, D_sel, D_upd, D_shv, D_beq, List.map_cons, List.map_nil, Ref.den] at hd
  obtain ⟨h1, h2, h3, h4, h5, h7, -⟩ := hd
  have e1 : seg ρ 64 8 = dg MM 8 (dv 256 (seg ρ 0 32)) := seg_of h1 (dg_len _ _ _)
  have e2 : seg ρ 72 4 = dg MM 4 (dv MM (seg ρ 64 8) % LL) := seg_of h2 (dg_len _ _ _)
  have e3 : seg ρ 76 8 = dg MM 8 (dv 256 (seg ρ 32 32)) := seg_of h3 (dg_len _ _ _)
  have e4 : seg ρ 84 4 = dg MM 4 (dv MM (seg ρ 76 8) % LL) := seg_of h4 (dg_len _ _ _)
  have e5 : seg ρ 88 4 = dg MM 4 (dv MM (seg ρ 72 4) * dv MM (seg ρ 84 4) % LL) := seg_of h5 (dg_len _ _ _)
  have e7 : seg ρ 92 32 = dg 256 32 (dv MM (seg ρ 88 4)) := seg_of h7 (dg_len _ _ _)
  rw [ea] at e1
  rw [eb] at e3
  rw [e1, dv_dg_of MM_pos bda.1 bda.2] at e2
  rw [e3, dv_dg_of MM_pos bdb.1 bdb.2] at e4
  rw [e2, e4, dv_dg_of MM_pos hma.1 (by omega), dv_dg_of MM_pos hmb.1 (by omega), ← Int.mul_emod] at e5
  have hm := mod_LL (dv 256 a * dv 256 b)
  rw [e5, dv_dg_of MM_pos hm.1 (by omega)] at e7
  refine ⟨by simp only [G_nil, G_bin, G_cmp, G_not, G_conv, G_eqs, G_call, G_cond, G_need, G_idx, G_sel, G_upd, G_shv, G_beq, List.map_cons, List.map_nil, Ref.den]; exact ⟨trivial, trivial, trivial, trivial, trivial, trivial, trivial⟩, ?_⟩
  exact e7
theorem okSSub : CtrOK Try.prog sfns cSSub := by
  refine CtrOK.of okT4 mixed (lf := 300) (d := 5) rfl fun w vs xs ha _ => ?_
  obtain ⟨v, u, a, b, rfl, rfl, ⟨la, -, ia⟩, ⟨lb, -, ib⟩⟩ := open2 ha
  have bda := bd32 la ia
  have bdb := bd32 lb ib
  have hma := mod_LL (dv 256 a)
  have hmb := mod_LL (dv 256 b)
  have hL := LL_lt2
  have hL' := LL_lt
  refine Go.Sx.Way.of (dec := []) (fs := [.need 14 [[.v 32, .v 33, .v 34, .v 35, .v 36, .v 37, .v 38, .v 39, .v 40, .v 41, .v 42, .v 43, .v 44, .v 45, .v 46, .v 47, .v 48, .v 49, .v 50, .v 51, .v 52, .v 53, .v 54, .v 55, .v 56, .v 57, .v 58, .v 59, .v 60, .v 61, .v 62, .v 63]], .call 64 14 [[.v 32, .v 33, .v 34, .v 35, .v 36, .v 37, .v 38, .v 39, .v 40, .v 41, .v 42, .v 43, .v 44, .v 45, .v 46, .v 47, .v 48, .v 49, .v 50, .v 51, .v 52, .v 53, .v 54, .v 55, .v 56, .v 57, .v 58, .v 59, .v 60, .v 61, .v 62, .v 63]] 8, .need 3 [[.v 64, .v 65, .v 66, .v 67, .v 68, .v 69, .v 70, .v 71]], .call 72 3 [[.v 64, .v 65, .v 66, .v 67, .v 68, .v 69, .v 70, .v 71]] 4, .need 11 [[.l 6346243789798364141, .l 1503914060200516822, .l 0, .l 1152921504606846976], [.v 72, .v 73, .v 74, .v 75]], .call 76 11 [[.l 6346243789798364141, .l 1503914060200516822, .l 0, .l 1152921504606846976], [.v 72, .v 73, .v 74, .v 75]] 5, .need 14 [[.v 0, .v 1, .v 2, .v 3, .v 4, .v 5, .v 6, .v 7, .v 8, .v 9, .v 10, .v 11, .v 12, .v 13, .v 14, .v 15, .v 16, .v 17, .v 18, .v 19, .v 20, .v 21, .v 22, .v 23, .v 24, .v 25, .v 26, .v 27, .v 28, .v 29, .v 30, .v 31]], .call 81 14 [[.v 0, .v 1, .v 2, .v 3, .v 4, .v 5, .v 6, .v 7, .v 8, .v 9, .v 10, .v 11, .v 12, .v 13, .v 14, .v 15, .v 16, .v 17, .v 18, .v 19, .v 20, .v 21, .v 22, .v 23, .v 24, .v 25, .v 26, .v 27, .v 28, .v 29, .v 30, .v 31]] 8, .need 3 [[.v 81, .v 82, .v 83, .v 84, .v 85, .v 86, .v 87, .v 88]], .call 89 3 [[.v 81, .v 82, .v 83, .v 84, .v 85, .v 86, .v 87, .v 88]] 4, .need 10 [[.v 89, .v 90, .v 91, .v 92], [.v 76, .v 77, .v 78, .v 79]], .call 93 10 [[.v 89, .v 90, .v 91, .v 92], [.v 76, .v 77, .v 78, .v 79]] 4, .need 12 [[.v 93, .v 94, .v 95, .v 96]], .call 97 12 [[.v 93, .v 94, .v 95, .v 96]] 4, .need 13 [[.v 97, .v 98, .v 99, .v 100]], .call 101 13 [[.v 97, .v 98, .v 99, .v 100]] 32]) (refs := [.v 101, .v 102, .v 103, .v 104, .v 105, .v 106, .v 107, .v 108, .v 109, .v 110, .v 111, .v 112, .v 113, .v 114, .v 115, .v 116, .v 117, .v 118, .v 119, .v 120, .v 121, .v 122, .v 123, .v 124, .v 125, .v 126, .v 127, .v 128, .v 129, .v 130, .v 131, .v 132]) (by kernel_rfl) fun ρ hρ hd => ?_
  have ea : seg ρ 0 32 = a := seg_of (fun i hi => by
    rw [Nat.zero_add, hρ i (by show i < 64; omega)]
    simp only [flat, List.flatten_cons, List.flatten_nil, List.append_nil, List.getD_eq_getElem?_getD]
    rw [List.getElem?_append_left (by omega)]) la
  have eb : seg ρ 32 32 = b := seg_of (fun i hi => by
    rw [hρ (32 + i) (by show 32 + i < 64; omega)]
    simp only [flat, List.flatten_cons, List.flatten_nil, List.append_nil, List.getD_eq_getElem?_getD]
    rw [List.getElem?_append_right (by omega), la, Nat.add_sub_cancel_left]) lb
  simp only [D_nil, D_add, D_sub, D_mul, D_and, D_or, D_xor, D_shl, D_shr, D_andNot, D_quo, D_rem, D_add_i64, D_sub_i64, D_mul_i64, D_add_u32, D_sub_u32, D_mul_u32, D_add_u8, D_sub_u8, D_mul_u8, D_eql, D_neq, D_lss, D_leq, D_gtr, D_geq, D_not, D_conv, D_eqs, D_call, D_cond, D_need, D_idx, D_sel, D_upd, D_shv, D_beq, List.map_cons, List.map_nil, Ref.den] at hd
  obtain ⟨h3, h4, h0, h1, h2, h5, h6, h7, -⟩ := hd
  have e3 : seg ρ 64 8 = dg MM 8 (dv 256 (seg ρ 32 32)) := seg_of h3 (dg_len _ _ _)
  have e4 : seg ρ 72 4 = dg MM 4 (dv MM (seg ρ 64 8) % LL) := seg_of h4 (dg_len _ _ _)
  have e0 : seg ρ 76 4 = dg MM 4 (LL - dv MM (seg ρ 72 4)) := seg_of (fun i hi => by
    rw [h0 i (by show i < 5; omega), ← limit_eq]
    show (dg MM 4 (dv MM [6346243789798364141, 1503914060200516822, 0, 1152921504606846976] - dv MM (seg ρ 72 4)) ++ _).getD i 0 = _
    rw [List.getD_eq_getElem?_getD, List.getElem?_append_left (by rw [dg_len]; exact hi), List.getD_eq_getElem?_getD]) (dg_len _ _ _)
  have e1 : seg ρ 81 8 = dg MM 8 (dv 256 (seg ρ 0 32)) := seg_of h1 (dg_len _ _ _)
  have e2 : seg ρ 89 4 = dg MM 4 (dv MM (seg ρ 81 8) % LL) := seg_of h2 (dg_len _ _ _)
  have e5 : seg ρ 93 4 = dg MM 4 (dv MM (seg ρ 89 4) + dv MM (seg ρ 76 4)) := seg_of h5 (dg_len _ _ _)
  have e6 : seg ρ 97 4 = dg MM 4 (cutZ (dv MM (seg ρ 93 4))) := seg_of h6 (dg_len _ _ _)
  have e7 : seg ρ 101 32 = dg 256 32 (dv MM (seg ρ 97 4)) := seg_of h7 (dg_len _ _ _)
  rw [ea] at e1
  rw [eb] at e3
  rw [e1, dv_dg_of MM_pos bda.1 bda.2] at e2
  rw [e3, dv_dg_of MM_pos bdb.1 bdb.2] at e4
  rw [e4, dv_dg_of MM_pos hmb.1 (by omega)] at e0
  rw [e2, e0, dv_dg_of MM_pos hma.1 (by omega), dv_dg_of MM_pos (n := LL - dv 256 b % LL) (by omega) (by omega)] at e5
  have hq : (dv 256 a % LL + (LL - dv 256 b % LL)) % LL = (dv 256 a - dv 256 b) % LL := by
    rw [show dv 256 a % LL + (LL - dv 256 b % LL) = dv 256 a % LL - dv 256 b % LL + LL by omega, Int.add_emod_right, ← Int.sub_emod]
  have hm := mod_LL (dv 256 a - dv 256 b)
  have e8 : cutZ (dv MM (seg ρ 93 4)) = (dv 256 a - dv 256 b) % LL := by
    rw [e5, dv_dg_of MM_pos (by omega) (by omega), ← hq]
    by_cases h2L : dv 256 a % LL + (LL - dv 256 b % LL) < 2 * LL
    · exact cutZ_mod (by omega) h2L
    · omega
  rw [e6, e8, dv_dg_of MM_pos hm.1 (by omega)] at e7
  refine ⟨by simp only [G_nil, G_bin, G_cmp, G_not, G_conv, G_eqs, G_call, G_cond, G_need, G_idx, G_sel, G_upd, G_shv, G_beq, List.map_cons, List.map_nil, Ref.den]; exact ⟨trivial, trivial, trivial, trivial, trivial, trivial, trivial, trivial, trivial⟩, ?_⟩
  exact e7
#print axioms okSSub
end Go.Proofs.Ytokndemdmkaofaa
