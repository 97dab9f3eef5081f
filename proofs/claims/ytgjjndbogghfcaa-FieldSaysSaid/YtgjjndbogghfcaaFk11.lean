/- Numbers modulo p: what is shown of field.Root. No condition. -/
import Derived.Test.YtgjjndbogghfcaaFk10
import Derived.Test.YtgjjndbogghfcaaPlainR
namespace Go.Bx
theorem evenZ_bd {x : Int} (h : 0 ≤ x ∧ x < PP) : 0 ≤ evenZ x ∧ evenZ x < PP := by
  unfold evenZ; split
  · exact ⟨Int.emod_nonneg _ (by decide), Int.emod_lt_of_pos _ PP_lt.1⟩
  · exact h
theorem evenZ_even {x : Int} (h : 0 ≤ x ∧ x < PP) : evenZ x % 2 = 0 := by
  unfold evenZ; split
  · rename_i h1
    have e : (0 - x) % PP = PP - x := by
      rw [show (0 - x) = (PP - x) + PP * (-1) by omega, Int.add_mul_emod_self_left, Int.emod_eq_of_lt (by omega) (by omega)]
    obtain ⟨q, hq⟩ : ∃ q, PP = 2 * q + 1 := ⟨28948022309329048855892746252171976963317496166410141009864396001978282409974, by decide⟩
    rw [minZ_mod, e]
    omega
  · omega
theorem evenZ_mod (x : Int) : evenZ x % PP = x % PP ∨ evenZ x % PP = (0 - x) % PP := by
  unfold evenZ; split
  · exact .inr (by rw [Int.emod_emod, minZ_mod])
  · exact .inl rfl
theorem neg_sq {x y : Int} (h : x % PP = y % PP ∨ x % PP = (0 - y) % PP) : (x * x) % PP = (y * y) % PP := by
  rcases h with h | h
  · exact mul_congP h h
  · have e : (0 - y) * (0 - y) = y * y := by rw [Int.zero_sub, Int.neg_mul_neg]
    rw [mul_congP h h, e]
/-- The root that is even. -/
def eroot (A : Int) : Int := evenZ (rootT A % PP)
theorem rmod (A : Int) : 0 ≤ A % PP ∧ A % PP < PP := ⟨Int.emod_nonneg _ (by decide), Int.emod_lt_of_pos _ PP_lt.1⟩
theorem eroot_bd (A : Int) : 0 ≤ eroot A ∧ eroot A < PP := by
  unfold eroot; generalize rootT A = r; exact evenZ_bd (rmod r)
theorem eroot_even (A : Int) : eroot A % 2 = 0 := by
  unfold eroot; generalize rootT A = r; exact evenZ_even (rmod r)
theorem eroot_sq (A : Int) : (eroot A * eroot A) % PP = (rootT A * rootT A) % PP := by
  unfold eroot; generalize rootT A = r
  rw [neg_sq (evenZ_mod (r % PP)), mulP, mulP']
end Go.Bx
namespace Go.Proofs.Ytgjjndbogghfcaa
open Go.RowKit Go.Bx Go.Sx
set_option linter.unusedSimpArgs false
def cERoot : Ctr := ⟨21, 39, [.arr .u8 32], [.arr .u8 32, .bool]⟩
def T9 : List Ctr := cRoot :: T5
theorem okT9 : ∀ c ∈ T9, CtrOK Try.prog sfns c := by
  intro c hc
  rcases List.mem_cons.1 hc with rfl | hc
  · exact okRoot
  · exact okT5 c hc
theorem sg20 (a : List Int) : sfns.g 20 [a] = (if timesZ (rootT (dv MM a)) (rootT (dv MM a)) % PP = dv MM a % PP then dg MM 4 (evenZ (rootT (dv MM a) % PP)) ++ [1] else [0, 0, 0, 0, 0]) := by simp only [sfns, sg]
theorem okERoot : CtrOK Try.prog sfns cERoot := by
  refine CtrOK.of okT9 mixed (lf := 300) (d := 5) rfl fun w vs xs ha _ => ?_
  obtain ⟨v, a, rfl, rfl, ⟨la, -, ia⟩⟩ := open1 ha
  have bA := bd32 la ia
  refine Go.Sx.Way.of (dec := []) (fs := [.need 10 [[.v 0, .v 1, .v 2, .v 3, .v 4, .v 5, .v 6, .v 7, .v 8, .v 9, .v 10, .v 11, .v 12, .v 13, .v 14, .v 15, .v 16, .v 17, .v 18, .v 19, .v 20, .v 21, .v 22, .v 23, .v 24, .v 25, .v 26, .v 27, .v 28, .v 29, .v 30, .v 31]], .call 32 10 [[.v 0, .v 1, .v 2, .v 3, .v 4, .v 5, .v 6, .v 7, .v 8, .v 9, .v 10, .v 11, .v 12, .v 13, .v 14, .v 15, .v 16, .v 17, .v 18, .v 19, .v 20, .v 21, .v 22, .v 23, .v 24, .v 25, .v 26, .v 27, .v 28, .v 29, .v 30, .v 31]] 4, .need 20 [[.v 32, .v 33, .v 34, .v 35]], .call 36 20 [[.v 32, .v 33, .v 34, .v 35]] 5, .need 13 [[.v 36, .v 37, .v 38, .v 39]], .call 41 13 [[.v 36, .v 37, .v 38, .v 39]] 32]) (refs := [.v 41, .v 42, .v 43, .v 44, .v 45, .v 46, .v 47, .v 48, .v 49, .v 50, .v 51, .v 52, .v 53, .v 54, .v 55, .v 56, .v 57, .v 58, .v 59, .v 60, .v 61, .v 62, .v 63, .v 64, .v 65, .v 66, .v 67, .v 68, .v 69, .v 70, .v 71, .v 72, .v 40]) (by kernel_rfl) fun ρ hρ hd => ?_
  have ea := seg0 la hρ
  simp only [D_nil, D_add, D_sub, D_mul, D_and, D_or, D_xor, D_shl, D_shr, D_andNot, D_quo, D_rem, D_add_i64, D_sub_i64, D_mul_i64, D_add_u32, D_sub_u32, D_mul_u32, D_add_u8, D_sub_u8, D_mul_u8, D_eql, D_neq, D_lss, D_leq, D_gtr, D_geq, D_not, D_conv, D_eqs, D_call, D_cond, D_need, D_idx, D_sel, D_upd, D_shv, D_beq, List.map_cons, List.map_nil, Ref.den] at hd
  obtain ⟨h32, h36, h41, -⟩ := hd
  have s32 : seg ρ 32 4 = dg MM 4 (dv 256 (seg ρ 0 32)) := seg_of h32 (dg_len _ _ _)
  have s41 : seg ρ 41 32 = dg 256 32 (dv MM (seg ρ 36 4) % PP) := seg_of h41 (dg_len _ _ _)
  rw [ea] at s32
  have h36' : ∀ i, i < 5 → ρ (36 + i) = (if timesZ (rootT (dv 256 a)) (rootT (dv 256 a)) % PP = dv 256 a % PP then dg MM 4 (evenZ (rootT (dv 256 a) % PP)) ++ [1] else [0, 0, 0, 0, 0]).getD i 0 := by
    intro i hi
    have e4 : [ρ 32, ρ 33, ρ 34, ρ 35] = seg ρ 32 4 := rfl
    rw [h36 i hi, e4, s32, sg20, dvW bA.1 bA.2]
  have esg : sfns.g cERoot.j [a] = (if timesZ (rootT (dv 256 a)) (rootT (dv 256 a)) % PP = dv 256 a % PP then dg 256 32 (evenZ (rootT (dv 256 a) % PP)) ++ [1] else dg 256 32 0 ++ [0]) := by
    simp only [sfns, cERoot, sg]
  rw [esg]
  refine ⟨by simp only [G_nil, G_bin, G_cmp, G_not, G_conv, G_eqs, G_call, G_cond, G_need, G_idx, G_sel, G_upd, G_shv, G_beq, List.map_cons, List.map_nil, Ref.den]; exact ⟨trivial, trivial, trivial, trivial⟩, ?_⟩
  show seg ρ 41 32 ++ [ρ 40] = _
  have hb := eroot_bd (dv 256 a)
  have hL := PP_lt
  by_cases c : timesZ (rootT (dv 256 a)) (rootT (dv 256 a)) % PP = dv 256 a % PP
  · rw [if_pos c]
    have h := h36'
    simp only [if_pos c] at h
    have s36 : seg ρ 36 4 = dg MM 4 (eroot (dv 256 a)) := seg_of (fun i hi => by
      rw [h i (by omega)]
      simp only [List.getD_eq_getElem?_getD]
      rw [List.getElem?_append_left (by rw [dg_len]; omega)]; rfl) (dg_len _ _ _)
    have h40 : ρ 40 = 1 := h 4 (by decide)
    rw [s36, dvW hb.1 (by omega), Int.emod_eq_of_lt hb.1 hb.2] at s41
    rw [s41, h40]; rfl
  · rw [if_neg c]
    have h := h36'
    simp only [if_neg c] at h
    have s36 : seg ρ 36 4 = [0, 0, 0, 0] := seg_of (fun i hi => by
      rw [h i (by omega)]
      match i, hi with
      | 0, _ => rfl
      | 1, _ => rfl
      | 2, _ => rfl
      | 3, _ => rfl) rfl
    have h40 : ρ 40 = 0 := h 4 (by decide)
    rw [s36, show dv MM [0, 0, 0, 0] % PP = 0 by decide] at s41
    rw [s41, h40]
#print axioms okERoot
end Go.Proofs.Ytgjjndbogghfcaa
