/- Numbers modulo p: what is shown of field.Root. No condition. -/
import Derived.Test.YtfobnajgnnccmaaFk10
import Derived.Test.YtfobnajgnnccmaaPlainR
namespace Go.Bx
theorem evenZ_bd {x : Int} (h : 0 ≤ x ∧ x < PP) : 0 ≤ evenZ x ∧ evenZ x < PP := by
  unfold evenZ; split
  · exact ⟨Int.emod_nonneg _ (by decide), Int.emod_lt_of_pos _ PP_lt.1⟩
  · exact h
theorem evenZ_even {x : Int} (h : 0 ≤ x ∧ x < PP) : evenZ x % 2 = 0 := by
  unfold evenZ; split
  · rename_i h1
    have e : (0 - x) % PP = PP - x := by
      rw [show (0 - x) = (PP - x) + PP * (-1) by omega, Int.add_mul_emod_self_left, Int.emod_eq_of_lt (by omega) (by omega)]
    obtain ⟨q, hq⟩ : ∃ q, PP = 2 * q + 1 := ⟨28948022309329048855892746252171976963317496166410141009864396001978282409974, by decide⟩
    rw [minZ_mod, e]
    omega
  · omega
theorem evenZ_mod (x : Int) : evenZ x % PP = x % PP ∨ evenZ x % PP = (0 - x) % PP := by
  unfold evenZ; split
  · exact .inr (by rw [Int.emod_emod, minZ_mod])
  · exact .inl rfl
theorem neg_sq {x y : Int} (h : x % PP = y % PP ∨ x % PP = (0 - y) % PP) : (x * x) % PP = (y * y) % PP := by
  rcases h with h | h
  · exact mul_congP h h
  · have e : (0 - y) * (0 - y) = y * y := by rw [Int.zero_sub, Int.neg_mul_neg]
    rw [mul_congP h h, e]
/-- The root that is even. -/
def eroot (A : Int) : Int := evenZ (rootT A % PP)
theorem rmod (A : Int) : 0 ≤ A % PP ∧ A % PP < PP := ⟨Int.emod_nonneg _ (by decide), Int.emod_lt_of_pos _ PP_lt.1⟩
theorem eroot_bd (A : Int) : 0 ≤ eroot A ∧ eroot A < PP := by
  unfold eroot; generalize rootT A = r; exact evenZ_bd (rmod r)
theorem eroot_even (A : Int) : eroot A % 2 = 0 := by
  unfold eroot; generalize rootT A = r; exact evenZ_even (rmod r)
theorem eroot_sq (A : Int) : (eroot A * eroot A) % PP = (rootT A * rootT A) % PP := by
  unfold eroot; generalize rootT A = r
  rw [neg_sq (evenZ_mod (r % PP)), mulP, mulP']
end Go.Bx
namespace Go.Proofs.Ytfobnajgnnccmaa
open Go.RowKit Go.Bx Go.Sx
set_option linter.unusedSimpArgs false
def T9 : List Ctr := cRoot :: T5
theorem okT9 : ∀ c ∈ T9, CtrOK Try.prog sfns c := by
  intro c hc
  rcases List.mem_cons.1 hc with rfl | hc
  · exact okRoot
  · exact okT5 c hc
theorem sg20 (a : List Int) : sfns.g 20 [a] = (if timesZ (rootT (dv MM a)) (rootT (dv MM a)) % PP = dv MM a % PP then dg MM 4 (evenZ (rootT (dv MM a) % PP)) ++ [1] else [0, 0, 0, 0, 0]) := by simp only [sfns, sg]
end Go.Proofs.Ytfobnajgnnccmaa
