/- Numbers modulo p: laws of the exported functions. No condition. -/
import Derived.Test.YtfobnajgnnccmaaFk6
import Derived.Test.YtfobnajgnnccmaaPlainP
import Derived.Test.YtfobnajgnnccmaaSxR
namespace Go.Bx
theorem dvq (z : Int) : dv 256 (dg 256 32 (z % PP)) = z % PP := by
  have h := Int.emod_nonneg z (b := PP) (by decide)
  have h' := Int.emod_lt_of_pos z PP_lt.1
  have hL := PP_lt
  exact dv_dg_of (by decide) h (by omega)
theorem addl (x y : Int) : (x % PP + y) % PP = (x + y) % PP := Int.emod_add_emod x PP y
theorem addr (x y : Int) : (x + y % PP) % PP = (x + y) % PP := Int.add_emod_emod x y PP
theorem subl (x y : Int) : (x % PP - y) % PP = (x - y) % PP := Int.emod_sub_emod x PP y
theorem subr (x y : Int) : (x - y % PP) % PP = (x - y) % PP := Int.sub_emod_emod x y PP
theorem modP_lt (x : Int) : x % PP < PP := Int.emod_lt_of_pos x PP_lt.1
theorem pow_modP (x : Int) (n : Nat) : (x % PP) ^ n % PP = x ^ n % PP := by
  induction n with
  | zero => rw [Int.pow_zero, Int.pow_zero]
  | succ n ih => rw [Int.pow_succ, Int.pow_succ, mul_congP ih (Int.emod_emod_of_dvd x (Int.dvd_refl PP))]
theorem two_gen {P : Int} {p e : Nat} (hP : P = (p : Int)) (he : e < 2 ^ 256) (h : pm p 256 2 e % p * 2 % p = 1) : (2 * 2 ^ e) % P = 1 := by
  rw [pm_ok p 256 2 e he, Nat.mod_mul_mod] at h
  have h5 : (2 * 2 ^ e) % P = ((2 ^ e * 2 % p : Nat) : Int) := by rw [hP, Int.mul_comm]; push_cast; rfl
  rw [h5, h]; rfl
theorem inv_two : (2 * (powZ 2 (PP - 2) 256 % PP)) % PP = 1 := by
  obtain ⟨e, he⟩ : ∃ e, e = (PP - 2).toNat := ⟨_, rfl⟩
  have h1 : e < 2 ^ 256 := by rw [he]; decide +kernel
  have h2 : pm PP.toNat 256 2 e % PP.toNat * 2 % PP.toNat = 1 := by rw [he]; decide +kernel
  rw [powZ_all 2 (by decide) (by decide), mulP', ← he]
  exact two_gen (by decide) h1 h2
end Go.Bx
namespace Go.Proofs.Ytfobnajgnnccmaa
open Go.RowKit Go.Bx Go.Sx
set_option linter.unusedSimpArgs false
def T6 : List Ctr := [cEAdd, cESub, cEMul, cENorm, cEInv, cEGood, cEOf]
theorem okT6 : ∀ c ∈ T6, CtrOK Try.prog sfns c := by
  intro c hc
  simp only [T6, List.mem_cons, List.not_mem_nil, or_false] at hc
  rcases hc with rfl | rfl | rfl | rfl | rfl | rfl | rfl
  · exact okEAdd
  · exact okESub
  · exact okEMul
  · exact okENorm
  · exact okEInv
  · exact okEGood
  · exact okEOf
end Go.Proofs.Ytfobnajgnnccmaa
