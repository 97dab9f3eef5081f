/- Numbers modulo p: powers and inverses, since p is a prime. No condition. -/
import Derived.Test.YtfobnajgnnccmaaFk7
namespace Go.Bx
theorem PP_nat : PP = ((57896044618658097711785492504343953926634992332820282019728792003956564819949 : Nat) : Int) := by decide
theorem int_pow_mod {P : Int} {p : Nat} (hP : P = (p : Int)) (n e : Nat) : (n : Int) ^ e % P = ((n ^ e % p : Nat) : Int) := by rw [hP]; push_cast; rfl
theorem fermatI {P : Int} {p : Nat} (hP : P = (p : Int)) (hp : Pr p) {a : Int} (h : 0 ≤ a) : a ^ p % P = a % P := by
  obtain ⟨n, rfl⟩ := Int.eq_ofNat_of_zero_le h
  rw [int_pow_mod hP, hp.fermat, hP]; push_cast; rfl
theorem invI {P : Int} {p e : Nat} (hP : P = (p : Int)) (hp : Pr p) (he : e + 2 = p) {a : Int} (h : 0 ≤ a) (h0 : a % P ≠ 0) : (a * a ^ e) % P = 1 := by
  obtain ⟨n, rfl⟩ := Int.eq_ofNat_of_zero_le h
  have hn : ¬ p ∣ n := fun ⟨c, hc⟩ => h0 (by rw [hP, hc]; push_cast; exact Int.mul_emod_right _ _)
  have f := hp.fermat1 hn
  have e1 : (n : Int) * (n : Int) ^ e = (n : Int) ^ (p - 1) := by rw [Int.mul_comm, ← Int.pow_succ]; congr 1; omega
  rw [e1, int_pow_mod hP, f]; rfl
theorem zeroI {P : Int} {e : Nat} (he : 0 < e) {a : Int} (h0 : a % P = 0) : a ^ e % P = 0 := by
  obtain ⟨k, rfl⟩ : ∃ k, e = k + 1 := ⟨e - 1, by omega⟩
  rw [Int.pow_succ, Int.mul_emod, h0, Int.mul_zero, Int.zero_emod]
theorem powP {a : Int} (h : 0 ≤ a) : powZ a PP 256 % PP = a % PP := by
  rw [powZ_all a (by decide) (by decide), show PP.toNat = 57896044618658097711785492504343953926634992332820282019728792003956564819949 by decide]
  exact fermatI PP_nat p25519 h
/-- The inverse. -/
theorem invZ : ∃ e : Nat, (∀ a : Int, powZ a (PP - 2) 256 % PP = a ^ e % PP) ∧ (∀ a : Int, 0 ≤ a → a % PP ≠ 0 → (a * a ^ e) % PP = 1) ∧ ∀ a : Int, a % PP = 0 → a ^ e % PP = 0 := by
  obtain ⟨e, he⟩ : ∃ e, e = (PP - 2).toNat := ⟨_, rfl⟩
  have h2 : e + 2 = 57896044618658097711785492504343953926634992332820282019728792003956564819949 := by rw [he]; decide
  refine ⟨e, fun a => by rw [powZ_all a (by decide) (by decide), he], fun a h h0 => invI PP_nat p25519 h2 h h0, fun a h => zeroI (by omega) h⟩
end Go.Bx
