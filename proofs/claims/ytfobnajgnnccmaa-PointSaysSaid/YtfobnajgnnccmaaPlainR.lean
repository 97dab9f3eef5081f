/- Plain law of square roots modulo p. No program, no condition. -/
import Derived.Test.YtfobnajgnnccmaaFk8
namespace Go.Bx
theorem eucI {P : Int} {p : Nat} (hP : P = (p : Int)) (hp : Pr p) {a b : Int} (h : P ∣ a * b) : P ∣ a ∨ P ∣ b := by
  subst hP
  have h := Int.natAbs_dvd_natAbs.2 h
  rw [Int.natAbs_mul, Int.natAbs_natCast] at h
  rcases hp.euclid h with h | h
  · exact .inl (Int.natAbs_dvd_natAbs.1 (by rw [Int.natAbs_natCast]; exact h))
  · exact .inr (Int.natAbs_dvd_natAbs.1 (by rw [Int.natAbs_natCast]; exact h))
theorem dvd_iff {P a b : Int} : P ∣ a - b ↔ a % P = b % P := ⟨fun h => Int.emod_eq_emod_iff_emod_sub_eq_zero.2 (Int.emod_eq_zero_of_dvd h), fun h => Int.dvd_of_emod_eq_zero (Int.emod_eq_emod_iff_emod_sub_eq_zero.1 h)⟩
/-- Two roots of one number are each other's, or each other's other side. -/
theorem two_roots {P : Int} {p : Nat} (hP : P = (p : Int)) (hp : Pr p) {x y : Int} (h : (x * x) % P = (y * y) % P) : x % P = y % P ∨ x % P = (-y) % P := by
  have d : P ∣ (x - y) * (x - -y) := by
    have e : (x - y) * (x - -y) = x * x - y * y := by grind
    rw [e]; exact dvd_iff.2 h
  rcases eucI hP hp d with d | d
  · exact .inl (dvd_iff.1 d)
  · exact .inr (dvd_iff.1 d)
theorem sqI (x : Int) : x ^ 2 = x * x := by rw [Int.pow_succ, Int.pow_succ, Int.pow_zero, Int.one_mul]
theorem not_dvdI {P : Int} {p n : Nat} (hP : P = (p : Int)) (h : (n : Int) % P ≠ 0) : ¬ p ∣ n := fun ⟨c, hc⟩ => h (by rw [hP, hc]; push_cast; exact Int.mul_emod_right _ _)
theorem mo_gen {P : Int} {p e : Nat} (hP : P = (p : Int)) (he : e < 2 ^ 256) (h : (pm p 256 2 e % p) * (pm p 256 2 e % p) % p + 1 = p) : (2 ^ e * 2 ^ e) % P = P - 1 := by
  rw [pm_ok p 256 2 e he, ← Nat.mul_mod] at h
  have h5 : (2 ^ e * 2 ^ e) % P = ((2 ^ e * 2 ^ e % p : Nat) : Int) := by rw [hP]; push_cast; rfl
  rw [h5, hP]; omega
theorem mo_sq : (moZ * moZ) % PP = PP - 1 := by
  obtain ⟨e, he⟩ : ∃ e, e = E4.toNat := ⟨_, rfl⟩
  have h1 : e < 2 ^ 256 := by rw [he]; decide +kernel
  have h2 : (pm PP.toNat 256 2 e % PP.toNat) * (pm PP.toNat 256 2 e % PP.toNat) % PP.toNat + 1 = PP.toNat := by rw [he]; decide +kernel
  have h3 : moZ % PP = 2 ^ e % PP := by rw [moZ, powZ_all 2 (by decide) (by decide), he]
  rw [mul_congP h3 h3]
  exact mo_gen (by decide) h1 h2
theorem eqP_neg {x y : Int} (h : x % PP = PP - 1) : (y * x) % PP = (-y) % PP := by
  rw [Int.mul_emod, h]
  have h1 : (PP - 1) = -1 + PP := by omega
  rw [h1, Int.mul_add, Int.mul_comm _ PP, Int.add_mul_emod_self_left, Int.mul_neg, Int.mul_one]
  rw [← Int.zero_sub, ← Int.zero_sub, Int.sub_emod_emod]
/-- A square has its root. -/
theorem root_ok {A x : Int} (hx : 0 ≤ x) (hA : A % PP = (x * x) % PP) : (rootT A * rootT A) % PP = A % PP := by
  obtain ⟨R, hR⟩ : ∃ R, R = powZ A E8 256 := ⟨_, rfl⟩
  unfold rootT
  rw [← hR, timesZ_mod]
  by_cases c1 : (R * R) % PP = A % PP
  · rw [if_pos c1]; exact c1
  rw [if_neg c1]
  obtain ⟨k, hk⟩ : ∃ k, k = E8.toNat := ⟨_, rfl⟩
  have hk8 : 8 * k = 57896044618658097711785492504343953926634992332820282019728792003956564819949 + 3 := by rw [hk]; decide
  have r1 : R % PP = A ^ k % PP := by rw [hR, powZ_all A (by decide) (by decide), hk]
  have pw : ∀ n : Nat, A ^ n % PP = (x * x) ^ n % PP := fun n => by rw [← pow_modP A, hA, pow_modP]
  have r2 : R % PP = x ^ (2 * k) % PP := by rw [r1, pw, ← sqI, ← Int.pow_mul]
  have r3 : (R * R) % PP = x ^ (4 * k) % PP := by rw [mul_congP r2 r2, ← Int.pow_add]; congr 2; omega
  obtain ⟨m, hm⟩ : ∃ m, 4 * k = m + 2 := ⟨4 * k - 2, by omega⟩
  have hm2 : 2 * m + 1 = 57896044618658097711785492504343953926634992332820282019728792003956564819949 := by omega
  have r4 : (R * R) % PP = (A * x ^ m) % PP := by rw [r3, hm, Int.pow_add, sqI, Int.mul_comm, ← mulP, ← hA, mulP]
  by_cases hz : x % PP = 0
  · exfalso; apply c1
    have hA0 : A % PP = 0 := by rw [hA, Int.mul_emod, hz]; rfl
    rw [r4, ← mulP, hA0, Int.zero_mul]; rfl
  · have hy : (x ^ m * x ^ m) % PP = (1 * 1) % PP := by
      obtain ⟨n, rfl⟩ := Int.eq_ofNat_of_zero_le hx
      have f := p25519.fermat1 (not_dvdI PP_nat hz)
      rw [← Int.pow_add, show m + m = 57896044618658097711785492504343953926634992332820282019728792003956564819949 - 1 by omega, int_pow_mod PP_nat, f]; rfl
    rcases two_roots PP_nat p25519 hy with h | h
    · exfalso; apply c1
      rw [r4, ← mulP', h, mulP', Int.mul_one]
    · have h : x ^ m % PP = PP - 1 := by rw [h]; decide
      have r5 : (R * R) % PP = (-A) % PP := by rw [r4]; exact eqP_neg h
      have e : (timesZ R moZ * timesZ R moZ) % PP = (R * R * (moZ * moZ)) % PP := by
        rw [mul_congP (timesZ_mod R moZ) (timesZ_mod R moZ)]
        have : R * moZ * (R * moZ) = R * R * (moZ * moZ) := by grind
        rw [this]
      rw [e, eqP_neg mo_sq, ← Int.zero_sub, ← Int.sub_emod_emod, r5, Int.sub_emod_emod, Int.zero_sub, Int.neg_neg]
end Go.Bx
