/- Plain law of digits and remainders. No program, no condition. -/
import Derived.Test.YtfobnajgnnccmaaPlainN
namespace Go.Bx
theorem dg_getD {b : Int} (hb : 0 < b) : ∀ {k i : Nat} (n : Int), i < k → (dg b k n).getD i 0 = n / b ^ i % b
  | 0, _, _, h => by omega
  | k + 1, 0, n, _ => by simp [dg]
  | k + 1, i + 1, n, h => by
    rw [dg, List.getD_cons_succ, dg_getD hb (n / b) (by omega), Int.ediv_ediv_of_nonneg (by omega), Int.pow_succ, Int.mul_comm b]
theorem dv_getD {b : Int} (hb : 0 < b) {l : List Int} (hd : Dig b l) {i : Nat} (hi : i < l.length) : l.getD i 0 = dv b l / b ^ i % b := by
  have := dg_getD hb (dv b l) hi
  rwa [dg_dv hb hd] at this
theorem bit_part (Y : Int) {r w : Nat} (h : r < w) : Y % 2 ^ w / 2 ^ r % 2 = Y / 2 ^ r % 2 := by
  have e : Y % 2 ^ w = Y + 2 ^ r * (-(2 ^ (w - r) * (Y / 2 ^ w))) := by
    have h1 := Int.emod_add_mul_ediv Y (2 ^ w)
    have h2 : (2 : Int) ^ w = 2 ^ r * 2 ^ (w - r) := by rw [← Int.pow_add]; congr 1; omega
    rw [Int.mul_neg, ← Int.mul_assoc, ← h2]; omega
  rw [e, Int.add_mul_ediv_left _ _ (by have : (0 : Int) < 2 ^ r := Int.pow_pos (by omega)
                                       omega)]
  have h3 : (2 : Int) ^ (w - r) = 2 * 2 ^ (w - r - 1) := by rw [Int.mul_comm, ← Int.pow_succ]; congr 1; omega
  rw [h3, show -(2 * 2 ^ (w - r - 1) * (Y / 2 ^ w)) = 2 * (-(2 ^ (w - r - 1) * (Y / 2 ^ w))) by rw [Int.mul_neg, Int.mul_assoc], Int.add_mul_emod_self_left]
/-- The bit of a number by its digits. -/
theorem bit_of {w : Nat} {l : List Int} (hd : Dig (2 ^ w) l) {i r : Nat} (hi : i < l.length) (hr : r < w) : l.getD i 0 / 2 ^ r % 2 = dv (2 ^ w) l / 2 ^ (w * i + r) % 2 := by
  rw [dv_getD (Int.pow_pos (by omega)) hd hi, bit_part _ hr, ← Int.pow_mul, Int.ediv_ediv_of_nonneg (Int.le_of_lt (Int.pow_pos (by omega))), ← Int.pow_add]
theorem half_step (X : Int) (n : Nat) : X / 2 ^ n = 2 * (X / 2 ^ (n + 1)) + X / 2 ^ n % 2 := by
  have e : X / 2 ^ (n + 1) = X / 2 ^ n / 2 := by rw [Int.ediv_ediv_of_nonneg (Int.le_of_lt (Int.pow_pos (by omega))), Int.pow_succ]
  rw [e]; have := Int.emod_add_mul_ediv (X / 2 ^ n) 2; omega
theorem mod_step {L : Int} (X : Int) (n : Nat) : (2 * (X / 2 ^ (n + 1) % L) + X / 2 ^ n % 2) % L = X / 2 ^ n % L := by
  have h := half_step X n
  have : (2 * (X / 2 ^ (n + 1) % L) + X / 2 ^ n % 2) % L = (2 * (X / 2 ^ (n + 1)) + X / 2 ^ n % 2) % L := by
    have h1 := Int.emod_add_mul_ediv (X / 2 ^ (n + 1)) L
    have h2 : 2 * (X / 2 ^ (n + 1)) + X / 2 ^ n % 2 = 2 * (X / 2 ^ (n + 1) % L) + X / 2 ^ n % 2 + L * (2 * (X / 2 ^ (n + 1) / L)) := by
      have h3 : L * (2 * (X / 2 ^ (n + 1) / L)) = 2 * (L * (X / 2 ^ (n + 1) / L)) := by rw [← Int.mul_assoc, Int.mul_comm L 2, Int.mul_assoc]
      rw [h3]; omega
    rw [h2, Int.add_mul_emod_self_left]
  rw [this, ← h]
end Go.Bx
