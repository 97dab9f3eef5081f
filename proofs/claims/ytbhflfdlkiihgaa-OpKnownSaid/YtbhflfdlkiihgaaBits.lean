/- Bits in numbers: how a byte's seven lower bits are put into a number. No condition. -/
import Derived.WalkKit
import Derived.Laws.BitsAllLaws
namespace Go.Bx
open Go Go.RowKit

theorem ofInt_i64 (a : Nat) (ha : a < 9223372036854775808) : (BitVec.ofInt 64 (a : Int)).toNat = a := by
  rw [BitVec.toNat_ofInt]; omega
theorem wrap_i64 (a : Nat) (ha : a < 9223372036854775808) : IntKind.i64.wrap (a : Int) = a := IntWalk.i64_in _ (by omega)
theorem i64_or_nat (a b : Nat) (ha : a < 9223372036854775808) (hb : b < 9223372036854775808) : bits .or .i64 (a : Int) (b : Int) = ((a ||| b : Nat) : Int) := by
  have hlt : a ||| b < 2 ^ 63 := Nat.or_lt_two_pow (by omega) (by omega)
  show IntKind.i64.wrap ((BitVec.ofInt 64 (a : Int) ||| BitVec.ofInt 64 (b : Int)).toNat : Int) = _
  rw [BitVec.toNat_or, ofInt_i64 a ha, ofInt_i64 b hb, wrap_i64 _ (by omega)]
theorem pow128 (k : Nat) : 128 ^ k = 2 ^ (7 * k) := by rw [Nat.pow_mul]
theorem or_shl (acc ci : Nat) (k : Nat) (ha : acc < 128 ^ k) (hc : ci < 128) (hk : k ≤ 8) :
    bits .or .i64 (acc : Int) (wrap64 ((ci : Int) * 2 ^ (7 * k))) = ((acc + ci * 128 ^ k : Nat) : Int) := by
  have hp : 128 ^ k ≤ 128 ^ 8 := Nat.pow_le_pow_right (by omega) hk
  have hm : ci * 128 ^ k ≤ 127 * 128 ^ k := Nat.mul_le_mul_right _ (by omega)
  have e : wrap64 ((ci : Int) * 2 ^ (7 * k)) = ((ci * 128 ^ k : Nat) : Int) := by
    have e1 : ((ci : Int) * 2 ^ (7 * k)) = ((ci * 128 ^ k : Nat) : Int) := by rw [pow128]; simp
    rw [e1]; unfold wrap64; omega
  rw [e, i64_or_nat _ _ (by omega) (by omega), Nat.or_comm, nat_join (7 * k) _ _ (by rw [pow128]; exact Nat.mul_mod_left _ _) (by rw [← pow128]; exact ha), Nat.add_comm]
theorem and128_lt (c : Nat) (h : c < 128) : bits .and .u8 (c : Int) 128 = 0 := by
  rw [show (128 : Int) = ((128 : Nat) : Int) from rfl, u8_and_nat _ _ (by omega) (by omega)]
  have : ∀ a : Fin 128, a.val &&& 128 = 0 := by decide +kernel
  have := this ⟨c, h⟩
  simp only at this
  rw [this]; rfl
theorem and128_ge (c : Nat) (h : 128 ≤ c) (h2 : c < 256) : bits .and .u8 (c : Int) 128 = 128 := by
  rw [show (128 : Int) = ((128 : Nat) : Int) from rfl, u8_and_nat _ _ (by omega) (by omega)]
  have : ∀ a : Fin 128, (a.val + 128) &&& 128 = 128 := by decide +kernel
  have := this ⟨c - 128, by omega⟩
  simp only at this
  rw [Nat.sub_add_cancel h] at this
  rw [this]
theorem andNot128 (c : Nat) (h2 : c < 256) : bits .andNot .u8 (c : Int) 128 = ((c % 128 : Nat) : Int) := by
  rw [show (128 : Int) = ((128 : Nat) : Int) from rfl, u8_andNot_nat _ _ (by omega) (by omega)]
  have : ∀ a : Fin 256, a.val &&& (255 - 128) = a.val % 128 := by decide +kernel
  have := this ⟨c, h2⟩
  simp only at this
  rw [this]
end Go.Bx
