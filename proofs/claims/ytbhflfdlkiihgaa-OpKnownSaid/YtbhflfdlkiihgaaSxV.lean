/- Laws of the reckoned integers of any kind: masks, joins, and sums that keep in range. No condition. -/
import Derived.Test.YtbhflfdlkiihgaaSxU
namespace Go.Sx
open Go Go.RowKit Go.Bx
theorem k_hi (k : IntKind) {v : Int} (h0 : 0 ≤ v) (s : Nat) (hs : s < k.bits) (h1 : v < 2 ^ s) : InR k v := by
  have hp : (2 : Int) ^ s ≤ 2 ^ (k.bits - 1) := by
    have := Nat.pow_le_pow_right (n := 2) (by omega) (show s ≤ k.bits - 1 by omega)
    have h2 : ((2 ^ s : Nat) : Int) ≤ ((2 ^ (k.bits - 1) : Nat) : Int) := by omega
    push_cast at h2; exact h2
  cases k <;> refine ⟨?_, ?_⟩ <;> simp only [lo, hi, IntKind.bits] at * <;> omega
theorem k_and {k : IntKind} {x y z : Int} (s : Nat) (hs : s < k.bits) (hy : y = 2 ^ s - 1) (h : binZ .and k x y = some z) : z = x % 2 ^ s := by
  have hpos : (0 : Int) < 2 ^ s := Int.pow_pos (by omega)
  have hps : (2 : Nat) ^ s ≤ 2 ^ k.bits := Nat.pow_le_pow_right (by omega) (by omega)
  have hlt : (2 : Nat) ^ s - 1 < 2 ^ k.bits := by have := Nat.pow_pos (n := s) (show 0 < 2 by omega); omega
  have hy' : y = ((2 ^ s - 1 : Nat) : Int) := by
    rw [hy]; have : ((2 ^ s : Nat) : Int) = (2 : Int) ^ s := by push_cast; rfl
    have := Nat.pow_pos (n := s) (show 0 < 2 by omega)
    omega
  simp only [binZ, Option.some.injEq] at h
  have e1 : (BitVec.ofInt k.bits x &&& BitVec.ofInt k.bits y).toNat = (x % 2 ^ k.bits).toNat % 2 ^ s := by
    rw [BitVec.toNat_and, BitVec.toNat_ofInt, BitVec.toNat_ofInt, hy', ← Int.natCast_emod, Int.toNat_natCast, Nat.mod_eq_of_lt hlt, Nat.and_two_pow_sub_one_eq_mod]
    push_cast; rfl
  have hq : (0 : Int) < 2 ^ k.bits := Int.pow_pos (by omega)
  have hm : 0 ≤ x % 2 ^ k.bits := Int.emod_nonneg _ (by omega)
  have e2 : (((x % 2 ^ k.bits).toNat % 2 ^ s : Nat) : Int) = x % 2 ^ s := by
    push_cast
    rw [Int.toNat_of_nonneg hm]
    exact Int.emod_emod_of_dvd x (by
      refine ⟨2 ^ (k.bits - s), ?_⟩
      rw [← Int.pow_add]; congr 1; omega)
  rw [e1, e2] at h
  rw [← h]
  exact wrap_in (k_hi k (Int.emod_nonneg _ (by omega)) s hs (Int.emod_lt_of_pos _ hpos))
theorem hi_lt (k : IntKind) : hi k < 2 ^ k.bits := by cases k <;> decide
theorem k_or {k : IntKind} {x y z : Int} (s : Nat) (c : Int) (hc : 0 ≤ c) (hx : x = c * 2 ^ s) (hy0 : 0 ≤ y) (hy : y < 2 ^ s) (hh : x + y ≤ hi k) (h : binZ .or k x y = some z) : z = x + y := by
  obtain ⟨a, rfl⟩ := Int.eq_ofNat_of_zero_le hy0
  obtain ⟨d, rfl⟩ := Int.eq_ofNat_of_zero_le hc
  have hx' : x = ((d * 2 ^ s : Nat) : Int) := by rw [hx]; push_cast; rfl
  subst hx'
  have hk := hi_lt k
  have hl : d * 2 ^ s + a < 2 ^ k.bits := by
    have : ((d * 2 ^ s + a : Nat) : Int) < ((2 ^ k.bits : Nat) : Int) := by push_cast; push_cast at hh; omega
    omega
  have ha : a < 2 ^ s := by
    have : ((a : Nat) : Int) < ((2 ^ s : Nat) : Int) := by push_cast; exact hy
    omega
  simp only [binZ, Option.some.injEq] at h
  have e1 : (BitVec.ofInt k.bits ((d * 2 ^ s : Nat) : Int) ||| BitVec.ofInt k.bits (a : Int)).toNat = d * 2 ^ s + a := by
    rw [BitVec.toNat_or, BitVec.toNat_ofInt, BitVec.toNat_ofInt, ← nat_join s (d * 2 ^ s) a (Nat.mul_mod_left _ _) ha]
    rw [← Int.natCast_emod, ← Int.natCast_emod, Int.toNat_natCast, Int.toNat_natCast, Nat.mod_eq_of_lt (by omega), Nat.mod_eq_of_lt (by omega)]
  rw [e1] at h
  rw [← h]
  have hlo : lo k ≤ 0 := by cases k <;> decide
  have : InR k ((d * 2 ^ s + a : Nat) : Int) := ⟨by omega, by push_cast; push_cast at hh; exact hh⟩
  rw [wrap_in this]; push_cast; rfl
theorem k_orc {k : IntKind} {x y z : Int} (h : binZ .or k x y = some z) : binZ .or k y x = some z := by
  simp only [binZ, Option.some.injEq] at h ⊢
  rw [BitVec.or_comm]; exact h
theorem k_orr {k : IntKind} {x y z : Int} (s : Nat) (c : Int) (hc : 0 ≤ c) (hx : x = c * 2 ^ s) (hy0 : 0 ≤ y) (hy : y < 2 ^ s) (hh : x + y ≤ hi k) (h : binZ .or k y x = some z) : z = x + y :=
  k_or s c hc hx hy0 hy hh (k_orc h)
theorem k_or0 {k : IntKind} {x z : Int} (h0 : 0 ≤ x) (h1 : x ≤ hi k) (h : binZ .or k x 0 = some z) : z = x := by
  have := k_or 0 x h0 (by omega) (by omega) (by omega) (by omega) h
  omega
theorem k_add {k : IntKind} {x y z : Int} (h : binZ .add k x y = some z) (hr : InR k (x + y)) : z = x + y := by
  simp only [binZ, wrapB_eq, Option.some.injEq] at h; rw [← h, wrap_in hr]
theorem k_sub {k : IntKind} {x y z : Int} (h : binZ .sub k x y = some z) (hr : InR k (x - y)) : z = x - y := by
  simp only [binZ, wrapB_eq, Option.some.injEq] at h; rw [← h, wrap_in hr]
theorem k_mul {k : IntKind} {x y z : Int} (h : binZ .mul k x y = some z) (hr : InR k (x * y)) : z = x * y := by
  simp only [binZ, wrapB_eq, Option.some.injEq] at h; rw [← h, wrap_in hr]
theorem k_shl {k : IntKind} {x y z : Int} (s : Nat) (hs : s ≤ k.bits) (h : binZ .shl k x y = some z) (hy : y = s) : z = k.wrap (x * 2 ^ s) := by
  subst hy
  have h0 : ¬ ((s : Nat) : Int) < 0 := by omega
  simp only [binZ, h0, if_false, Option.some.injEq, Int.toNat_natCast, wrapB_eq, Nat.min_eq_left hs] at h
  exact h.symm
theorem k_shli {k : IntKind} {x y z : Int} (s : Nat) (hs : s ≤ k.bits) (h : binZ .shl k x y = some z) (hy : y = s) (hr : InR k (x * 2 ^ s)) : z = x * 2 ^ s := by
  rw [k_shl s hs h hy, wrap_in hr]
theorem i64R {x : Int} (h0 : -9223372036854775808 ≤ x) (h1 : x ≤ 9223372036854775807) : InR .i64 x := ⟨h0, h1⟩
theorem u8R {x : Int} (h0 : 0 ≤ x) (h1 : x ≤ 255) : InR .u8 x := ⟨h0, h1⟩
end Go.Sx
