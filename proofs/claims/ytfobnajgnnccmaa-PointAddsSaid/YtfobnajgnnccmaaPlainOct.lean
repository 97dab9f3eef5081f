/- Plain law of numbers in bytes and of bytes turned about, put on one another, as digits. No program, no condition. -/
import Derived.Test.YtfobnajgnnccmaaBase
import Derived.Lib.Bytealg
namespace Go.Bx

/-- The k lowest bytes of a number, the highest first. -/
def bigB (v : Nat) : Nat → List UInt8
  | 0 => []
  | k + 1 => UInt8.ofNat (v / 2 ^ (8 * k) % 256) :: bigB v k
def litB (v k : Nat) : List UInt8 := (bigB v k).reverse
theorem bigB_len (v : Nat) : ∀ k, (bigB v k).length = k
  | 0 => rfl
  | k + 1 => by rw [bigB, List.length_cons, bigB_len v k]
theorem litB_len (v k : Nat) : (litB v k).length = k := by rw [litB, List.length_reverse, bigB_len]
theorem litB_succ (v k : Nat) : litB v (k + 1) = litB v k ++ [UInt8.ofNat (v / 2 ^ (8 * k) % 256)] := by rw [litB, bigB, List.reverse_cons]; rfl
theorem litB_rev (v k : Nat) : (litB v k).reverse = bigB v k := by rw [litB, List.reverse_reverse]
/-- The number of bytes, the highest first. -/
def fromB (l : List UInt8) : Nat := l.foldl (fun a b => a * 256 + b.toNat) 0
theorem fromB_snoc (l : List UInt8) (b : UInt8) : fromB (l ++ [b]) = fromB l * 256 + b.toNat := by simp [fromB]
theorem fromB_take (l : List UInt8) (k : Nat) (h : k < l.length) : fromB (l.take (k + 1)) = fromB (l.take k) * 256 + l[k].toNat := by
  rw [List.take_add_one, List.getElem?_eq_getElem h, Option.toList_some, fromB_snoc]
theorem fromB_lt : ∀ (n : Nat) (l : List UInt8), l.length = n → fromB l < 256 ^ n := by
  intro n
  induction n with
  | zero => intro l h; obtain rfl := List.eq_nil_of_length_eq_zero h; decide
  | succ n ih =>
    intro l h
    have e := fromB_take l n (by omega)
    rw [List.take_of_length_le (by omega)] at e
    have h1 := ih (l.take n) (by rw [List.length_take]; omega)
    have h2 := l[n].toNat_lt
    rw [e, Nat.pow_succ]
    omega
theorem fromB_foldl (l : List UInt8) : ∀ a, l.foldl (fun a b => a * 256 + b.toNat) a = a * 256 ^ l.length + fromB l := by
  induction l with
  | nil => intro a; simp [fromB]
  | cons b l ih =>
    intro a
    have e : fromB (b :: l) = (0 * 256 + b.toNat) * 256 ^ l.length + fromB l := by
      show l.foldl _ (0 * 256 + b.toNat) = _
      rw [ih]
    rw [List.foldl_cons, ih, e, List.length_cons, Nat.pow_succ, Nat.add_mul, Nat.zero_mul, Nat.zero_add, Nat.mul_assoc, Nat.mul_comm 256, Nat.add_assoc]
theorem fromB_cons (b : UInt8) (l : List UInt8) : fromB (b :: l) = b.toNat * 256 ^ l.length + fromB l := by
  show l.foldl _ (0 * 256 + b.toNat) = _
  rw [fromB_foldl, Nat.zero_mul, Nat.zero_add]
theorem ofNat256 (n : Nat) : (UInt8.ofNat (n % 256)).toNat = n % 256 := by rw [UInt8.toNat_ofNat']; omega
theorem fromB_bigB (v : Nat) : ∀ k, fromB (bigB v k) = v % 256 ^ k
  | 0 => by rw [Nat.pow_zero, Nat.mod_one]; rfl
  | k + 1 => by
    rw [bigB, fromB_cons, bigB_len, fromB_bigB v k, ofNat256, show 2 ^ (8 * k) = 256 ^ k from by rw [Nat.pow_mul], Nat.pow_succ, Nat.mod_mul, Nat.mul_comm (256 ^ k) (v / 256 ^ k % 256), Nat.add_comm]
theorem fromB_bigB8 (v : Nat) (h : v < 18446744073709551616) : fromB (bigB v 8) = v := by
  rw [fromB_bigB]; exact Nat.mod_eq_of_lt h

/-- Bytes put on one another, as long as the shorter one. -/
def xorB (a b : List UInt8) : List UInt8 := List.zipWith (· ^^^ ·) a b
theorem xorB_len (a b : List UInt8) : (xorB a b).length = min a.length b.length := by simp [xorB]
theorem xorB_get (a b : List UInt8) (k : Nat) (h1 : k < a.length) (h2 : k < b.length) : (xorB a b)[k]? = some (a[k] ^^^ b[k]) :=
  List.getElem?_eq_some_iff.2 ⟨by rw [xorB_len]; omega, by simp [xorB]⟩
theorem xorB_twice (a b : List UInt8) (h : a.length ≤ b.length) : xorB (xorB a b) b = a := by
  apply List.ext_getElem
  · rw [xorB_len, xorB_len]; omega
  · intro i h1 h2
    simp only [xorB, List.getElem_zipWith]
    rw [UInt8.xor_assoc, UInt8.xor_self, UInt8.xor_zero]

/-- The digits. -/
def digB : List UInt8 := [48, 49, 50, 51, 52, 53, 54, 55, 56, 57, 97, 98, 99, 100, 101, 102]
def hexB : List UInt8 → List UInt8
  | [] => []
  | b :: l => digB.getD (b.toNat / 16) 0 :: digB.getD (b.toNat % 16) 0 :: hexB l
theorem hexB_len (l : List UInt8) : (hexB l).length = 2 * l.length := by
  induction l with
  | nil => rfl
  | cons b l ih => simp only [hexB, List.length_cons, ih]; omega
theorem hexB_snoc (l : List UInt8) (b : UInt8) : hexB (l ++ [b]) = hexB l ++ [digB.getD (b.toNat / 16) 0, digB.getD (b.toNat % 16) 0] := by
  induction l with
  | nil => rfl
  | cons c l ih => simp only [List.cons_append, hexB, ih]
theorem hexB_take (l : List UInt8) (k : Nat) (h : k < l.length) : hexB (l.take (k + 1)) = hexB (l.take k) ++ [digB.getD (l[k].toNat / 16) 0, digB.getD (l[k].toNat % 16) 0] := by
  rw [List.take_add_one, List.getElem?_eq_getElem h, Option.toList_some, hexB_snoc]
/-- A digit's place; -1: it is no digit. -/
def digI (c : UInt8) : Int := Lib.indexByte digB c
/-- Digits read; none: a byte that is no digit, or an odd number of them. -/
def unhexB : List UInt8 → Option (List UInt8)
  | [] => some []
  | [_] => none
  | a :: b :: l => if digI a < 0 ∨ digI b < 0 then none else (unhexB l).map (UInt8.ofNat (16 * (digI a).toNat + (digI b).toNat) :: ·)
theorem digI_range (c : UInt8) : -1 ≤ digI c ∧ digI c ≤ 15 := by
  have : ∀ n : Fin 256, -1 ≤ digI (UInt8.ofNat n.val) ∧ digI (UInt8.ofNat n.val) ≤ 15 := by decide +kernel
  have := this ⟨c.toNat, c.toNat_lt⟩
  simpa using this
theorem digI_get (n : Nat) (h : n < 16) : digI (digB.getD n 0) = n := by
  have : ∀ n : Fin 16, digI (digB.getD n.val 0) = n.val := by decide +kernel
  exact this ⟨n, h⟩
theorem unhex_hex (l : List UInt8) : unhexB (hexB l) = some l := by
  induction l with
  | nil => rfl
  | cons b l ih =>
    have hb := b.toNat_lt
    simp only [hexB, unhexB, ih, digI_get _ (show b.toNat / 16 < 16 by omega), digI_get _ (show b.toNat % 16 < 16 by omega), Option.map_some]
    rw [if_neg (by omega), Int.toNat_natCast, Int.toNat_natCast, show 16 * (b.toNat / 16) + b.toNat % 16 = b.toNat from by omega, UInt8.ofNat_toNat]
theorem unhex_odd : ∀ (k : Nat) (l : List UInt8), l.length = 2 * k + 1 → unhexB l = none
  | 0, [_], _ => rfl
  | k + 1, a :: b :: l, h => by
    rw [unhexB, unhex_odd k l (by simp at h; omega)]
    split <;> rfl
theorem unhex_step (l : List UInt8) (k : Nat) (h : k + 1 < l.length) :
    unhexB (l.drop k) = if digI l[k] < 0 ∨ digI l[k + 1] < 0 then none else (unhexB (l.drop (k + 2))).map (UInt8.ofNat (16 * (digI l[k]).toNat + (digI l[k + 1]).toNat) :: ·) := by
  rw [List.drop_eq_getElem_cons (show k < l.length by omega), List.drop_eq_getElem_cons h, unhexB]
end Go.Bx
