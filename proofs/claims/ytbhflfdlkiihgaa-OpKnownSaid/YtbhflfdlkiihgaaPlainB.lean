/- Strings of bytes as numbers: each string has its number, each number its string. No condition. -/
import Derived.Test.YtbhflfdlkiihgaaBase3
namespace Go.Sx
open Go Go.RowKit Go.Bx

/-- A string's number. -/
def cod : List UInt8 → Nat
  | [] => 0
  | b :: l => b.toNat + 1 + 256 * cod l
/-- A number's string. -/
def decn (n : Nat) : List UInt8 :=
  if h : n = 0 then [] else UInt8.ofNat ((n - 1) % 256) :: decn ((n - 1) / 256)
termination_by n
decreasing_by omega
theorem decn_zero : decn 0 = [] := by rw [decn]; rfl
theorem decn_cod : ∀ l : List UInt8, decn (cod l) = l
  | [] => decn_zero
  | b :: l => by
    have hb := b.toNat_lt
    rw [decn, cod, dif_neg (by omega), show b.toNat + 1 + 256 * cod l - 1 = b.toNat + 256 * cod l by omega]
    rw [show (b.toNat + 256 * cod l) % 256 = b.toNat by omega, show (b.toNat + 256 * cod l) / 256 = cod l by omega, decn_cod l]
    simp
theorem cod_decn (n : Nat) : cod (decn n) = n := by
  induction n using Nat.strongRecOn with
  | _ n ih =>
    rw [decn]
    split
    · rename_i h; rw [h]; rfl
    · rename_i h
      rw [cod, ih _ (by omega)]
      have : (UInt8.ofNat ((n - 1) % 256)).toNat = (n - 1) % 256 := by simp
      omega
theorem cod_inj {l m : List UInt8} (h : cod l = cod m) : l = m := by rw [← decn_cod l, h, decn_cod]
def decZ (z : Int) : List UInt8 := decn z.toNat
def codZ (l : List UInt8) : Int := (cod l : Int)
theorem decZ_codZ (l : List UInt8) : decZ (codZ l) = l := by unfold decZ codZ; rw [Int.toNat_natCast, decn_cod]
theorem codZ_decZ {z : Int} (h : 0 ≤ z) : codZ (decZ z) = z := by unfold decZ codZ; rw [cod_decn]; omega
theorem codZ_inj {l m : List UInt8} (h : codZ l = codZ m) : l = m := by rw [← decZ_codZ l, h, decZ_codZ]
theorem codZ_nonneg (l : List UInt8) : 0 ≤ codZ l := Int.natCast_nonneg _
theorem decZ_inj {x y : Int} (hx : 0 ≤ x) (hy : 0 ≤ y) : decZ x = decZ y ↔ x = y := ⟨fun h => by rw [← codZ_decZ hx, h, codZ_decZ hy], fun h => by rw [h]⟩
theorem codZ_nil : codZ [] = 0 := rfl
theorem decZ_zero : decZ 0 = [] := decn_zero
/-- A string's number, of a string that can be. -/
structure Str (z : Int) : Prop where
  nn : 0 ≤ z
  len : (decZ z).length ≤ maxLen
theorem Str.cod {l : List UInt8} (h : l.length ≤ maxLen) : Str (codZ l) := ⟨codZ_nonneg l, by rw [decZ_codZ]; exact h⟩
/-- What is reckoned of strings. -/
def primZ : Nat → List Int → Int
  | 0, [z] => ((decZ z).length : Int)
  | 1, [z, j] => (((decZ z).getD j.toNat 0).toNat : Int)
  | 2, [z, a, b] => codZ (((decZ z).drop a.toNat).take (b.toNat - a.toNat))
  | 3, [z, y] => codZ (decZ z ++ decZ y)
  | 4, l => codZ (l.map fun x => UInt8.ofNat x.toNat)
  | _, _ => 0
/-- What is asked of them. -/
def mustP : Nat → List Int → Prop
  | 0, [z, j] => 0 ≤ j ∧ j < ((decZ z).length : Int)
  | 1, [z, a, b] => 0 ≤ a ∧ a ≤ b ∧ b ≤ ((decZ z).length : Int)
  | 2, [z, y] => (decZ z).length + (decZ y).length ≤ 1000000000
  | 3, [z] => (decZ z).length ≤ 1000000000
  | _, _ => False
end Go.Sx
