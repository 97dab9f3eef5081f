/- Numbers modulo L: what is shown of the functions of words. No condition. -/
import Derived.Test.YtokndemdmkaofaaSxD
import Derived.Test.YtokndemdmkaofaaPlainN
import Derived.Test.YtokndemdmkaofaaProg
import Derived.Test.YtokndemdmkaofaaPlainV
import Derived.Shelf.Spec.BitsCarry
namespace Go.Sx
open Go Go.RowKit Go.Bx
theorem open1 {w : World} {s : Sh} {vs : List Value} {xs : List (List Int)} (h : ArgsAre w [s] vs xs) : ∃ v x, vs = [v] ∧ xs = [x] ∧ ArgIs w s v x := by
  match vs, xs, h with
  | [v], [x], h => exact ⟨v, x, rfl, rfl, h.1⟩
  | [], [], h => exact h.elim
  | [], _ :: _, h => exact h.elim
  | _ :: _, [], h => exact h.elim
  | _ :: _ :: _, [_], h => exact h.2.elim
  | [_], _ :: _ :: _, h => exact h.2.elim
  | _ :: _ :: _, _ :: _ :: _, h => exact h.2.elim
theorem open2 {w : World} {s t : Sh} {vs : List Value} {xs : List (List Int)} (h : ArgsAre w [s, t] vs xs) : ∃ v u x y, vs = [v, u] ∧ xs = [x, y] ∧ ArgIs w s v x ∧ ArgIs w t u y := by
  match vs, xs, h with
  | v :: vs, x :: xs, h =>
    obtain ⟨u, y, rfl, rfl, h2⟩ := open1 h.2
    exact ⟨v, u, x, y, rfl, rfl, h.1, h2⟩
  | [], [], h => exact h.elim
  | [], _ :: _, h => exact h.elim
  | _ :: _, [], h => exact h.elim
theorem open3 {w : World} {s t r : Sh} {vs : List Value} {xs : List (List Int)} (h : ArgsAre w [s, t, r] vs xs) : ∃ v u z x y q, vs = [v, u, z] ∧ xs = [x, y, q] ∧ ArgIs w s v x ∧ ArgIs w t u y ∧ ArgIs w r z q := by
  match vs, xs, h with
  | v :: vs, x :: xs, h =>
    obtain ⟨u, z, y, q, rfl, rfl, h2, h3⟩ := open2 h.2
    exact ⟨v, u, z, x, y, q, rfl, rfl, h.1, h2, h3⟩
  | [], [], h => exact h.elim
  | [], _ :: _, h => exact h.elim
  | _ :: _, [], h => exact h.elim
theorem in64 {x : Int} (h : InR .u64 x) : 0 ≤ x ∧ x < 18446744073709551616 := by obtain ⟨h1, h2⟩ := h; simp only [lo, hi] at h1 h2; omega
theorem in8 {x : Int} (h : InR .u8 x) : 0 ≤ x ∧ x < 256 := by obtain ⟨h1, h2⟩ := h; simp only [lo, hi] at h1 h2; omega
end Go.Sx
namespace Go.Bx
def MM : Int := 18446744073709551616
def LL : Int := 7237005577332262213973186563042994240857116359379907606001950938285454250989
def cutZ (x : Int) : Int := if x < LL then x else x - LL
theorem dg_cong {b : Int} (hb : 0 < b) {k : Nat} {n m : Int} (q : Int) (h : n = m + b ^ k * q) : dg b k n = dg b k m := by
  rw [← dg_mod hb k n, ← dg_mod hb k m, h, Int.add_mul_emod_self_left]
theorem MM_pos : 0 < MM := by decide
theorem MM4 : MM ^ 4 = 115792089237316195423570985008687907853269984665640564039457584007913129639936 := by decide
end Go.Bx
namespace Go.Proofs.Ytokndemdmkaofaa
set_option linter.unusedSimpArgs false
open Go.RowKit Go.Bx Go.Sx
theorem mixed : Try.prog.follows .mixedOrders = true := by kernel_rfl
/-- The same, of the paper's own functions. -/
def sgR (j : Nat) (xs : List (List Int)) : List Int :=
  match j, xs with
  | 31, [s] => b2i (decide (dv 256 ((s.drop 2).take 32) < dv 256 ((s.drop 34).take 32))) :: 32 :: (dg 256 32 (dv 256 ((s.drop 2).take 32) - dv 256 ((s.drop 34).take 32)) ++ (s.drop 34).take 32)
  | 32, [s] => -1 :: ((s.drop 1).take 32 ++ dg 256 32 (dv 256 ((s.drop 1).take 32) % LL))
  | 33, [s] => -1 :: ((s.drop 1).take 64 ++ dg 256 32 (dv 256 ((s.drop 1).take 64) % LL))
  | 34, [s] => prodL s
  | 35, [s] => rowL s
  | 36, [s] => carryL s
  | 50, [a, b] => [b2i (decide (dv 256 b ≤ dv 256 a))]
  | 51, [a, b] => dg 256 32 (dv 256 a - dv 256 b)
  | 52, [a] => dg 256 32 (dv 256 a % LL)
  | 53, [a, b] => dg 256 64 (dv 256 a * dv 256 b)
  | 54, [a] => [b2i (decide (dv 256 a < LL))]
  | 55, [a, b] => dg 256 32 ((dv 256 a + dv 256 b) % LL)
  | 56, [a, b] => dg 256 32 ((dv 256 a - dv 256 b) % LL)
  | 57, [a, b] => dg 256 32 (dv 256 a * dv 256 b % LL)
  | _, _ => []
def spR (j : Nat) (xs : List (List Int)) : Prop :=
  match j, xs with
  | 31, [s] => s.getD 0 0 = 0 ∧ s.getD 1 0 = 0
  | 32, [s] => s.getD 0 0 = 255 ∧ s.drop 33 = List.replicate 32 0
  | 33, [s] => s.getD 0 0 = 511 ∧ s.drop 65 = List.replicate 32 0
  | 34, [s] => prodP s
  | 35, [s] => rowP s
  | 36, [s] => carryP s
  | _, _ => True
/-- What the functions make of integers. -/
def sg (j : Nat) (xs : List (List Int)) : List Int :=
  match j, xs with
  | 0, [[x], [y], [c]] => [(x + y + c) % MM, (x + y + c) / MM]
  | 1, [[x], [y], [c]] => [(x - y - c) % MM, b2i (decide (x < y + c))]
  | 2, [[x], [y]] => [x * y / MM, x * y % MM]
  | 3, [a] => dg MM 4 (dv MM a % LL)
  | 10, [a, b] => dg MM 4 (dv MM a + dv MM b)
  | 11, [a, b] => dg MM 4 (dv MM a - dv MM b) ++ [b2i (decide (dv MM a < dv MM b))]
  | 12, [a] => dg MM 4 (cutZ (dv MM a))
  | 13, [a] => dg 256 32 (dv MM a)
  | 14, [a] => dg MM 8 (dv 256 a)
  | 15, [a] => dg MM 4 (dv 256 a % LL)
  | 16, [a, b] => dg MM 4 (dv MM a * dv MM b % LL)
  | 20, [a, b] => dg 256 32 ((dv 256 a + dv 256 b) % LL)
  | 21, [a, b] => dg 256 32 ((dv 256 a - dv 256 b) % LL)
  | 22, [a, b] => dg 256 32 (dv 256 a * dv 256 b % LL)
  | 23, [a] => dg 256 32 (dv 256 a % LL)
  | 24, [a] => dg 256 32 (dv 256 a % LL)
  | 25, [a] => [b2i (decide (dv 256 a < LL))]
  | 30, [s] => -1 :: ((s.drop 1).take 8 ++ dg MM 4 (dv MM ((s.drop 1).take 8) % LL))
  | 40, _ => [1]
  | 41, _ => [1]
  | 42, _ => [1]
  | 43, _ => [1]
  | 44, _ => [1]
  | 45, _ => [1]
  | j, xs => sgR j xs
def sp (j : Nat) (xs : List (List Int)) : Prop :=
  match j, xs with
  | 0, [_, _, [c]] => c = 0 ∨ c = 1
  | 1, [_, _, [c]] => c = 0 ∨ c = 1
  | 30, [s] => s.getD 0 0 = 511 ∧ s.drop 9 = [0, 0, 0, 0]
  | j, xs => spR j xs
def sfns : Fns := ⟨sg, sp⟩
def cAdd : Ctr := ⟨59, 0, [.int .u64, .int .u64, .int .u64], [.int .u64, .int .u64]⟩
def cSub : Ctr := ⟨61, 1, [.int .u64, .int .u64, .int .u64], [.int .u64, .int .u64]⟩
def cMul : Ctr := ⟨60, 2, [.int .u64, .int .u64], [.int .u64, .int .u64]⟩
theorem okAdd : CtrOK Try.prog sfns cAdd := by
  intro w vs xs ha hp
  obtain ⟨v, u, z, x, y, q, rfl, rfl, ⟨x, rfl, rfl, hx⟩, ⟨y, rfl, rfl, hy⟩, ⟨c, rfl, rfl, hc⟩⟩ := open3 ha
  obtain ⟨x0, x1⟩ := in64 hx
  obtain ⟨y0, y1⟩ := in64 hy
  obtain ⟨a, rfl⟩ := Int.eq_ofNat_of_zero_le x0
  obtain ⟨b, rfl⟩ := Int.eq_ofNat_of_zero_le y0
  have hc' : c = 0 ∨ c = 1 := hp
  obtain ⟨k, rfl, hk⟩ : ∃ k : Nat, c = (k : Int) ∧ k ≤ 1 := by
    rcases hc' with rfl | rfl
    · exact ⟨0, rfl, by omega⟩
    · exact ⟨1, rfl, by omega⟩
  refine .inr ⟨.tuple #[.int .u64 (((a + b + k) % 18446744073709551616 : Nat) : Int), .int .u64 (((a + b + k) / 18446744073709551616 : Nat) : Int)], ?_, ?_, ?_, Below.refl _ _⟩
  · show (callFunc 59 #[.int .u64 (a : Int), .int .u64 (b : Int), .int .u64 (k : Int)]).run Try.prog w = _
    rw [run_callFunc_extern Try.func59 (by kernel_rfl) (by kernel_rfl) (by kernel_rfl) (e := add64Entry) (by kernel_rfl), run_add64 a b k (by omega) (by omega) (by omega) (by omega)]
    simp only [Result.andThen]
    congr 5 <;> omega
  · simp only [ResIs, rowOf, resVal, cAdd, vals, Sh.val, Sh.len, sfns, sg, MM]; simp
  · simp only [cAdd, goods, Sh.good, Sh.len, sfns, sg, MM]
    refine ⟨⟨?_, ?_⟩, ⟨?_, ?_⟩, trivial⟩ <;> simp [lo, hi] <;> omega
theorem okSub : CtrOK Try.prog sfns cSub := by
  intro w vs xs ha hp
  obtain ⟨v, u, z, x, y, q, rfl, rfl, ⟨x, rfl, rfl, hx⟩, ⟨y, rfl, rfl, hy⟩, ⟨c, rfl, rfl, hc⟩⟩ := open3 ha
  obtain ⟨x0, x1⟩ := in64 hx
  obtain ⟨y0, y1⟩ := in64 hy
  obtain ⟨a, rfl⟩ := Int.eq_ofNat_of_zero_le x0
  obtain ⟨b, rfl⟩ := Int.eq_ofNat_of_zero_le y0
  have hc' : c = 0 ∨ c = 1 := hp
  obtain ⟨k, rfl, hk⟩ : ∃ k : Nat, c = (k : Int) ∧ k ≤ 1 := by
    rcases hc' with rfl | rfl
    · exact ⟨0, rfl, by omega⟩
    · exact ⟨1, rfl, by omega⟩
  refine .inr ⟨.tuple #[.int .u64 (((a + 18446744073709551616 - b - k) % 18446744073709551616 : Nat) : Int), .int .u64 ((if a < b + k then 1 else 0 : Nat) : Int)], ?_, ?_, ?_, Below.refl _ _⟩
  · show (callFunc 61 #[.int .u64 (a : Int), .int .u64 (b : Int), .int .u64 (k : Int)]).run Try.prog w = _
    rw [run_callFunc_extern Try.func61 (by kernel_rfl) (by kernel_rfl) (by kernel_rfl) (e := sub64Entry) (by kernel_rfl), run_sub64 a b k hk]
    rfl
  · have e1 : (((a + 18446744073709551616 - b - k) % 18446744073709551616 : Nat) : Int) = ((a : Int) - b - k) % 18446744073709551616 := by omega
    have e2 : ((if a < b + k then 1 else 0 : Nat) : Int) = b2i (decide ((a : Int) < b + k)) := by
      unfold b2i
      by_cases h : a < b + k
      · rw [if_pos h, if_pos (by simp; omega)]; rfl
      · rw [if_neg h, if_neg (by simp; omega)]; rfl
    rw [e1, e2]
    simp only [ResIs, rowOf, resVal, cSub, vals, Sh.val, Sh.len, sfns, sg, MM]; simp
  · simp only [cSub, goods, Sh.good, Sh.len, sfns, sg, MM]
    refine ⟨⟨?_, ?_⟩, ⟨?_, ?_⟩, trivial⟩ <;> simp [lo, hi] <;> (try unfold b2i) <;> (try split) <;> omega
theorem okMul : CtrOK Try.prog sfns cMul := by
  refine CtrOK.of (T := []) (fun c h => by cases h) mixed (lf := 300) (d := 5) rfl fun w vs xs ha _ => ?_
  obtain ⟨v, u, x, y, rfl, rfl, ⟨x, rfl, rfl, hx⟩, ⟨y, rfl, rfl, hy⟩⟩ := open2 ha
  obtain ⟨x0, x1⟩ := in64 hx
  obtain ⟨y0, y1⟩ := in64 hy
  refine Way.of (dec := []) (fs := [.bin 2 .and .u64 (.v 0) (.l 4294967295), .bin 3 .shr .u64 (.v 0) (.l 32), .bin 4 .and .u64 (.v 1) (.l 4294967295), .bin 5 .shr .u64 (.v 1) (.l 32), .bin 6 .mul .u64 (.v 2) (.v 4), .bin 7 .mul .u64 (.v 3) (.v 4), .bin 8 .shr .u64 (.v 6) (.l 32), .bin 9 .add .u64 (.v 7) (.v 8), .bin 10 .and .u64 (.v 9) (.l 4294967295), .bin 11 .shr .u64 (.v 9) (.l 32), .bin 12 .mul .u64 (.v 2) (.v 5), .bin 13 .add .u64 (.v 10) (.v 12), .bin 14 .mul .u64 (.v 3) (.v 5), .bin 15 .add .u64 (.v 14) (.v 11), .bin 16 .shr .u64 (.v 13) (.l 32), .bin 17 .add .u64 (.v 15) (.v 16), .bin 18 .mul .u64 (.v 0) (.v 1)]) (refs := [.v 17, .v 18]) (by kernel_rfl) fun ρ hρ hd => ⟨trivial, ?_⟩
  have r0 : ρ 0 = x := hρ 0 (by decide)
  have r1 : ρ 1 = y := hρ 1 (by decide)
  simp only [D_nil, D_add, D_sub, D_mul, D_and, D_or, D_xor, D_shl, D_shr, D_andNot, D_quo, D_rem, D_add_i64, D_sub_i64, D_mul_i64, D_add_u32, D_sub_u32, D_mul_u32, D_add_u8, D_sub_u8, D_mul_u8, D_eql, D_neq, D_lss, D_leq, D_gtr, D_geq, D_not, D_conv, D_eqs, D_call, D_cond, D_need, D_idx, D_sel, D_upd, D_shv, D_beq, List.map_cons, List.map_nil, Ref.den, r0, r1] at hd
  obtain ⟨h2, h3, h4, h5, h6, h7, h8, h9, h10, h11, h12, h13, h14, h15, h16, h17, h18, _⟩ := hd
  have e2 := u_and 32 (by decide) x0 x1 rfl h2
  have e3 := u_shr 32 (by decide) h3 rfl
  have e4 := u_and 32 (by decide) y0 y1 rfl h4
  have e5 := u_shr 32 (by decide) h5 rfl
  simp only [Int.reducePow] at e2 e3 e4 e5
  obtain ⟨a, rfl⟩ := Int.eq_ofNat_of_zero_le x0
  obtain ⟨b, rfl⟩ := Int.eq_ofNat_of_zero_le y0
  obtain ⟨m1, m2, m3, m4⟩ := Lib.mul64_hi a b (by omega) (by omega)
  have f2 : ρ 2 = ((a % 4294967296 : Nat) : Int) := by rw [e2]; omega
  have f3 : ρ 3 = ((a / 4294967296 : Nat) : Int) := by rw [e3]; omega
  have f4 : ρ 4 = ((b % 4294967296 : Nat) : Int) := by rw [e4]; omega
  have f5 : ρ 5 = ((b / 4294967296 : Nat) : Int) := by rw [e5]; omega
  have e6 := h6
  have e7 := h7
  have e12 := h12
  have e14 := h14
  have e18 := h18
  rw [f2, f4, ← Int.natCast_mul] at e6
  rw [f3, f4, ← Int.natCast_mul] at e7
  rw [f2, f5, ← Int.natCast_mul] at e12
  rw [f3, f5, ← Int.natCast_mul] at e14
  rw [← Int.natCast_mul] at e18
  have q1 := Lib.half_mul_le (a := a % 4294967296) (b := b % 4294967296) (by omega) (by omega)
  have q2 := Lib.half_mul_le (a := a / 4294967296) (b := b % 4294967296) (by omega) (by omega)
  have q3 := Lib.half_mul_le (a := a % 4294967296) (b := b / 4294967296) (by omega) (by omega)
  have q4 := Lib.half_mul_le (a := a / 4294967296) (b := b / 4294967296) (by omega) (by omega)
  generalize (a % 4294967296) * (b % 4294967296) = p1 at *
  generalize (a / 4294967296) * (b % 4294967296) = p2 at *
  generalize (a % 4294967296) * (b / 4294967296) = p3 at *
  generalize (a / 4294967296) * (b / 4294967296) = p4 at *
  have e8 := u_shr 32 (by decide) h8 rfl
  simp only [Int.reducePow] at e8
  have e9 := h9
  have e10 := u_and 32 (by decide) (by omega) (by omega) rfl h10
  have e11 := u_shr 32 (by decide) h11 rfl
  simp only [Int.reducePow] at e10 e11
  have e13 := h13
  have e15 := h15
  have e16 := u_shr 32 (by decide) h16 rfl
  simp only [Int.reducePow] at e16
  have e17 := h17
  clear h2 h3 h4 h5 h6 h7 h8 h9 h10 h11 h12 h13 h14 h15 h16 h17 h18
  show [ρ 17, ρ 18] = [(a : Int) * b / MM, (a : Int) * b % MM]
  have g18 : ρ 18 = (a : Int) * b % MM := by rw [e18, Int.natCast_mul]; rfl
  have g17 : ρ 17 = (a : Int) * b / MM := by
    rw [← Int.natCast_mul]
    have : ((a * b : Nat) : Int) / MM = ((a * b / 18446744073709551616 : Nat) : Int) := by unfold MM; omega
    rw [this, ← m4]
    omega
  rw [g17, g18]
#print axioms okSub
end Go.Proofs.Ytokndemdmkaofaa
