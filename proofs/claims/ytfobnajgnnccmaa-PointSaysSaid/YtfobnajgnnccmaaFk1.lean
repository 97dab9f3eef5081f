/- Numbers modulo p: what is shown of the functions of words. No condition. -/
import Derived.Test.YtfobnajgnnccmaaSxD
import Derived.Test.YtfobnajgnnccmaaPlainN
import Derived.Test.YtfobnajgnnccmaaProg
import Derived.Test.YtfobnajgnnccmaaPlainW
import Derived.Shelf.Spec.BitsCarry
namespace Go.Sx
open Go Go.RowKit Go.Bx
theorem open1 {w : World} {s : Sh} {vs : List Value} {xs : List (List Int)} (h : ArgsAre w [s] vs xs) : ∃ v x, vs = [v] ∧ xs = [x] ∧ ArgIs w s v x := by
  match vs, xs, h with
  | [v], [x], h => exact ⟨v, x, rfl, rfl, h.1⟩
  | [], [], h => exact h.elim
  | [], _ :: _, h => exact h.elim
  | _ :: _, [], h => exact h.elim
  | _ :: _ :: _, [_], h => exact h.2.elim
  | [_], _ :: _ :: _, h => exact h.2.elim
  | _ :: _ :: _, _ :: _ :: _, h => exact h.2.elim
theorem open2 {w : World} {s t : Sh} {vs : List Value} {xs : List (List Int)} (h : ArgsAre w [s, t] vs xs) : ∃ v u x y, vs = [v, u] ∧ xs = [x, y] ∧ ArgIs w s v x ∧ ArgIs w t u y := by
  match vs, xs, h with
  | v :: vs, x :: xs, h =>
    obtain ⟨u, y, rfl, rfl, h2⟩ := open1 h.2
    exact ⟨v, u, x, y, rfl, rfl, h.1, h2⟩
  | [], [], h => exact h.elim
  | [], _ :: _, h => exact h.elim
  | _ :: _, [], h => exact h.elim
theorem open3 {w : World} {s t r : Sh} {vs : List Value} {xs : List (List Int)} (h : ArgsAre w [s, t, r] vs xs) : ∃ v u z x y q, vs = [v, u, z] ∧ xs = [x, y, q] ∧ ArgIs w s v x ∧ ArgIs w t u y ∧ ArgIs w r z q := by
  match vs, xs, h with
  | v :: vs, x :: xs, h =>
    obtain ⟨u, z, y, q, rfl, rfl, h2, h3⟩ := open2 h.2
    exact ⟨v, u, z, x, y, q, rfl, rfl, h.1, h2, h3⟩
  | [], [], h => exact h.elim
  | [], _ :: _, h => exact h.elim
  | _ :: _, [], h => exact h.elim
theorem in64 {x : Int} (h : InR .u64 x) : 0 ≤ x ∧ x < 18446744073709551616 := by obtain ⟨h1, h2⟩ := h; simp only [lo, hi] at h1 h2; omega
theorem in8 {x : Int} (h : InR .u8 x) : 0 ≤ x ∧ x < 256 := by obtain ⟨h1, h2⟩ := h; simp only [lo, hi] at h1 h2; omega
end Go.Sx
namespace Go.Bx
def MM : Int := 18446744073709551616
/-- p; 2^256. -/
def PP : Int := 57896044618658097711785492504343953926634992332820282019728792003956564819949
def WW : Int := 115792089237316195423570985008687907853269984665640564039457584007913129639936
def foldZ (X n : Int) : Int := if X + 38 * n < WW then X + 38 * n else X + 38 * n - WW + 38
def plusZ (A B : Int) : Int := foldZ ((A + B) % WW) ((A + B) / WW)
def minZ (A B : Int) : Int := if B ≤ A then A - B else if 38 ≤ A - B + WW then A - B + WW - 38 else A - B + 2 * WW - 76
def timesZ (A B : Int) : Int := foldZ (plusZ (A * B % WW) (38 * (A * B / WW) % WW)) (38 * (A * B / WW) / WW)
def powZ (A N : Int) : Nat → Int
  | 0 => 1
  | k + 1 => if N / 2 ^ (255 - k) % 2 = 1 then timesZ (timesZ (powZ A N k) (powZ A N k)) A else timesZ (powZ A N k) (powZ A N k)
/-- 2^252 - 2; a quarter of p - 1; a root of -1; a root, if there is one. -/
def E8 : Int := 7237005577332262213973186563042994240829374041602535252466099000494570602494
def E4 : Int := 14474011154664524427946373126085988481658748083205070504932198000989141204987
def moZ : Int := powZ 2 E4 256
def rootT (A : Int) : Int := if timesZ (powZ A E8 256) (powZ A E8 256) % PP = A % PP then powZ A E8 256 else timesZ (powZ A E8 256) moZ
def evenZ (r : Int) : Int := if r % 2 = 1 then minZ 0 r % PP else r
theorem dg_cong {b : Int} (hb : 0 < b) {k : Nat} {n m : Int} (q : Int) (h : n = m + b ^ k * q) : dg b k n = dg b k m := by
  rw [← dg_mod hb k n, ← dg_mod hb k m, h, Int.add_mul_emod_self_left]
theorem MM_pos : 0 < MM := by decide
theorem MM4 : MM ^ 4 = 115792089237316195423570985008687907853269984665640564039457584007913129639936 := by decide
end Go.Bx
namespace Go.Proofs.Ytfobnajgnnccmaa
set_option linter.unusedSimpArgs false
open Go.RowKit Go.Bx Go.Sx
theorem mixed : Try.prog.follows .mixedOrders = true := by kernel_rfl
/-- The same, of the paper's own functions. -/
def sgR (j : Nat) (xs : List (List Int)) : List Int :=
  match j, xs with
  | 50, [o] => carL o
  | 51, [w] => pairs16 w
  | 52, [o] => dg 256 32 (dv 65536 o % PP)
  | 53, [a, b] => plusF a b
  | 54, [a, b] => minF a b
  | 55, [a, b] => mulF a b
  | 56, [a, n] => powF a (dv 256 n) 256
  | 57, [a] => powF a (PP - 2) 256
  | 58, [a] => if timesZ (rootT (dv 65536 a)) (rootT (dv 65536 a)) % PP = dv 65536 a % PP then dg 256 32 (rootT (dv 65536 a) % PP) ++ [1] else dg 256 32 0 ++ [0]
  | 59, [s] => dv 65536 (s.drop 1) / PP :: dg 65536 16 (dv 65536 (s.drop 1) % PP)
  | 60, [s] => timL s
  | 61, [s] => rowFL s
  | 62, [s] => powL s
  | 63, [a] => dg 256 32 (dv 256 a % PP)
  | 64, [a] => [b2i (decide (dv 256 a < PP))]
  | 65, [a, b] => dg 256 32 ((dv 256 a + dv 256 b) % PP)
  | 66, [a, b] => dg 256 32 ((dv 256 a - dv 256 b) % PP)
  | 67, [a, b] => dg 256 32 (dv 256 a * dv 256 b % PP)
  | 68, [a, b] => dg 256 32 (powZ (dv 256 a) (dv 256 b) 256 % PP)
  | 69, [a] => dg 256 32 (powZ (dv 256 a) (PP - 2) 256 % PP)
  | 70, [a] => if timesZ (rootT (dv 256 a)) (rootT (dv 256 a)) % PP = dv 256 a % PP then dg 256 32 (evenZ (rootT (dv 256 a) % PP)) ++ [1] else dg 256 32 0 ++ [0]
  | 71, [[n]] => dg 256 32 (n % PP)
  | _, _ => []
def spR (j : Nat) (xs : List (List Int)) : Prop :=
  match j, xs with
  | 50, [o] => Bd 1152921504606846976 o
  | 52, [o] => FF o
  | 53, [a, b] => FF a ∧ FF b
  | 54, [a, b] => FF a ∧ FF b
  | 55, [a, b] => FF a ∧ FF b
  | 56, [a, _] => FF a
  | 57, [a] => FF a
  | 58, [a] => FF a
  | 59, [s] => s.getD 0 0 = 0 ∧ Dig16 ((s.drop 1).take 16)
  | 60, [s] => timP s
  | 61, [s] => rowFP s
  | 62, [s] => powP' s
  | _, _ => True
/-- What the functions make of integers. -/
def sg (j : Nat) (xs : List (List Int)) : List Int :=
  match j, xs with
  | 0, [[x], [y], [c]] => [(x + y + c) % MM, (x + y + c) / MM]
  | 1, [[x], [y], [c]] => [(x - y - c) % MM, b2i (decide (x < y + c))]
  | 2, [[x], [y]] => [x * y / MM, x * y % MM]
  | 10, [a] => dg MM 4 (dv 256 a)
  | 11, [a, b] => dg MM 4 (dv MM a - dv MM b) ++ [b2i (decide (dv MM a < dv MM b))]
  | 12, [a] => dg MM 4 (dv MM a % PP)
  | 13, [a] => dg 256 32 (dv MM a % PP)
  | 14, [a, [n]] => dg MM 4 (foldZ (dv MM a) n)
  | 15, [a, b] => dg MM 4 (plusZ (dv MM a) (dv MM b))
  | 16, [a, b] => dg MM 4 (minZ (dv MM a) (dv MM b))
  | 18, [a, b] => dg MM 4 (timesZ (dv MM a) (dv MM b))
  | 19, [a, b] => dg MM 4 (powZ (dv MM a) (dv MM b) 256)
  | 20, [a] => if timesZ (rootT (dv MM a)) (rootT (dv MM a)) % PP = dv MM a % PP then dg MM 4 (evenZ (rootT (dv MM a) % PP)) ++ [1] else [0, 0, 0, 0, 0]
  | 21, _ => dg MM 4 moZ
  | 30, [s] => -1 :: ((s.drop 1).take 8 ++ dg MM 4 (powZ (dv MM ((s.drop 1).take 4)) (dv MM ((s.drop 5).take 4)) 256))
  | 31, [a] => dg 256 32 (dv 256 a % PP)
  | 32, [a] => [b2i (decide (dv 256 a < PP))]
  | 33, [a, b] => dg 256 32 ((dv 256 a + dv 256 b) % PP)
  | 34, [a, b] => dg 256 32 ((dv 256 a - dv 256 b) % PP)
  | 35, [a, b] => dg 256 32 (dv 256 a * dv 256 b % PP)
  | 36, [a, b] => dg 256 32 (powZ (dv 256 a) (dv 256 b) 256 % PP)
  | 37, [a] => dg 256 32 (powZ (dv 256 a) (PP - 2) 256 % PP)
  | 38, [[n]] => dg 256 32 (n % PP)
  | 39, [a] => if timesZ (rootT (dv 256 a)) (rootT (dv 256 a)) % PP = dv 256 a % PP then dg 256 32 (evenZ (rootT (dv 256 a) % PP)) ++ [1] else dg 256 32 0 ++ [0]
  | 40, _ => [1]
  | 41, _ => [1]
  | 42, _ => [1]
  | 43, _ => [1]
  | 44, _ => [1]
  | 45, _ => [1]
  | 46, _ => [1]
  | j, xs => sgR j xs
def sp (j : Nat) (xs : List (List Int)) : Prop :=
  match j, xs with
  | 0, [_, _, [c]] => c = 0 ∨ c = 1
  | 1, [_, _, [c]] => c = 0 ∨ c = 1
  | 14, [_, [n]] => n ≤ 1000
  | 30, [s] => s.getD 0 0 = 255 ∧ s.drop 9 = [1, 0, 0, 0]
  | j, xs => spR j xs
def sfns : Fns := ⟨sg, sp⟩
def cAdd : Ctr := ⟨89, 0, [.int .u64, .int .u64, .int .u64], [.int .u64, .int .u64]⟩
def cSub : Ctr := ⟨106, 1, [.int .u64, .int .u64, .int .u64], [.int .u64, .int .u64]⟩
def cMul : Ctr := ⟨94, 2, [.int .u64, .int .u64], [.int .u64, .int .u64]⟩
theorem okAdd : CtrOK Try.prog sfns cAdd := by
  intro w vs xs ha hp
  obtain ⟨v, u, z, x, y, q, rfl, rfl, ⟨x, rfl, rfl, hx⟩, ⟨y, rfl, rfl, hy⟩, ⟨c, rfl, rfl, hc⟩⟩ := open3 ha
  obtain ⟨x0, x1⟩ := in64 hx
  obtain ⟨y0, y1⟩ := in64 hy
  obtain ⟨a, rfl⟩ := Int.eq_ofNat_of_zero_le x0
  obtain ⟨b, rfl⟩ := Int.eq_ofNat_of_zero_le y0
  have hc' : c = 0 ∨ c = 1 := hp
  obtain ⟨k, rfl, hk⟩ : ∃ k : Nat, c = (k : Int) ∧ k ≤ 1 := by
    rcases hc' with rfl | rfl
    · exact ⟨0, rfl, by omega⟩
    · exact ⟨1, rfl, by omega⟩
  refine .inr ⟨.tuple #[.int .u64 (((a + b + k) % 18446744073709551616 : Nat) : Int), .int .u64 (((a + b + k) / 18446744073709551616 : Nat) : Int)], ?_, ?_, ?_, Below.refl _ _⟩
  · show (callFunc 89 #[.int .u64 (a : Int), .int .u64 (b : Int), .int .u64 (k : Int)]).run Try.prog w = _
    rw [run_callFunc_extern Try.func89 (by kernel_rfl) (by kernel_rfl) (by kernel_rfl) (e := add64Entry) (by kernel_rfl), run_add64 a b k (by omega) (by omega) (by omega) (by omega)]
    simp only [Result.andThen]
    congr 5 <;> omega
  · simp only [ResIs, rowOf, resVal, cAdd, vals, Sh.val, Sh.len, sfns, sg, MM]; simp
  · simp only [cAdd, goods, Sh.good, Sh.len, sfns, sg, MM]
    refine ⟨⟨?_, ?_⟩, ⟨?_, ?_⟩, trivial⟩ <;> simp [lo, hi] <;> omega
theorem okSub : CtrOK Try.prog sfns cSub := by
  intro w vs xs ha hp
  obtain ⟨v, u, z, x, y, q, rfl, rfl, ⟨x, rfl, rfl, hx⟩, ⟨y, rfl, rfl, hy⟩, ⟨c, rfl, rfl, hc⟩⟩ := open3 ha
  obtain ⟨x0, x1⟩ := in64 hx
  obtain ⟨y0, y1⟩ := in64 hy
  obtain ⟨a, rfl⟩ := Int.eq_ofNat_of_zero_le x0
  obtain ⟨b, rfl⟩ := Int.eq_ofNat_of_zero_le y0
  have hc' : c = 0 ∨ c = 1 := hp
  obtain ⟨k, rfl, hk⟩ : ∃ k : Nat, c = (k : Int) ∧ k ≤ 1 := by
    rcases hc' with rfl | rfl
    · exact ⟨0, rfl, by omega⟩
    · exact ⟨1, rfl, by omega⟩
  refine .inr ⟨.tuple #[.int .u64 (((a + 18446744073709551616 - b - k) % 18446744073709551616 : Nat) : Int), .int .u64 ((if a < b + k then 1 else 0 : Nat) : Int)], ?_, ?_, ?_, Below.refl _ _⟩
  · show (callFunc 106 #[.int .u64 (a : Int), .int .u64 (b : Int), .int .u64 (k : Int)]).run Try.prog w = _
    rw [run_callFunc_extern Try.func106 (by kernel_rfl) (by kernel_rfl) (by kernel_rfl) (e := sub64Entry) (by kernel_rfl), run_sub64 a b k hk]
    rfl
  · have e1 : (((a + 18446744073709551616 - b - k) % 18446744073709551616 : Nat) : Int) = ((a : Int) - b - k) % 18446744073709551616 := by omega
    have e2 : ((if a < b + k then 1 else 0 : Nat) : Int) = b2i (decide ((a : Int) < b + k)) := by
      unfold b2i
      by_cases h : a < b + k
      · rw [if_pos h, if_pos (by simp; omega)]; rfl
      · rw [if_neg h, if_neg (by simp; omega)]; rfl
    rw [e1, e2]
    simp only [ResIs, rowOf, resVal, cSub, vals, Sh.val, Sh.len, sfns, sg, MM]; simp
  · simp only [cSub, goods, Sh.good, Sh.len, sfns, sg, MM]
    refine ⟨⟨?_, ?_⟩, ⟨?_, ?_⟩, trivial⟩ <;> simp [lo, hi] <;> (try unfold b2i) <;> (try split) <;> omega
theorem okMul : CtrOK Try.prog sfns cMul := by
  refine CtrOK.of (T := []) (fun c h => by cases h) mixed (lf := 300) (d := 5) rfl fun w vs xs ha _ => ?_
  obtain ⟨v, u, x, y, rfl, rfl, ⟨x, rfl, rfl, hx⟩, ⟨y, rfl, rfl, hy⟩⟩ := open2 ha
  obtain ⟨x0, x1⟩ := in64 hx
  obtain ⟨y0, y1⟩ := in64 hy
  refine Way.of (dec := []) (fs := [.bin 2 .and .u64 (.v 0) (.l 4294967295), .bin 3 .shr .u64 (.v 0) (.l 32), .bin 4 .and .u64 (.v 1) (.l 4294967295), .bin 5 .shr .u64 (.v 1) (.l 32), .bin 6 .mul .u64 (.v 2) (.v 4), .bin 7 .mul .u64 (.v 3) (.v 4), .bin 8 .shr .u64 (.v 6) (.l 32), .bin 9 .add .u64 (.v 7) (.v 8), .bin 10 .and .u64 (.v 9) (.l 4294967295), .bin 11 .shr .u64 (.v 9) (.l 32), .bin 12 .mul .u64 (.v 2) (.v 5), .bin 13 .add .u64 (.v 10) (.v 12), .bin 14 .mul .u64 (.v 3) (.v 5), .bin 15 .add .u64 (.v 14) (.v 11), .bin 16 .shr .u64 (.v 13) (.l 32), .bin 17 .add .u64 (.v 15) (.v 16), .bin 18 .mul .u64 (.v 0) (.v 1)]) (refs := [.v 17, .v 18]) (by kernel_rfl) fun ρ hρ hd => ⟨trivial, ?_⟩
  have r0 : ρ 0 = x := hρ 0 (by decide)
  have r1 : ρ 1 = y := hρ 1 (by decide)
  simp only [D_nil, D_add, D_sub, D_mul, D_and, D_or, D_xor, D_shl, D_shr, D_andNot, D_quo, D_rem, D_add_i64, D_sub_i64, D_mul_i64, D_add_u32, D_sub_u32, D_mul_u32, D_add_u8, D_sub_u8, D_mul_u8, D_eql, D_neq, D_lss, D_leq, D_gtr, D_geq, D_not, D_conv, D_eqs, D_call, D_cond, D_need, D_idx, D_sel, D_upd, D_shv, D_beq, List.map_cons, List.map_nil, Ref.den, r0, r1] at hd
  obtain ⟨h2, h3, h4, h5, h6, h7, h8, h9, h10, h11, h12, h13, h14, h15, h16, h17, h18, _⟩ := hd
  have e2 := u_and 32 (by decide) x0 x1 rfl h2
  have e3 := u_shr 32 (by decide) h3 rfl
  have e4 := u_and 32 (by decide) y0 y1 rfl h4
  have e5 := u_shr 32 (by decide) h5 rfl
  simp only [Int.reducePow] at e2 e3 e4 e5
  obtain ⟨a, rfl⟩ := Int.eq_ofNat_of_zero_le x0
  obtain ⟨b, rfl⟩ := Int.eq_ofNat_of_zero_le y0
  obtain ⟨m1, m2, m3, m4⟩ := Lib.mul64_hi a b (by omega) (by omega)
  have f2 : ρ 2 = ((a % 4294967296 : Nat) : Int) := by rw [e2]; omega
  have f3 : ρ 3 = ((a / 4294967296 : Nat) : Int) := by rw [e3]; omega
  have f4 : ρ 4 = ((b % 4294967296 : Nat) : Int) := by rw [e4]; omega
  have f5 : ρ 5 = ((b / 4294967296 : Nat) : Int) := by rw [e5]; omega
  have e6 := h6
  have e7 := h7
  have e12 := h12
  have e14 := h14
  have e18 := h18
  rw [f2, f4, ← Int.natCast_mul] at e6
  rw [f3, f4, ← Int.natCast_mul] at e7
  rw [f2, f5, ← Int.natCast_mul] at e12
  rw [f3, f5, ← Int.natCast_mul] at e14
  rw [← Int.natCast_mul] at e18
  have q1 := Lib.half_mul_le (a := a % 4294967296) (b := b % 4294967296) (by omega) (by omega)
  have q2 := Lib.half_mul_le (a := a / 4294967296) (b := b % 4294967296) (by omega) (by omega)
  have q3 := Lib.half_mul_le (a := a % 4294967296) (b := b / 4294967296) (by omega) (by omega)
  have q4 := Lib.half_mul_le (a := a / 4294967296) (b := b / 4294967296) (by omega) (by omega)
  generalize (a % 4294967296) * (b % 4294967296) = p1 at *
  generalize (a / 4294967296) * (b % 4294967296) = p2 at *
  generalize (a % 4294967296) * (b / 4294967296) = p3 at *
  generalize (a / 4294967296) * (b / 4294967296) = p4 at *
  have e8 := u_shr 32 (by decide) h8 rfl
  simp only [Int.reducePow] at e8
  have e9 := h9
  have e10 := u_and 32 (by decide) (by omega) (by omega) rfl h10
  have e11 := u_shr 32 (by decide) h11 rfl
  simp only [Int.reducePow] at e10 e11
  have e13 := h13
  have e15 := h15
  have e16 := u_shr 32 (by decide) h16 rfl
  simp only [Int.reducePow] at e16
  have e17 := h17
  clear h2 h3 h4 h5 h6 h7 h8 h9 h10 h11 h12 h13 h14 h15 h16 h17 h18
  show [ρ 17, ρ 18] = [(a : Int) * b / MM, (a : Int) * b % MM]
  have g18 : ρ 18 = (a : Int) * b % MM := by rw [e18, Int.natCast_mul]; rfl
  have g17 : ρ 17 = (a : Int) * b / MM := by
    rw [← Int.natCast_mul]
    have : ((a * b : Nat) : Int) / MM = ((a * b / 18446744073709551616 : Nat) : Int) := by unfold MM; omega
    rw [this, ← m4]
    omega
  rw [g17, g18]
#print axioms okSub
end Go.Proofs.Ytfobnajgnnccmaa
