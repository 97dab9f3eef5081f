/- Numbers modulo L: what is shown of the functions. No condition. -/
import Derived.Test.YtfobnajgnnccmaaSxD
import Derived.Test.YtfobnajgnnccmaaPlainN
import Derived.Test.YtfobnajgnnccmaaProg
import Derived.Shelf.Spec.BitsCarry
import Derived.Test.YtfobnajgnnccmaaSxB
import Derived.Test.YtfobnajgnnccmaaSxL
import Derived.Test.YtfobnajgnnccmaaPlainM
import Derived.Test.YtfobnajgnnccmaaSxS
namespace Go.Ss
open Go Go.RowKit Go.Bx Go.Sx
theorem open1 {w : World} {s : Sh} {vs : List Value} {xs : List (List Int)} (h : ArgsAre w [s] vs xs) : ∃ v x, vs = [v] ∧ xs = [x] ∧ ArgIs w s v x := by
  match vs, xs, h with
  | [v], [x], h => exact ⟨v, x, rfl, rfl, h.1⟩
  | [], [], h => exact h.elim
  | [], _ :: _, h => exact h.elim
  | _ :: _, [], h => exact h.elim
  | _ :: _ :: _, [_], h => exact h.2.elim
  | [_], _ :: _ :: _, h => exact h.2.elim
  | _ :: _ :: _, _ :: _ :: _, h => exact h.2.elim
theorem open2 {w : World} {s t : Sh} {vs : List Value} {xs : List (List Int)} (h : ArgsAre w [s, t] vs xs) : ∃ v u x y, vs = [v, u] ∧ xs = [x, y] ∧ ArgIs w s v x ∧ ArgIs w t u y := by
  match vs, xs, h with
  | v :: vs, x :: xs, h =>
    obtain ⟨u, y, rfl, rfl, h2⟩ := open1 h.2
    exact ⟨v, u, x, y, rfl, rfl, h.1, h2⟩
  | [], [], h => exact h.elim
  | [], _ :: _, h => exact h.elim
  | _ :: _, [], h => exact h.elim
theorem open3 {w : World} {s t r : Sh} {vs : List Value} {xs : List (List Int)} (h : ArgsAre w [s, t, r] vs xs) : ∃ v u z x y q, vs = [v, u, z] ∧ xs = [x, y, q] ∧ ArgIs w s v x ∧ ArgIs w t u y ∧ ArgIs w r z q := by
  match vs, xs, h with
  | v :: vs, x :: xs, h =>
    obtain ⟨u, z, y, q, rfl, rfl, h2, h3⟩ := open2 h.2
    exact ⟨v, u, z, x, y, q, rfl, rfl, h.1, h2, h3⟩
  | [], [], h => exact h.elim
  | [], _ :: _, h => exact h.elim
  | _ :: _, [], h => exact h.elim
theorem in64 {x : Int} (h : InR .u64 x) : 0 ≤ x ∧ x < 18446744073709551616 := by obtain ⟨h1, h2⟩ := h; simp only [lo, hi] at h1 h2; omega
theorem in8 {x : Int} (h : InR .u8 x) : 0 ≤ x ∧ x < 256 := by obtain ⟨h1, h2⟩ := h; simp only [lo, hi] at h1 h2; omega
end Go.Ss
namespace Go.Bs
open Go.Bx
def MM : Int := 18446744073709551616
def LL : Int := 7237005577332262213973186563042994240857116359379907606001950938285454250989
def cutZ (x : Int) : Int := if x < LL then x else x - LL
theorem dg_cong {b : Int} (hb : 0 < b) {k : Nat} {n m : Int} (q : Int) (h : n = m + b ^ k * q) : dg b k n = dg b k m := by
  rw [← dg_mod hb k n, ← dg_mod hb k m, h, Int.add_mul_emod_self_left]
theorem MM_pos : 0 < MM := by decide
theorem MM4 : MM ^ 4 = 115792089237316195423570985008687907853269984665640564039457584007913129639936 := by decide
end Go.Bs
namespace Go.Proofs.Ytfobnajgnnccmaa.Sc
set_option linter.unusedSimpArgs false
open Go.RowKit Go.Bx Go.Bs Go.Sx Go.Ss
theorem mixed : Try.prog.follows .mixedOrders = true := by kernel_rfl
/-- What the functions make of integers. -/
def sg (j : Nat) (xs : List (List Int)) : List Int :=
  match j, xs with
  | 0, [[x], [y], [c]] => [(x + y + c) % MM, (x + y + c) / MM]
  | 1, [[x], [y], [c]] => [(x - y - c) % MM, b2i (decide (x < y + c))]
  | 2, [[x], [y]] => [x * y / MM, x * y % MM]
  | 3, [a] => dg MM 4 (dv MM a % LL)
  | 10, [a, b] => dg MM 4 (dv MM a + dv MM b)
  | 11, [a, b] => dg MM 4 (dv MM a - dv MM b) ++ [b2i (decide (dv MM a < dv MM b))]
  | 12, [a] => dg MM 4 (cutZ (dv MM a))
  | 13, [a] => dg 256 32 (dv MM a)
  | 14, [a] => dg MM 8 (dv 256 a)
  | 15, [a] => dg MM 4 (dv 256 a % LL)
  | 16, [a, b] => dg MM 4 (dv MM a * dv MM b % LL)
  | 20, [a, b] => dg 256 32 ((dv 256 a + dv 256 b) % LL)
  | 21, [a, b] => dg 256 32 ((dv 256 a - dv 256 b) % LL)
  | 22, [a, b] => dg 256 32 (dv 256 a * dv 256 b % LL)
  | 23, [a] => dg 256 32 (dv 256 a % LL)
  | 24, [a] => dg 256 32 (dv 256 a % LL)
  | 25, [a] => [b2i (decide (dv 256 a < LL))]
  | 30, [s] => -1 :: ((s.drop 1).take 8 ++ dg MM 4 (dv MM ((s.drop 1).take 8) % LL))
  | 40, _ => [1]
  | 41, _ => [1]
  | 42, _ => [1]
  | 43, _ => [1]
  | 44, _ => [1]
  | 45, _ => [1]
  | _, _ => []
def sp (j : Nat) (xs : List (List Int)) : Prop :=
  match j, xs with
  | 0, [_, _, [c]] => c = 0 ∨ c = 1
  | 1, [_, _, [c]] => c = 0 ∨ c = 1
  | 30, [s] => s.getD 0 0 = 511 ∧ s.drop 9 = [0, 0, 0, 0]
  | _, _ => True
def sfns : Fns := ⟨sg, sp⟩
def cAdd : Ctr := ⟨89, 0, [.int .u64, .int .u64, .int .u64], [.int .u64, .int .u64]⟩
def cSub : Ctr := ⟨106, 1, [.int .u64, .int .u64, .int .u64], [.int .u64, .int .u64]⟩
def cMul : Ctr := ⟨94, 2, [.int .u64, .int .u64], [.int .u64, .int .u64]⟩
theorem okAdd : CtrOK Try.prog sfns cAdd := by
  intro w vs xs ha hp
  obtain ⟨v, u, z, x, y, q, rfl, rfl, ⟨x, rfl, rfl, hx⟩, ⟨y, rfl, rfl, hy⟩, ⟨c, rfl, rfl, hc⟩⟩ := open3 ha
  obtain ⟨x0, x1⟩ := in64 hx
  obtain ⟨y0, y1⟩ := in64 hy
  obtain ⟨a, rfl⟩ := Int.eq_ofNat_of_zero_le x0
  obtain ⟨b, rfl⟩ := Int.eq_ofNat_of_zero_le y0
  have hc' : c = 0 ∨ c = 1 := hp
  obtain ⟨k, rfl, hk⟩ : ∃ k : Nat, c = (k : Int) ∧ k ≤ 1 := by
    rcases hc' with rfl | rfl
    · exact ⟨0, rfl, by omega⟩
    · exact ⟨1, rfl, by omega⟩
  refine .inr ⟨.tuple #[.int .u64 (((a + b + k) % 18446744073709551616 : Nat) : Int), .int .u64 (((a + b + k) / 18446744073709551616 : Nat) : Int)], ?_, ?_, ?_, Below.refl _ _⟩
  · show (callFunc 89 #[.int .u64 (a : Int), .int .u64 (b : Int), .int .u64 (k : Int)]).run Try.prog w = _
    rw [run_callFunc_extern Try.func89 (by kernel_rfl) (by kernel_rfl) (by kernel_rfl) (e := add64Entry) (by kernel_rfl), run_add64 a b k (by omega) (by omega) (by omega) (by omega)]
    simp only [Result.andThen]
    congr 5 <;> omega
  · simp only [ResIs, rowOf, resVal, cAdd, vals, Sh.val, Sh.len, sfns, sg, MM]; simp
  · simp only [cAdd, goods, Sh.good, Sh.len, sfns, sg, MM]
    refine ⟨⟨?_, ?_⟩, ⟨?_, ?_⟩, trivial⟩ <;> simp [lo, hi] <;> omega
theorem okSub : CtrOK Try.prog sfns cSub := by
  intro w vs xs ha hp
  obtain ⟨v, u, z, x, y, q, rfl, rfl, ⟨x, rfl, rfl, hx⟩, ⟨y, rfl, rfl, hy⟩, ⟨c, rfl, rfl, hc⟩⟩ := open3 ha
  obtain ⟨x0, x1⟩ := in64 hx
  obtain ⟨y0, y1⟩ := in64 hy
  obtain ⟨a, rfl⟩ := Int.eq_ofNat_of_zero_le x0
  obtain ⟨b, rfl⟩ := Int.eq_ofNat_of_zero_le y0
  have hc' : c = 0 ∨ c = 1 := hp
  obtain ⟨k, rfl, hk⟩ : ∃ k : Nat, c = (k : Int) ∧ k ≤ 1 := by
    rcases hc' with rfl | rfl
    · exact ⟨0, rfl, by omega⟩
    · exact ⟨1, rfl, by omega⟩
  refine .inr ⟨.tuple #[.int .u64 (((a + 18446744073709551616 - b - k) % 18446744073709551616 : Nat) : Int), .int .u64 ((if a < b + k then 1 else 0 : Nat) : Int)], ?_, ?_, ?_, Below.refl _ _⟩
  · show (callFunc 106 #[.int .u64 (a : Int), .int .u64 (b : Int), .int .u64 (k : Int)]).run Try.prog w = _
    rw [run_callFunc_extern Try.func106 (by kernel_rfl) (by kernel_rfl) (by kernel_rfl) (e := sub64Entry) (by kernel_rfl), run_sub64 a b k hk]
    rfl
  · have e1 : (((a + 18446744073709551616 - b - k) % 18446744073709551616 : Nat) : Int) = ((a : Int) - b - k) % 18446744073709551616 := by omega
    have e2 : ((if a < b + k then 1 else 0 : Nat) : Int) = b2i (decide ((a : Int) < b + k)) := by
      unfold b2i
      by_cases h : a < b + k
      · rw [if_pos h, if_pos (by simp; omega)]; rfl
      · rw [if_neg h, if_neg (by simp; omega)]; rfl
    rw [e1, e2]
    simp only [ResIs, rowOf, resVal, cSub, vals, Sh.val, Sh.len, sfns, sg, MM]; simp
  · simp only [cSub, goods, Sh.good, Sh.len, sfns, sg, MM]
    refine ⟨⟨?_, ?_⟩, ⟨?_, ?_⟩, trivial⟩ <;> simp [lo, hi] <;> (try unfold b2i) <;> (try split) <;> omega
theorem okMul : CtrOK Try.prog sfns cMul := by
  refine CtrOK.of (T := []) (fun c h => by cases h) mixed (lf := 300) (d := 5) rfl fun w vs xs ha _ => ?_
  obtain ⟨v, u, x, y, rfl, rfl, ⟨x, rfl, rfl, hx⟩, ⟨y, rfl, rfl, hy⟩⟩ := open2 ha
  obtain ⟨x0, x1⟩ := in64 hx
  obtain ⟨y0, y1⟩ := in64 hy
  refine Way.of (dec := []) (fs := [.bin 2 .and .u64 (.v 0) (.l 4294967295), .bin 3 .shr .u64 (.v 0) (.l 32), .bin 4 .and .u64 (.v 1) (.l 4294967295), .bin 5 .shr .u64 (.v 1) (.l 32), .bin 6 .mul .u64 (.v 2) (.v 4), .bin 7 .mul .u64 (.v 3) (.v 4), .bin 8 .shr .u64 (.v 6) (.l 32), .bin 9 .add .u64 (.v 7) (.v 8), .bin 10 .and .u64 (.v 9) (.l 4294967295), .bin 11 .shr .u64 (.v 9) (.l 32), .bin 12 .mul .u64 (.v 2) (.v 5), .bin 13 .add .u64 (.v 10) (.v 12), .bin 14 .mul .u64 (.v 3) (.v 5), .bin 15 .add .u64 (.v 14) (.v 11), .bin 16 .shr .u64 (.v 13) (.l 32), .bin 17 .add .u64 (.v 15) (.v 16), .bin 18 .mul .u64 (.v 0) (.v 1)]) (refs := [.v 17, .v 18]) (by kernel_rfl) fun ρ hρ hd => ⟨trivial, ?_⟩
  have r0 : ρ 0 = x := hρ 0 (by decide)
  have r1 : ρ 1 = y := hρ 1 (by decide)
  simp only [D_nil, D_add, D_sub, D_mul, D_and, D_or, D_xor, D_shl, D_shr, D_andNot, D_quo, D_rem, D_add_i64, D_sub_i64, D_mul_i64, D_add_u32, D_sub_u32, D_mul_u32, D_add_u8, D_sub_u8, D_mul_u8, D_eql, D_neq, D_lss, D_leq, D_gtr, D_geq, D_not, D_conv, D_eqs, D_call, D_cond, D_need, D_idx, D_sel, D_upd, D_shv, D_beq, List.map_cons, List.map_nil, Ref.den, r0, r1] at hd
  obtain ⟨h2, h3, h4, h5, h6, h7, h8, h9, h10, h11, h12, h13, h14, h15, h16, h17, h18, _⟩ := hd
  have e2 := u_and 32 (by decide) x0 x1 rfl h2
  have e3 := u_shr 32 (by decide) h3 rfl
  have e4 := u_and 32 (by decide) y0 y1 rfl h4
  have e5 := u_shr 32 (by decide) h5 rfl
  simp only [Int.reducePow] at e2 e3 e4 e5
  obtain ⟨a, rfl⟩ := Int.eq_ofNat_of_zero_le x0
  obtain ⟨b, rfl⟩ := Int.eq_ofNat_of_zero_le y0
  obtain ⟨m1, m2, m3, m4⟩ := Lib.mul64_hi a b (by omega) (by omega)
  have f2 : ρ 2 = ((a % 4294967296 : Nat) : Int) := by rw [e2]; omega
  have f3 : ρ 3 = ((a / 4294967296 : Nat) : Int) := by rw [e3]; omega
  have f4 : ρ 4 = ((b % 4294967296 : Nat) : Int) := by rw [e4]; omega
  have f5 : ρ 5 = ((b / 4294967296 : Nat) : Int) := by rw [e5]; omega
  have e6 := h6
  have e7 := h7
  have e12 := h12
  have e14 := h14
  have e18 := h18
  rw [f2, f4, ← Int.natCast_mul] at e6
  rw [f3, f4, ← Int.natCast_mul] at e7
  rw [f2, f5, ← Int.natCast_mul] at e12
  rw [f3, f5, ← Int.natCast_mul] at e14
  rw [← Int.natCast_mul] at e18
  have q1 := Lib.half_mul_le (a := a % 4294967296) (b := b % 4294967296) (by omega) (by omega)
  have q2 := Lib.half_mul_le (a := a / 4294967296) (b := b % 4294967296) (by omega) (by omega)
  have q3 := Lib.half_mul_le (a := a % 4294967296) (b := b / 4294967296) (by omega) (by omega)
  have q4 := Lib.half_mul_le (a := a / 4294967296) (b := b / 4294967296) (by omega) (by omega)
  generalize (a % 4294967296) * (b % 4294967296) = p1 at *
  generalize (a / 4294967296) * (b % 4294967296) = p2 at *
  generalize (a % 4294967296) * (b / 4294967296) = p3 at *
  generalize (a / 4294967296) * (b / 4294967296) = p4 at *
  have e8 := u_shr 32 (by decide) h8 rfl
  simp only [Int.reducePow] at e8
  have e9 := h9
  have e10 := u_and 32 (by decide) (by omega) (by omega) rfl h10
  have e11 := u_shr 32 (by decide) h11 rfl
  simp only [Int.reducePow] at e10 e11
  have e13 := h13
  have e15 := h15
  have e16 := u_shr 32 (by decide) h16 rfl
  simp only [Int.reducePow] at e16
  have e17 := h17
  clear h2 h3 h4 h5 h6 h7 h8 h9 h10 h11 h12 h13 h14 h15 h16 h17 h18
  show [ρ 17, ρ 18] = [(a : Int) * b / MM, (a : Int) * b % MM]
  have g18 : ρ 18 = (a : Int) * b % MM := by rw [e18, Int.natCast_mul]; rfl
  have g17 : ρ 17 = (a : Int) * b / MM := by
    rw [← Int.natCast_mul]
    have : ((a * b : Nat) : Int) / MM = ((a * b / 18446744073709551616 : Nat) : Int) := by unfold MM; omega
    rw [this, ← m4]
    omega
  rw [g17, g18]
end Go.Proofs.Ytfobnajgnnccmaa.Sc

namespace Go.Bs
open Go.Bx
theorem len4 {a : List Int} (h : a.length = 4) : ∃ x y z t, a = [x, y, z, t] := by
  match a, h with
  | [x, y, z, t], _ => exact ⟨x, y, z, t, rfl⟩
theorem len8 {a : List Int} (h : a.length = 8) : ∃ x y z t p q r s, a = [x, y, z, t, p, q, r, s] := by
  match a, h with
  | [x, y, z, t, p, q, r, s], _ => exact ⟨x, y, z, t, p, q, r, s, rfl⟩
theorem word_dig (x : Int) : dg 256 8 x = [x % 256, x / 2 ^ 8 % 256, x / 2 ^ 16 % 256, x / 2 ^ 24 % 256, x / 2 ^ 32 % 256, x / 2 ^ 40 % 256, x / 2 ^ 48 % 256, x / 2 ^ 56 % 256] := by
  simp only [dg, List.cons.injEq, and_true, true_and, Int.reducePow]; omega
theorem dv_two {b : Int} (l m : List Int) : dv b (l ++ m) = dv b l + b ^ l.length * dv b m := dv_append b l m
theorem dig_of {k : IntKind} {b : Int} {l : List Int} (h : ∀ z ∈ l, Go.Sx.InR k z) (hk : ∀ z, Go.Sx.InR k z → 0 ≤ z ∧ z < b) : Dig b l := ⟨fun x hx => hk x (h x hx)⟩
theorem dig64 {l : List Int} (h : ∀ z ∈ l, Go.Sx.InR .u64 z) : Dig MM l := dig_of h fun _ h => Go.Ss.in64 h
theorem dig8 {l : List Int} (h : ∀ z ∈ l, Go.Sx.InR .u8 z) : Dig 256 l := dig_of h fun _ h => Go.Ss.in8 h
theorem digl {b : Int} {l : List Int} (h : Dig b l) {i : Nat} (hi : i < l.length) : 0 ≤ l.getD i 0 ∧ l.getD i 0 < b := by
  rw [List.getD_eq_getElem?_getD, List.getElem?_eq_getElem hi]; exact h.d _ (List.getElem_mem hi)
theorem b2i_dec {x : Int} (p : Prop) [Decidable p] (h : x = Go.Sx.b2i (decide p)) : (p ∧ x = 1) ∨ (¬ p ∧ x = 0) := by
  subst h; by_cases hp : p <;> simp [hp, Go.Sx.b2i]
theorem b2i_congr {p q : Prop} {dp : Decidable p} {dq : Decidable q} (h : p ↔ q) : Go.Sx.b2i (@decide p dp) = Go.Sx.b2i (@decide q dq) := by
  by_cases hq : q
  · have hp := h.2 hq; simp [hp, hq]
  · have hp : ¬ p := fun x => hq (h.1 x); simp [hp, hq]
theorem LL_lt : 0 < LL ∧ 2 * LL < MM ^ 4 := by decide
end Go.Bs
namespace Go.Proofs.Ytfobnajgnnccmaa.Sc
open Go.RowKit Go.Bx Go.Bs Go.Sx Go.Ss
set_option linter.unusedSimpArgs false
def cPlus : Ctr := ⟨58, 10, [.arr .u64 4, .arr .u64 4], [.arr .u64 4]⟩
def cLess : Ctr := ⟨92, 11, [.arr .u64 4, .arr .u64 4], [.arr .u64 4, .bool]⟩
def cCut : Ctr := ⟨59, 12, [.arr .u64 4], [.arr .u64 4]⟩
def cWord : Ctr := ⟨60, 13, [.arr .u64 4], [.arr .u8 32]⟩
def cFrom32 : Ctr := ⟨91, 14, [.row .u8 26 32], [.arr .u64 8]⟩
def cFrom64 : Ctr := ⟨91, 14, [.row .u8 48 64], [.arr .u64 8]⟩
def T0 : List Ctr := [cAdd, cSub, cMul]
theorem okT0 : ∀ c ∈ T0, CtrOK Try.prog sfns c := by
  intro c hc
  simp only [T0, List.mem_cons, List.not_mem_nil, or_false] at hc
  rcases hc with rfl | rfl | rfl
  · exact okAdd
  · exact okSub
  · exact okMul
/-- Two results of a call. -/
theorem two {ρ : Nat → Int} {n : Nat} {p q : Int} (h : ∀ i, i < total [.int .u64, .int .u64] → ρ (n + i) = ([p, q] : List Int).getD i 0) : ρ n = p ∧ ρ (n + 1) = q :=
  ⟨h 0 (by decide), h 1 (by decide)⟩
theorem okPlus : CtrOK Try.prog sfns cPlus := by
  refine CtrOK.of okT0 mixed (lf := 300) (d := 5) rfl fun w vs xs ha _ => ?_
  obtain ⟨v, u, a, b, rfl, rfl, ⟨la, -, ia⟩, ⟨lb, -, ib⟩⟩ := open2 ha
  obtain ⟨x0, x1, x2, x3, rfl⟩ := len4 la
  obtain ⟨y0, y1, y2, y3, rfl⟩ := len4 lb
  refine Go.Sx.Way.of (dec := []) (fs := [.need 0 [[.v 0], [.v 4], [.l 0]], .call 8 0 [[.v 0], [.v 4], [.l 0]] 2, .need 0 [[.v 1], [.v 5], [.v 9]], .call 10 0 [[.v 1], [.v 5], [.v 9]] 2, .need 0 [[.v 2], [.v 6], [.v 11]], .call 12 0 [[.v 2], [.v 6], [.v 11]] 2, .need 0 [[.v 3], [.v 7], [.v 13]], .call 14 0 [[.v 3], [.v 7], [.v 13]] 2]) (refs := [.v 8, .v 10, .v 12, .v 14]) (by kernel_rfl) fun ρ hρ hd => ?_
  have r0 : ρ 0 = x0 := hρ 0 (by decide)
  have r1 : ρ 1 = x1 := hρ 1 (by decide)
  have r2 : ρ 2 = x2 := hρ 2 (by decide)
  have r3 : ρ 3 = x3 := hρ 3 (by decide)
  have r4 : ρ 4 = y0 := hρ 4 (by decide)
  have r5 : ρ 5 = y1 := hρ 5 (by decide)
  have r6 : ρ 6 = y2 := hρ 6 (by decide)
  have r7 : ρ 7 = y3 := hρ 7 (by decide)
  simp only [D_nil, D_add, D_sub, D_mul, D_and, D_or, D_xor, D_shl, D_shr, D_andNot, D_quo, D_rem, D_add_i64, D_sub_i64, D_mul_i64, D_add_u32, D_sub_u32, D_mul_u32, D_add_u8, D_sub_u8, D_mul_u8, D_eql, D_neq, D_lss, D_leq, D_gtr, D_geq, D_not, D_conv, D_eqs, D_call, D_cond, D_need, D_idx, D_sel, D_upd, D_shv, D_beq, List.map_cons, List.map_nil, Ref.den, r0, r1, r2, r3, r4, r5, r6, r7] at hd
  obtain ⟨h0, h1, h2, h3, -⟩ := hd
  obtain ⟨a0, c0⟩ := two h0
  obtain ⟨a1, c1⟩ := two h1
  obtain ⟨a2, c2⟩ := two h2
  obtain ⟨a3, c3⟩ := two h3
  simp only [Nat.reduceAdd] at c0 c1 c2 c3
  have i0 := in64 (ia x0 (by simp))
  have i1 := in64 (ia x1 (by simp))
  have i2 := in64 (ia x2 (by simp))
  have i3 := in64 (ia x3 (by simp))
  have j0 := in64 (ib y0 (by simp))
  have j1 := in64 (ib y1 (by simp))
  have j2 := in64 (ib y2 (by simp))
  have j3 := in64 (ib y3 (by simp))
  unfold MM at a0 a1 a2 a3 c0 c1 c2 c3
  refine ⟨?_, ?_⟩
  · simp only [G_nil, G_bin, G_cmp, G_not, G_conv, G_eqs, G_call, G_cond, G_need, G_idx, G_sel, G_upd, G_shv, G_beq, List.map_cons, List.map_nil, Ref.den]
    exact ⟨.inl rfl, show ρ 9 = 0 ∨ ρ 9 = 1 by omega, show ρ 11 = 0 ∨ ρ 11 = 1 by omega, show ρ 13 = 0 ∨ ρ 13 = 1 by omega, trivial⟩
  · show [ρ 8, ρ 10, ρ 12, ρ 14] = dg MM 4 (dv MM [x0, x1, x2, x3] + dv MM [y0, y1, y2, y3])
    rw [dg_eq MM_pos (l := [ρ 8, ρ 10, ρ 12, ρ 14]) rfl (Dig.cons (by omega) (by unfold MM; omega) (Dig.cons (by omega) (by unfold MM; omega) (Dig.cons (by omega) (by unfold MM; omega) (Dig.cons (by omega) (by unfold MM; omega) Dig.nil)))) rfl]
    refine dg_cong MM_pos (-(ρ 15)) ?_
    show dv MM [ρ 8, ρ 10, ρ 12, ρ 14] = dv MM [x0, x1, x2, x3] + dv MM [y0, y1, y2, y3] + MM ^ 4 * -ρ 15
    rw [MM4]; simp only [dv, MM]; omega
theorem okLess : CtrOK Try.prog sfns cLess := by
  refine CtrOK.of okT0 mixed (lf := 300) (d := 5) rfl fun w vs xs ha _ => ?_
  obtain ⟨v, u, a, b, rfl, rfl, ⟨la, -, ia⟩, ⟨lb, -, ib⟩⟩ := open2 ha
  obtain ⟨x0, x1, x2, x3, rfl⟩ := len4 la
  obtain ⟨y0, y1, y2, y3, rfl⟩ := len4 lb
  refine Go.Sx.Way.of (dec := []) (fs := [.need 1 [[.v 0], [.v 4], [.l 0]], .call 8 1 [[.v 0], [.v 4], [.l 0]] 2, .need 1 [[.v 1], [.v 5], [.v 9]], .call 10 1 [[.v 1], [.v 5], [.v 9]] 2, .need 1 [[.v 2], [.v 6], [.v 11]], .call 12 1 [[.v 2], [.v 6], [.v 11]] 2, .need 1 [[.v 3], [.v 7], [.v 13]], .call 14 1 [[.v 3], [.v 7], [.v 13]] 2, .cmp 16 .neq (.v 15) (.l 0)]) (refs := [.v 8, .v 10, .v 12, .v 14, .v 16]) (by kernel_rfl) fun ρ hρ hd => ?_
  have r0 : ρ 0 = x0 := hρ 0 (by decide)
  have r1 : ρ 1 = x1 := hρ 1 (by decide)
  have r2 : ρ 2 = x2 := hρ 2 (by decide)
  have r3 : ρ 3 = x3 := hρ 3 (by decide)
  have r4 : ρ 4 = y0 := hρ 4 (by decide)
  have r5 : ρ 5 = y1 := hρ 5 (by decide)
  have r6 : ρ 6 = y2 := hρ 6 (by decide)
  have r7 : ρ 7 = y3 := hρ 7 (by decide)
  simp only [D_nil, D_add, D_sub, D_mul, D_and, D_or, D_xor, D_shl, D_shr, D_andNot, D_quo, D_rem, D_add_i64, D_sub_i64, D_mul_i64, D_add_u32, D_sub_u32, D_mul_u32, D_add_u8, D_sub_u8, D_mul_u8, D_eql, D_neq, D_lss, D_leq, D_gtr, D_geq, D_not, D_conv, D_eqs, D_call, D_cond, D_need, D_idx, D_sel, D_upd, D_shv, D_beq, List.map_cons, List.map_nil, Ref.den, r0, r1, r2, r3, r4, r5, r6, r7] at hd
  obtain ⟨h0, h1, h2, h3, h4, -⟩ := hd
  obtain ⟨a0, c0⟩ := two h0
  obtain ⟨a1, c1⟩ := two h1
  obtain ⟨a2, c2⟩ := two h2
  obtain ⟨a3, c3⟩ := two h3
  simp only [Nat.reduceAdd] at c0 c1 c2 c3
  have i0 := in64 (ia x0 (by simp))
  have i1 := in64 (ia x1 (by simp))
  have i2 := in64 (ia x2 (by simp))
  have i3 := in64 (ia x3 (by simp))
  have j0 := in64 (ib y0 (by simp))
  have j1 := in64 (ib y1 (by simp))
  have j2 := in64 (ib y2 (by simp))
  have j3 := in64 (ib y3 (by simp))
  unfold MM at a0 a1 a2 a3
  have b9 := b2i_dec (x0 < y0 + 0) c0
  have b11 := b2i_dec (x1 < y1 + ρ 9) c1
  have b13 := b2i_dec (x2 < y2 + ρ 11) c2
  have b15 := b2i_dec (x3 < y3 + ρ 13) c3
  clear c0 c1 c2 c3
  refine ⟨?_, ?_⟩
  · simp only [G_nil, G_bin, G_cmp, G_not, G_conv, G_eqs, G_call, G_cond, G_need, G_idx, G_sel, G_upd, G_shv, G_beq, List.map_cons, List.map_nil, Ref.den]
    exact ⟨.inl rfl, show ρ 9 = 0 ∨ ρ 9 = 1 by omega, show ρ 11 = 0 ∨ ρ 11 = 1 by omega, show ρ 13 = 0 ∨ ρ 13 = 1 by omega, trivial⟩
  · show [ρ 8, ρ 10, ρ 12, ρ 14, ρ 16] = dg MM 4 (dv MM [x0, x1, x2, x3] - dv MM [y0, y1, y2, y3]) ++ [b2i (decide (dv MM [x0, x1, x2, x3] < dv MM [y0, y1, y2, y3]))]
    have e5 : [ρ 8, ρ 10, ρ 12, ρ 14] = dg MM 4 (dv MM [x0, x1, x2, x3] - dv MM [y0, y1, y2, y3]) := by
      rw [dg_eq MM_pos (l := [ρ 8, ρ 10, ρ 12, ρ 14]) rfl (Dig.cons (by omega) (by unfold MM; omega) (Dig.cons (by omega) (by unfold MM; omega) (Dig.cons (by omega) (by unfold MM; omega) (Dig.cons (by omega) (by unfold MM; omega) Dig.nil)))) rfl]
      refine dg_cong MM_pos (ρ 15) ?_
      show dv MM [ρ 8, ρ 10, ρ 12, ρ 14] = dv MM [x0, x1, x2, x3] - dv MM [y0, y1, y2, y3] + MM ^ 4 * ρ 15
      rw [MM4]; simp only [dv, MM]; omega
    have e6 : ρ 16 = b2i (decide (dv MM [x0, x1, x2, x3] < dv MM [y0, y1, y2, y3])) := by
      rw [h4]
      refine b2i_congr ?_
      simp only [dv, MM]; omega
    rw [← e5, ← e6]; rfl
def T1 : List Ctr := [cAdd, cSub, cMul, cPlus, cLess]
theorem okT1 : ∀ c ∈ T1, CtrOK Try.prog sfns c := by
  intro c hc
  simp only [T1, List.mem_cons, List.not_mem_nil, or_false] at hc
  rcases hc with rfl | rfl | rfl | rfl | rfl
  · exact okAdd
  · exact okSub
  · exact okMul
  · exact okPlus
  · exact okLess
theorem limit_eq : dv MM [6346243789798364141, 1503914060200516822, 0, 1152921504606846976] = LL := by decide
theorem okCut : CtrOK Try.prog sfns cCut := by
  refine CtrOK.of okT1 mixed (lf := 300) (d := 5) rfl fun w vs xs ha _ => ?_
  obtain ⟨v, a, rfl, rfl, ⟨la, -, ia⟩⟩ := open1 ha
  have hb := dv_bound MM_pos (dig64 ia)
  obtain ⟨x0, x1, x2, x3, rfl⟩ := len4 la
  show Go.Sx.Way Try.prog sfns T1 300 5 cCut [[x0, x1, x2, x3]] (dg MM 4 (cutZ (dv MM [x0, x1, x2, x3])))
  by_cases hlt : dv MM [x0, x1, x2, x3] < LL
  · refine Go.Sx.Way.of (dec := [false]) (fs := [.need 11 [[.v 0, .v 1, .v 2, .v 3], [.l 6346243789798364141, .l 1503914060200516822, .l 0, .l 1152921504606846976]], .call 4 11 [[.v 0, .v 1, .v 2, .v 3], [.l 6346243789798364141, .l 1503914060200516822, .l 0, .l 1152921504606846976]] 5, .not 9 (.v 8), .cond 9 false]) (refs := [.v 0, .v 1, .v 2, .v 3]) (by kernel_rfl) fun ρ hρ hd => ?_
    have r0 : ρ 0 = x0 := hρ 0 (by decide)
    have r1 : ρ 1 = x1 := hρ 1 (by decide)
    have r2 : ρ 2 = x2 := hρ 2 (by decide)
    have r3 : ρ 3 = x3 := hρ 3 (by decide)
    simp only [D_nil, D_add, D_sub, D_mul, D_and, D_or, D_xor, D_shl, D_shr, D_andNot, D_quo, D_rem, D_add_i64, D_sub_i64, D_mul_i64, D_add_u32, D_sub_u32, D_mul_u32, D_add_u8, D_sub_u8, D_mul_u8, D_eql, D_neq, D_lss, D_leq, D_gtr, D_geq, D_not, D_conv, D_eqs, D_call, D_cond, D_need, D_idx, D_sel, D_upd, D_shv, D_beq, List.map_cons, List.map_nil, Ref.den, r0, r1, r2, r3] at hd
    obtain ⟨h0, h1, -⟩ := hd
    have e8 : ρ 8 = _ := h0 4 (by decide)
    have e8' : ρ 8 = b2i (decide (dv MM [x0, x1, x2, x3] < dv MM [6346243789798364141, 1503914060200516822, 0, 1152921504606846976])) := e8
    rw [limit_eq, decide_eq_true hlt] at e8'
    refine ⟨?_, ?_⟩
    · simp only [G_nil, G_bin, G_cmp, G_not, G_conv, G_eqs, G_call, G_cond, G_need, G_idx, G_sel, G_upd, G_shv, G_beq, List.map_cons, List.map_nil, Ref.den, h1, e8']; exact ⟨trivial, rfl, trivial⟩
    · show [ρ 0, ρ 1, ρ 2, ρ 3] = _
      rw [r0, r1, r2, r3, cutZ, if_pos hlt]
      exact (dg_dv MM_pos (dig64 ia)).symm
  · refine Go.Sx.Way.of (dec := [true]) (fs := [.need 11 [[.v 0, .v 1, .v 2, .v 3], [.l 6346243789798364141, .l 1503914060200516822, .l 0, .l 1152921504606846976]], .call 4 11 [[.v 0, .v 1, .v 2, .v 3], [.l 6346243789798364141, .l 1503914060200516822, .l 0, .l 1152921504606846976]] 5, .not 9 (.v 8), .cond 9 true]) (refs := [.v 4, .v 5, .v 6, .v 7]) (by kernel_rfl) fun ρ hρ hd => ?_
    have r0 : ρ 0 = x0 := hρ 0 (by decide)
    have r1 : ρ 1 = x1 := hρ 1 (by decide)
    have r2 : ρ 2 = x2 := hρ 2 (by decide)
    have r3 : ρ 3 = x3 := hρ 3 (by decide)
    simp only [D_nil, D_add, D_sub, D_mul, D_and, D_or, D_xor, D_shl, D_shr, D_andNot, D_quo, D_rem, D_add_i64, D_sub_i64, D_mul_i64, D_add_u32, D_sub_u32, D_mul_u32, D_add_u8, D_sub_u8, D_mul_u8, D_eql, D_neq, D_lss, D_leq, D_gtr, D_geq, D_not, D_conv, D_eqs, D_call, D_cond, D_need, D_idx, D_sel, D_upd, D_shv, D_beq, List.map_cons, List.map_nil, Ref.den, r0, r1, r2, r3] at hd
    obtain ⟨h0, h1, -⟩ := hd
    have e8 : ρ 8 = b2i (decide (dv MM [x0, x1, x2, x3] < dv MM [6346243789798364141, 1503914060200516822, 0, 1152921504606846976])) := h0 4 (by decide)
    rw [limit_eq, decide_eq_false hlt] at e8
    have key : ∀ i, i < 4 → ρ (4 + i) = (dg MM 4 (dv MM [x0, x1, x2, x3] - LL)).getD i 0 := fun i hi => by
      have := h0 i (by show i < 5; omega)
      rw [this, ← limit_eq]
      show (dg MM 4 (dv MM [x0, x1, x2, x3] - dv MM [6346243789798364141, 1503914060200516822, 0, 1152921504606846976]) ++ _).getD i 0 = _
      rw [List.getD_eq_getElem?_getD, List.getElem?_append_left (by rw [dg_len]; exact hi), List.getD_eq_getElem?_getD]
    refine ⟨?_, ?_⟩
    · simp only [G_nil, G_bin, G_cmp, G_not, G_conv, G_eqs, G_call, G_cond, G_need, G_idx, G_sel, G_upd, G_shv, G_beq, List.map_cons, List.map_nil, Ref.den, h1, e8]; exact ⟨trivial, rfl, trivial⟩
    · rw [cutZ, if_neg hlt, arr_eq (dg_len _ _ _) key]; rfl
end Go.Proofs.Ytfobnajgnnccmaa.Sc

namespace Go.Bs
open Go.Bx
theorem MM_pow : (256 : Int) ^ 8 = MM := by decide
theorem word_dig0 (x : Int) : dg 256 8 x = [x / 2 ^ 0 % 256, x / 2 ^ 8 % 256, x / 2 ^ 16 % 256, x / 2 ^ 24 % 256, x / 2 ^ 32 % 256, x / 2 ^ 40 % 256, x / 2 ^ 48 % 256, x / 2 ^ 56 % 256] := by
  rw [word_dig]; simp only [Int.reducePow, Int.ediv_one]
end Go.Bs
namespace Go.Proofs.Ytfobnajgnnccmaa.Sc
open Go.RowKit Go.Bx Go.Bs Go.Sx Go.Ss
set_option linter.unusedSimpArgs false
theorem okWord : CtrOK Try.prog sfns cWord := by
  refine CtrOK.of okT0 mixed (lf := 300) (d := 5) rfl fun w vs xs ha _ => ?_
  obtain ⟨v, a, rfl, rfl, ⟨la, -, ia⟩⟩ := open1 ha
  have hdig := dig64 ia
  obtain ⟨x0, x1, x2, x3, rfl⟩ := len4 la
  refine Go.Sx.Way.of (dec := []) (fs := [.bin 4 .shr .u64 (.v 0) (.l 0), .conv 5 .u8 (.v 4), .bin 6 .shr .u64 (.v 0) (.l 8), .conv 7 .u8 (.v 6), .bin 8 .shr .u64 (.v 0) (.l 16), .conv 9 .u8 (.v 8), .bin 10 .shr .u64 (.v 0) (.l 24), .conv 11 .u8 (.v 10), .bin 12 .shr .u64 (.v 0) (.l 32), .conv 13 .u8 (.v 12), .bin 14 .shr .u64 (.v 0) (.l 40), .conv 15 .u8 (.v 14), .bin 16 .shr .u64 (.v 0) (.l 48), .conv 17 .u8 (.v 16), .bin 18 .shr .u64 (.v 0) (.l 56), .conv 19 .u8 (.v 18), .bin 20 .shr .u64 (.v 1) (.l 0), .conv 21 .u8 (.v 20), .bin 22 .shr .u64 (.v 1) (.l 8), .conv 23 .u8 (.v 22), .bin 24 .shr .u64 (.v 1) (.l 16), .conv 25 .u8 (.v 24), .bin 26 .shr .u64 (.v 1) (.l 24), .conv 27 .u8 (.v 26), .bin 28 .shr .u64 (.v 1) (.l 32), .conv 29 .u8 (.v 28), .bin 30 .shr .u64 (.v 1) (.l 40), .conv 31 .u8 (.v 30), .bin 32 .shr .u64 (.v 1) (.l 48), .conv 33 .u8 (.v 32), .bin 34 .shr .u64 (.v 1) (.l 56), .conv 35 .u8 (.v 34), .bin 36 .shr .u64 (.v 2) (.l 0), .conv 37 .u8 (.v 36), .bin 38 .shr .u64 (.v 2) (.l 8), .conv 39 .u8 (.v 38), .bin 40 .shr .u64 (.v 2) (.l 16), .conv 41 .u8 (.v 40), .bin 42 .shr .u64 (.v 2) (.l 24), .conv 43 .u8 (.v 42), .bin 44 .shr .u64 (.v 2) (.l 32), .conv 45 .u8 (.v 44), .bin 46 .shr .u64 (.v 2) (.l 40), .conv 47 .u8 (.v 46), .bin 48 .shr .u64 (.v 2) (.l 48), .conv 49 .u8 (.v 48), .bin 50 .shr .u64 (.v 2) (.l 56), .conv 51 .u8 (.v 50), .bin 52 .shr .u64 (.v 3) (.l 0), .conv 53 .u8 (.v 52), .bin 54 .shr .u64 (.v 3) (.l 8), .conv 55 .u8 (.v 54), .bin 56 .shr .u64 (.v 3) (.l 16), .conv 57 .u8 (.v 56), .bin 58 .shr .u64 (.v 3) (.l 24), .conv 59 .u8 (.v 58), .bin 60 .shr .u64 (.v 3) (.l 32), .conv 61 .u8 (.v 60), .bin 62 .shr .u64 (.v 3) (.l 40), .conv 63 .u8 (.v 62), .bin 64 .shr .u64 (.v 3) (.l 48), .conv 65 .u8 (.v 64), .bin 66 .shr .u64 (.v 3) (.l 56), .conv 67 .u8 (.v 66)]) (refs := [.v 5, .v 7, .v 9, .v 11, .v 13, .v 15, .v 17, .v 19, .v 21, .v 23, .v 25, .v 27, .v 29, .v 31, .v 33, .v 35, .v 37, .v 39, .v 41, .v 43, .v 45, .v 47, .v 49, .v 51, .v 53, .v 55, .v 57, .v 59, .v 61, .v 63, .v 65, .v 67]) (by kernel_rfl) fun ρ hρ hd => ?_
  have r0 : ρ 0 = x0 := hρ 0 (by decide)
  have r1 : ρ 1 = x1 := hρ 1 (by decide)
  have r2 : ρ 2 = x2 := hρ 2 (by decide)
  have r3 : ρ 3 = x3 := hρ 3 (by decide)
  simp only [D_nil, D_add, D_sub, D_mul, D_and, D_or, D_xor, D_shl, D_shr, D_andNot, D_quo, D_rem, D_add_i64, D_sub_i64, D_mul_i64, D_add_u32, D_sub_u32, D_mul_u32, D_add_u8, D_sub_u8, D_mul_u8, D_eql, D_neq, D_lss, D_leq, D_gtr, D_geq, D_not, D_conv, D_eqs, D_call, D_cond, D_need, D_idx, D_sel, D_upd, D_shv, D_beq, List.map_cons, List.map_nil, Ref.den, r0, r1, r2, r3] at hd
  obtain ⟨h0, g0, h1, g1, h2, g2, h3, g3, h4, g4, h5, g5, h6, g6, h7, g7, h8, g8, h9, g9, h10, g10, h11, g11, h12, g12, h13, g13, h14, g14, h15, g15, h16, g16, h17, g17, h18, g18, h19, g19, h20, g20, h21, g21, h22, g22, h23, g23, h24, g24, h25, g25, h26, g26, h27, g27, h28, g28, h29, g29, h30, g30, h31, g31, -⟩ := hd
  rw [c_u8, u_shr 0 (by decide) h0 rfl] at g0
  rw [c_u8, u_shr 8 (by decide) h1 rfl] at g1
  rw [c_u8, u_shr 16 (by decide) h2 rfl] at g2
  rw [c_u8, u_shr 24 (by decide) h3 rfl] at g3
  rw [c_u8, u_shr 32 (by decide) h4 rfl] at g4
  rw [c_u8, u_shr 40 (by decide) h5 rfl] at g5
  rw [c_u8, u_shr 48 (by decide) h6 rfl] at g6
  rw [c_u8, u_shr 56 (by decide) h7 rfl] at g7
  rw [c_u8, u_shr 0 (by decide) h8 rfl] at g8
  rw [c_u8, u_shr 8 (by decide) h9 rfl] at g9
  rw [c_u8, u_shr 16 (by decide) h10 rfl] at g10
  rw [c_u8, u_shr 24 (by decide) h11 rfl] at g11
  rw [c_u8, u_shr 32 (by decide) h12 rfl] at g12
  rw [c_u8, u_shr 40 (by decide) h13 rfl] at g13
  rw [c_u8, u_shr 48 (by decide) h14 rfl] at g14
  rw [c_u8, u_shr 56 (by decide) h15 rfl] at g15
  rw [c_u8, u_shr 0 (by decide) h16 rfl] at g16
  rw [c_u8, u_shr 8 (by decide) h17 rfl] at g17
  rw [c_u8, u_shr 16 (by decide) h18 rfl] at g18
  rw [c_u8, u_shr 24 (by decide) h19 rfl] at g19
  rw [c_u8, u_shr 32 (by decide) h20 rfl] at g20
  rw [c_u8, u_shr 40 (by decide) h21 rfl] at g21
  rw [c_u8, u_shr 48 (by decide) h22 rfl] at g22
  rw [c_u8, u_shr 56 (by decide) h23 rfl] at g23
  rw [c_u8, u_shr 0 (by decide) h24 rfl] at g24
  rw [c_u8, u_shr 8 (by decide) h25 rfl] at g25
  rw [c_u8, u_shr 16 (by decide) h26 rfl] at g26
  rw [c_u8, u_shr 24 (by decide) h27 rfl] at g27
  rw [c_u8, u_shr 32 (by decide) h28 rfl] at g28
  rw [c_u8, u_shr 40 (by decide) h29 rfl] at g29
  rw [c_u8, u_shr 48 (by decide) h30 rfl] at g30
  rw [c_u8, u_shr 56 (by decide) h31 rfl] at g31
  refine ⟨by simp only [G_nil, G_bin, G_cmp, G_not, G_conv, G_eqs, G_call, G_cond, G_need, G_idx, G_sel, G_upd, G_shv, G_beq, List.map_cons, List.map_nil, Ref.den], ?_⟩
  show [ρ 5, ρ 7, ρ 9, ρ 11, ρ 13, ρ 15, ρ 17, ρ 19, ρ 21, ρ 23, ρ 25, ρ 27, ρ 29, ρ 31, ρ 33, ρ 35, ρ 37, ρ 39, ρ 41, ρ 43, ρ 45, ρ 47, ρ 49, ρ 51, ρ 53, ρ 55, ρ 57, ρ 59, ρ 61, ρ 63, ρ 65, ρ 67] = dg 256 (4 * 8) (dv MM [x0, x1, x2, x3])
  rw [dg_flat (by decide), MM_pow]
  have e := dg_dv MM_pos hdig
  rw [show [x0, x1, x2, x3].length = 4 from rfl] at e
  rw [e]
  simp only [List.flatMap_cons, List.flatMap_nil, word_dig0, g0, g1, g2, g3, g4, g5, g6, g7, g8, g9, g10, g11, g12, g13, g14, g15, g16, g17, g18, g19, g20, g21, g22, g23, g24, g25, g26, g27, g28, g29, g30, g31, List.cons_append, List.nil_append]
theorem okFrom32 : CtrOK Try.prog sfns cFrom32 := by
  refine CtrOK.of okT0 mixed (lf := 300) (d := 5) rfl fun w vs xs ha _ => ?_
  obtain ⟨v, a, rfl, rfl, ⟨la, -, ia⟩⟩ := open1 ha
  refine Go.Sx.Way.of (dec := []) (fs := [.conv 32 .u64 (.v 0), .bin 33 .shl .u64 (.v 32) (.l 0), .bin 34 .or .u64 (.l 0) (.v 33), .conv 35 .u64 (.v 1), .bin 36 .shl .u64 (.v 35) (.l 8), .bin 37 .or .u64 (.v 34) (.v 36), .conv 38 .u64 (.v 2), .bin 39 .shl .u64 (.v 38) (.l 16), .bin 40 .or .u64 (.v 37) (.v 39), .conv 41 .u64 (.v 3), .bin 42 .shl .u64 (.v 41) (.l 24), .bin 43 .or .u64 (.v 40) (.v 42), .conv 44 .u64 (.v 4), .bin 45 .shl .u64 (.v 44) (.l 32), .bin 46 .or .u64 (.v 43) (.v 45), .conv 47 .u64 (.v 5), .bin 48 .shl .u64 (.v 47) (.l 40), .bin 49 .or .u64 (.v 46) (.v 48), .conv 50 .u64 (.v 6), .bin 51 .shl .u64 (.v 50) (.l 48), .bin 52 .or .u64 (.v 49) (.v 51), .conv 53 .u64 (.v 7), .bin 54 .shl .u64 (.v 53) (.l 56), .bin 55 .or .u64 (.v 52) (.v 54), .conv 56 .u64 (.v 8), .bin 57 .shl .u64 (.v 56) (.l 0), .bin 58 .or .u64 (.l 0) (.v 57), .conv 59 .u64 (.v 9), .bin 60 .shl .u64 (.v 59) (.l 8), .bin 61 .or .u64 (.v 58) (.v 60), .conv 62 .u64 (.v 10), .bin 63 .shl .u64 (.v 62) (.l 16), .bin 64 .or .u64 (.v 61) (.v 63), .conv 65 .u64 (.v 11), .bin 66 .shl .u64 (.v 65) (.l 24), .bin 67 .or .u64 (.v 64) (.v 66), .conv 68 .u64 (.v 12), .bin 69 .shl .u64 (.v 68) (.l 32), .bin 70 .or .u64 (.v 67) (.v 69), .conv 71 .u64 (.v 13), .bin 72 .shl .u64 (.v 71) (.l 40), .bin 73 .or .u64 (.v 70) (.v 72), .conv 74 .u64 (.v 14), .bin 75 .shl .u64 (.v 74) (.l 48), .bin 76 .or .u64 (.v 73) (.v 75), .conv 77 .u64 (.v 15), .bin 78 .shl .u64 (.v 77) (.l 56), .bin 79 .or .u64 (.v 76) (.v 78), .conv 80 .u64 (.v 16), .bin 81 .shl .u64 (.v 80) (.l 0), .bin 82 .or .u64 (.l 0) (.v 81), .conv 83 .u64 (.v 17), .bin 84 .shl .u64 (.v 83) (.l 8), .bin 85 .or .u64 (.v 82) (.v 84), .conv 86 .u64 (.v 18), .bin 87 .shl .u64 (.v 86) (.l 16), .bin 88 .or .u64 (.v 85) (.v 87), .conv 89 .u64 (.v 19), .bin 90 .shl .u64 (.v 89) (.l 24), .bin 91 .or .u64 (.v 88) (.v 90), .conv 92 .u64 (.v 20), .bin 93 .shl .u64 (.v 92) (.l 32), .bin 94 .or .u64 (.v 91) (.v 93), .conv 95 .u64 (.v 21), .bin 96 .shl .u64 (.v 95) (.l 40), .bin 97 .or .u64 (.v 94) (.v 96), .conv 98 .u64 (.v 22), .bin 99 .shl .u64 (.v 98) (.l 48), .bin 100 .or .u64 (.v 97) (.v 99), .conv 101 .u64 (.v 23), .bin 102 .shl .u64 (.v 101) (.l 56), .bin 103 .or .u64 (.v 100) (.v 102), .conv 104 .u64 (.v 24), .bin 105 .shl .u64 (.v 104) (.l 0), .bin 106 .or .u64 (.l 0) (.v 105), .conv 107 .u64 (.v 25), .bin 108 .shl .u64 (.v 107) (.l 8), .bin 109 .or .u64 (.v 106) (.v 108), .conv 110 .u64 (.v 26), .bin 111 .shl .u64 (.v 110) (.l 16), .bin 112 .or .u64 (.v 109) (.v 111), .conv 113 .u64 (.v 27), .bin 114 .shl .u64 (.v 113) (.l 24), .bin 115 .or .u64 (.v 112) (.v 114), .conv 116 .u64 (.v 28), .bin 117 .shl .u64 (.v 116) (.l 32), .bin 118 .or .u64 (.v 115) (.v 117), .conv 119 .u64 (.v 29), .bin 120 .shl .u64 (.v 119) (.l 40), .bin 121 .or .u64 (.v 118) (.v 120), .conv 122 .u64 (.v 30), .bin 123 .shl .u64 (.v 122) (.l 48), .bin 124 .or .u64 (.v 121) (.v 123), .conv 125 .u64 (.v 31), .bin 126 .shl .u64 (.v 125) (.l 56), .bin 127 .or .u64 (.v 124) (.v 126)]) (refs := [.v 55, .v 79, .v 103, .v 127, .l 0, .l 0, .l 0, .l 0]) (by kernel_rfl) fun ρ hρ hd => ?_
  have hx : ∀ i, i < 32 → ρ i = a.getD i 0 := fun i hi => by
    rw [hρ i hi]; simp only [flat, List.flatten_cons, List.flatten_nil, List.append_nil]
  have hb : ∀ i, i < 32 → 0 ≤ ρ i ∧ ρ i < 256 := fun i hi => by rw [hx i hi]; exact digl (dig8 ia) (by omega)
  have ea : a = (List.range 32).map fun i => ρ (0 + i) := arr_eq la fun i hi => by rw [Nat.zero_add]; exact hx i hi
  simp only [D_nil, D_add, D_sub, D_mul, D_and, D_or, D_xor, D_shl, D_shr, D_andNot, D_quo, D_rem, D_add_i64, D_sub_i64, D_mul_i64, D_add_u32, D_sub_u32, D_mul_u32, D_add_u8, D_sub_u8, D_mul_u8, D_eql, D_neq, D_lss, D_leq, D_gtr, D_geq, D_not, D_conv, D_eqs, D_call, D_cond, D_need, D_idx, D_sel, D_upd, D_shv, D_beq, List.map_cons, List.map_nil, Ref.den] at hd
  obtain ⟨hc0, hs0, ho0, hc1, hs1, ho1, hc2, hs2, ho2, hc3, hs3, ho3, hc4, hs4, ho4, hc5, hs5, ho5, hc6, hs6, ho6, hc7, hs7, ho7, hc8, hs8, ho8, hc9, hs9, ho9, hc10, hs10, ho10, hc11, hs11, ho11, hc12, hs12, ho12, hc13, hs13, ho13, hc14, hs14, ho14, hc15, hs15, ho15, hc16, hs16, ho16, hc17, hs17, ho17, hc18, hs18, ho18, hc19, hs19, ho19, hc20, hs20, ho20, hc21, hs21, ho21, hc22, hs22, ho22, hc23, hs23, ho23, hc24, hs24, ho24, hc25, hs25, ho25, hc26, hs26, ho26, hc27, hs27, ho27, hc28, hs28, ho28, hc29, hs29, ho29, hc30, hs30, ho30, hc31, hs31, ho31, -⟩ := hd
  have w0 := bytes8 (hb 0 (by decide)) hc0 hs0 ho0 (hb 1 (by decide)) hc1 hs1 ho1 (hb 2 (by decide)) hc2 hs2 ho2 (hb 3 (by decide)) hc3 hs3 ho3 (hb 4 (by decide)) hc4 hs4 ho4 (hb 5 (by decide)) hc5 hs5 ho5 (hb 6 (by decide)) hc6 hs6 ho6 (hb 7 (by decide)) hc7 hs7 ho7
  have w1 := bytes8 (hb 8 (by decide)) hc8 hs8 ho8 (hb 9 (by decide)) hc9 hs9 ho9 (hb 10 (by decide)) hc10 hs10 ho10 (hb 11 (by decide)) hc11 hs11 ho11 (hb 12 (by decide)) hc12 hs12 ho12 (hb 13 (by decide)) hc13 hs13 ho13 (hb 14 (by decide)) hc14 hs14 ho14 (hb 15 (by decide)) hc15 hs15 ho15
  have w2 := bytes8 (hb 16 (by decide)) hc16 hs16 ho16 (hb 17 (by decide)) hc17 hs17 ho17 (hb 18 (by decide)) hc18 hs18 ho18 (hb 19 (by decide)) hc19 hs19 ho19 (hb 20 (by decide)) hc20 hs20 ho20 (hb 21 (by decide)) hc21 hs21 ho21 (hb 22 (by decide)) hc22 hs22 ho22 (hb 23 (by decide)) hc23 hs23 ho23
  have w3 := bytes8 (hb 24 (by decide)) hc24 hs24 ho24 (hb 25 (by decide)) hc25 hs25 ho25 (hb 26 (by decide)) hc26 hs26 ho26 (hb 27 (by decide)) hc27 hs27 ho27 (hb 28 (by decide)) hc28 hs28 ho28 (hb 29 (by decide)) hc29 hs29 ho29 (hb 30 (by decide)) hc30 hs30 ho30 (hb 31 (by decide)) hc31 hs31 ho31
  clear hc0 hs0 ho0 hc1 hs1 ho1 hc2 hs2 ho2 hc3 hs3 ho3 hc4 hs4 ho4 hc5 hs5 ho5 hc6 hs6 ho6 hc7 hs7 ho7 hc8 hs8 ho8 hc9 hs9 ho9 hc10 hs10 ho10 hc11 hs11 ho11 hc12 hs12 ho12 hc13 hs13 ho13 hc14 hs14 ho14 hc15 hs15 ho15 hc16 hs16 ho16 hc17 hs17 ho17 hc18 hs18 ho18 hc19 hs19 ho19 hc20 hs20 ho20 hc21 hs21 ho21 hc22 hs22 ho22 hc23 hs23 ho23 hc24 hs24 ho24 hc25 hs25 ho25 hc26 hs26 ho26 hc27 hs27 ho27 hc28 hs28 ho28 hc29 hs29 ho29 hc30 hs30 ho30 hc31 hs31 ho31
  refine ⟨by simp only [G_nil, G_bin, G_cmp, G_not, G_conv, G_eqs, G_call, G_cond, G_need, G_idx, G_sel, G_upd, G_shv, G_beq, List.map_cons, List.map_nil, Ref.den], ?_⟩
  show [ρ 55, ρ 79, ρ 103, ρ 127, 0, 0, 0, 0] = dg MM 8 (dv 256 a)
  refine dg_eq MM_pos rfl ((Dig.cons w0.2.1 w0.2.2 (Dig.cons w1.2.1 w1.2.2 (Dig.cons w2.2.1 w2.2.2 (Dig.cons w3.2.1 w3.2.2 (Dig.cons (by decide) (by decide) (Dig.cons (by decide) (by decide) (Dig.cons (by decide) (by decide) (Dig.cons (by decide) (by decide) Dig.nil))))))))) ?_
  rw [ea]
  show dv MM [ρ 55, ρ 79, ρ 103, ρ 127, 0, 0, 0, 0] = dv 256 ([ρ 0, ρ 1, ρ 2, ρ 3, ρ 4, ρ 5, ρ 6, ρ 7] ++ ([ρ 8, ρ 9, ρ 10, ρ 11, ρ 12, ρ 13, ρ 14, ρ 15] ++ ([ρ 16, ρ 17, ρ 18, ρ 19, ρ 20, ρ 21, ρ 22, ρ 23] ++ ([ρ 24, ρ 25, ρ 26, ρ 27, ρ 28, ρ 29, ρ 30, ρ 31]))))
  have := of_bytes [ρ 0, ρ 1, ρ 2, ρ 3, ρ 4, ρ 5, ρ 6, ρ 7] [ρ 8, ρ 9, ρ 10, ρ 11, ρ 12, ρ 13, ρ 14, ρ 15] [ρ 16, ρ 17, ρ 18, ρ 19, ρ 20, ρ 21, ρ 22, ρ 23] [ρ 24, ρ 25, ρ 26, ρ 27, ρ 28, ρ 29, ρ 30, ρ 31] rfl rfl rfl rfl 0
  simp only [Int.mul_zero, Int.add_zero] at this
  rw [← w0.1, ← w1.1, ← w2.1, ← w3.1] at this
  rw [← this]
  simp only [dv, MM]
  omega
set_option maxRecDepth 100000 in
theorem okFrom64 : CtrOK Try.prog sfns cFrom64 := by
  refine CtrOK.of okT0 mixed (lf := 300) (d := 5) rfl fun w vs xs ha _ => ?_
  obtain ⟨v, a, rfl, rfl, ⟨la, -, ia⟩⟩ := open1 ha
  refine Go.Sx.Way.of (dec := []) (fs := [.conv 64 .u64 (.v 0), .bin 65 .shl .u64 (.v 64) (.l 0), .bin 66 .or .u64 (.l 0) (.v 65), .conv 67 .u64 (.v 1), .bin 68 .shl .u64 (.v 67) (.l 8), .bin 69 .or .u64 (.v 66) (.v 68), .conv 70 .u64 (.v 2), .bin 71 .shl .u64 (.v 70) (.l 16), .bin 72 .or .u64 (.v 69) (.v 71), .conv 73 .u64 (.v 3), .bin 74 .shl .u64 (.v 73) (.l 24), .bin 75 .or .u64 (.v 72) (.v 74), .conv 76 .u64 (.v 4), .bin 77 .shl .u64 (.v 76) (.l 32), .bin 78 .or .u64 (.v 75) (.v 77), .conv 79 .u64 (.v 5), .bin 80 .shl .u64 (.v 79) (.l 40), .bin 81 .or .u64 (.v 78) (.v 80), .conv 82 .u64 (.v 6), .bin 83 .shl .u64 (.v 82) (.l 48), .bin 84 .or .u64 (.v 81) (.v 83), .conv 85 .u64 (.v 7), .bin 86 .shl .u64 (.v 85) (.l 56), .bin 87 .or .u64 (.v 84) (.v 86), .conv 88 .u64 (.v 8), .bin 89 .shl .u64 (.v 88) (.l 0), .bin 90 .or .u64 (.l 0) (.v 89), .conv 91 .u64 (.v 9), .bin 92 .shl .u64 (.v 91) (.l 8), .bin 93 .or .u64 (.v 90) (.v 92), .conv 94 .u64 (.v 10), .bin 95 .shl .u64 (.v 94) (.l 16), .bin 96 .or .u64 (.v 93) (.v 95), .conv 97 .u64 (.v 11), .bin 98 .shl .u64 (.v 97) (.l 24), .bin 99 .or .u64 (.v 96) (.v 98), .conv 100 .u64 (.v 12), .bin 101 .shl .u64 (.v 100) (.l 32), .bin 102 .or .u64 (.v 99) (.v 101), .conv 103 .u64 (.v 13), .bin 104 .shl .u64 (.v 103) (.l 40), .bin 105 .or .u64 (.v 102) (.v 104), .conv 106 .u64 (.v 14), .bin 107 .shl .u64 (.v 106) (.l 48), .bin 108 .or .u64 (.v 105) (.v 107), .conv 109 .u64 (.v 15), .bin 110 .shl .u64 (.v 109) (.l 56), .bin 111 .or .u64 (.v 108) (.v 110), .conv 112 .u64 (.v 16), .bin 113 .shl .u64 (.v 112) (.l 0), .bin 114 .or .u64 (.l 0) (.v 113), .conv 115 .u64 (.v 17), .bin 116 .shl .u64 (.v 115) (.l 8), .bin 117 .or .u64 (.v 114) (.v 116), .conv 118 .u64 (.v 18), .bin 119 .shl .u64 (.v 118) (.l 16), .bin 120 .or .u64 (.v 117) (.v 119), .conv 121 .u64 (.v 19), .bin 122 .shl .u64 (.v 121) (.l 24), .bin 123 .or .u64 (.v 120) (.v 122), .conv 124 .u64 (.v 20), .bin 125 .shl .u64 (.v 124) (.l 32), .bin 126 .or .u64 (.v 123) (.v 125), .conv 127 .u64 (.v 21), .bin 128 .shl .u64 (.v 127) (.l 40), .bin 129 .or .u64 (.v 126) (.v 128), .conv 130 .u64 (.v 22), .bin 131 .shl .u64 (.v 130) (.l 48), .bin 132 .or .u64 (.v 129) (.v 131), .conv 133 .u64 (.v 23), .bin 134 .shl .u64 (.v 133) (.l 56), .bin 135 .or .u64 (.v 132) (.v 134), .conv 136 .u64 (.v 24), .bin 137 .shl .u64 (.v 136) (.l 0), .bin 138 .or .u64 (.l 0) (.v 137), .conv 139 .u64 (.v 25), .bin 140 .shl .u64 (.v 139) (.l 8), .bin 141 .or .u64 (.v 138) (.v 140), .conv 142 .u64 (.v 26), .bin 143 .shl .u64 (.v 142) (.l 16), .bin 144 .or .u64 (.v 141) (.v 143), .conv 145 .u64 (.v 27), .bin 146 .shl .u64 (.v 145) (.l 24), .bin 147 .or .u64 (.v 144) (.v 146), .conv 148 .u64 (.v 28), .bin 149 .shl .u64 (.v 148) (.l 32), .bin 150 .or .u64 (.v 147) (.v 149), .conv 151 .u64 (.v 29), .bin 152 .shl .u64 (.v 151) (.l 40), .bin 153 .or .u64 (.v 150) (.v 152), .conv 154 .u64 (.v 30), .bin 155 .shl .u64 (.v 154) (.l 48), .bin 156 .or .u64 (.v 153) (.v 155), .conv 157 .u64 (.v 31), .bin 158 .shl .u64 (.v 157) (.l 56), .bin 159 .or .u64 (.v 156) (.v 158), .conv 160 .u64 (.v 32), .bin 161 .shl .u64 (.v 160) (.l 0), .bin 162 .or .u64 (.l 0) (.v 161), .conv 163 .u64 (.v 33), .bin 164 .shl .u64 (.v 163) (.l 8), .bin 165 .or .u64 (.v 162) (.v 164), .conv 166 .u64 (.v 34), .bin 167 .shl .u64 (.v 166) (.l 16), .bin 168 .or .u64 (.v 165) (.v 167), .conv 169 .u64 (.v 35), .bin 170 .shl .u64 (.v 169) (.l 24), .bin 171 .or .u64 (.v 168) (.v 170), .conv 172 .u64 (.v 36), .bin 173 .shl .u64 (.v 172) (.l 32), .bin 174 .or .u64 (.v 171) (.v 173), .conv 175 .u64 (.v 37), .bin 176 .shl .u64 (.v 175) (.l 40), .bin 177 .or .u64 (.v 174) (.v 176), .conv 178 .u64 (.v 38), .bin 179 .shl .u64 (.v 178) (.l 48), .bin 180 .or .u64 (.v 177) (.v 179), .conv 181 .u64 (.v 39), .bin 182 .shl .u64 (.v 181) (.l 56), .bin 183 .or .u64 (.v 180) (.v 182), .conv 184 .u64 (.v 40), .bin 185 .shl .u64 (.v 184) (.l 0), .bin 186 .or .u64 (.l 0) (.v 185), .conv 187 .u64 (.v 41), .bin 188 .shl .u64 (.v 187) (.l 8), .bin 189 .or .u64 (.v 186) (.v 188), .conv 190 .u64 (.v 42), .bin 191 .shl .u64 (.v 190) (.l 16), .bin 192 .or .u64 (.v 189) (.v 191), .conv 193 .u64 (.v 43), .bin 194 .shl .u64 (.v 193) (.l 24), .bin 195 .or .u64 (.v 192) (.v 194), .conv 196 .u64 (.v 44), .bin 197 .shl .u64 (.v 196) (.l 32), .bin 198 .or .u64 (.v 195) (.v 197), .conv 199 .u64 (.v 45), .bin 200 .shl .u64 (.v 199) (.l 40), .bin 201 .or .u64 (.v 198) (.v 200), .conv 202 .u64 (.v 46), .bin 203 .shl .u64 (.v 202) (.l 48), .bin 204 .or .u64 (.v 201) (.v 203), .conv 205 .u64 (.v 47), .bin 206 .shl .u64 (.v 205) (.l 56), .bin 207 .or .u64 (.v 204) (.v 206), .conv 208 .u64 (.v 48), .bin 209 .shl .u64 (.v 208) (.l 0), .bin 210 .or .u64 (.l 0) (.v 209), .conv 211 .u64 (.v 49), .bin 212 .shl .u64 (.v 211) (.l 8), .bin 213 .or .u64 (.v 210) (.v 212), .conv 214 .u64 (.v 50), .bin 215 .shl .u64 (.v 214) (.l 16), .bin 216 .or .u64 (.v 213) (.v 215), .conv 217 .u64 (.v 51), .bin 218 .shl .u64 (.v 217) (.l 24), .bin 219 .or .u64 (.v 216) (.v 218), .conv 220 .u64 (.v 52), .bin 221 .shl .u64 (.v 220) (.l 32), .bin 222 .or .u64 (.v 219) (.v 221), .conv 223 .u64 (.v 53), .bin 224 .shl .u64 (.v 223) (.l 40), .bin 225 .or .u64 (.v 222) (.v 224), .conv 226 .u64 (.v 54), .bin 227 .shl .u64 (.v 226) (.l 48), .bin 228 .or .u64 (.v 225) (.v 227), .conv 229 .u64 (.v 55), .bin 230 .shl .u64 (.v 229) (.l 56), .bin 231 .or .u64 (.v 228) (.v 230), .conv 232 .u64 (.v 56), .bin 233 .shl .u64 (.v 232) (.l 0), .bin 234 .or .u64 (.l 0) (.v 233), .conv 235 .u64 (.v 57), .bin 236 .shl .u64 (.v 235) (.l 8), .bin 237 .or .u64 (.v 234) (.v 236), .conv 238 .u64 (.v 58), .bin 239 .shl .u64 (.v 238) (.l 16), .bin 240 .or .u64 (.v 237) (.v 239), .conv 241 .u64 (.v 59), .bin 242 .shl .u64 (.v 241) (.l 24), .bin 243 .or .u64 (.v 240) (.v 242), .conv 244 .u64 (.v 60), .bin 245 .shl .u64 (.v 244) (.l 32), .bin 246 .or .u64 (.v 243) (.v 245), .conv 247 .u64 (.v 61), .bin 248 .shl .u64 (.v 247) (.l 40), .bin 249 .or .u64 (.v 246) (.v 248), .conv 250 .u64 (.v 62), .bin 251 .shl .u64 (.v 250) (.l 48), .bin 252 .or .u64 (.v 249) (.v 251), .conv 253 .u64 (.v 63), .bin 254 .shl .u64 (.v 253) (.l 56), .bin 255 .or .u64 (.v 252) (.v 254)]) (refs := [.v 87, .v 111, .v 135, .v 159, .v 183, .v 207, .v 231, .v 255]) (by kernel_rfl) fun ρ hρ hd => ?_
  have hx : ∀ i, i < 64 → ρ i = a.getD i 0 := fun i hi => by
    rw [hρ i hi]; simp only [flat, List.flatten_cons, List.flatten_nil, List.append_nil]
  have hb : ∀ i, i < 64 → 0 ≤ ρ i ∧ ρ i < 256 := fun i hi => by rw [hx i hi]; exact digl (dig8 ia) (by omega)
  have ea : a = (List.range 64).map fun i => ρ (0 + i) := arr_eq la fun i hi => by rw [Nat.zero_add]; exact hx i hi
  simp only [D_nil, D_add, D_sub, D_mul, D_and, D_or, D_xor, D_shl, D_shr, D_andNot, D_quo, D_rem, D_add_i64, D_sub_i64, D_mul_i64, D_add_u32, D_sub_u32, D_mul_u32, D_add_u8, D_sub_u8, D_mul_u8, D_eql, D_neq, D_lss, D_leq, D_gtr, D_geq, D_not, D_conv, D_eqs, D_call, D_cond, D_need, D_idx, D_sel, D_upd, D_shv, D_beq, List.map_cons, List.map_nil, Ref.den] at hd
  obtain ⟨hc0, hs0, ho0, hc1, hs1, ho1, hc2, hs2, ho2, hc3, hs3, ho3, hc4, hs4, ho4, hc5, hs5, ho5, hc6, hs6, ho6, hc7, hs7, ho7, hc8, hs8, ho8, hc9, hs9, ho9, hc10, hs10, ho10, hc11, hs11, ho11, hc12, hs12, ho12, hc13, hs13, ho13, hc14, hs14, ho14, hc15, hs15, ho15, hc16, hs16, ho16, hc17, hs17, ho17, hc18, hs18, ho18, hc19, hs19, ho19, hc20, hs20, ho20, hc21, hs21, ho21, hc22, hs22, ho22, hc23, hs23, ho23, hc24, hs24, ho24, hc25, hs25, ho25, hc26, hs26, ho26, hc27, hs27, ho27, hc28, hs28, ho28, hc29, hs29, ho29, hc30, hs30, ho30, hc31, hs31, ho31, hc32, hs32, ho32, hc33, hs33, ho33, hc34, hs34, ho34, hc35, hs35, ho35, hc36, hs36, ho36, hc37, hs37, ho37, hc38, hs38, ho38, hc39, hs39, ho39, hc40, hs40, ho40, hc41, hs41, ho41, hc42, hs42, ho42, hc43, hs43, ho43, hc44, hs44, ho44, hc45, hs45, ho45, hc46, hs46, ho46, hc47, hs47, ho47, hc48, hs48, ho48, hc49, hs49, ho49, hc50, hs50, ho50, hc51, hs51, ho51, hc52, hs52, ho52, hc53, hs53, ho53, hc54, hs54, ho54, hc55, hs55, ho55, hc56, hs56, ho56, hc57, hs57, ho57, hc58, hs58, ho58, hc59, hs59, ho59, hc60, hs60, ho60, hc61, hs61, ho61, hc62, hs62, ho62, hc63, hs63, ho63, -⟩ := hd
  have w0 := bytes8 (hb 0 (by decide)) hc0 hs0 ho0 (hb 1 (by decide)) hc1 hs1 ho1 (hb 2 (by decide)) hc2 hs2 ho2 (hb 3 (by decide)) hc3 hs3 ho3 (hb 4 (by decide)) hc4 hs4 ho4 (hb 5 (by decide)) hc5 hs5 ho5 (hb 6 (by decide)) hc6 hs6 ho6 (hb 7 (by decide)) hc7 hs7 ho7
  have w1 := bytes8 (hb 8 (by decide)) hc8 hs8 ho8 (hb 9 (by decide)) hc9 hs9 ho9 (hb 10 (by decide)) hc10 hs10 ho10 (hb 11 (by decide)) hc11 hs11 ho11 (hb 12 (by decide)) hc12 hs12 ho12 (hb 13 (by decide)) hc13 hs13 ho13 (hb 14 (by decide)) hc14 hs14 ho14 (hb 15 (by decide)) hc15 hs15 ho15
  have w2 := bytes8 (hb 16 (by decide)) hc16 hs16 ho16 (hb 17 (by decide)) hc17 hs17 ho17 (hb 18 (by decide)) hc18 hs18 ho18 (hb 19 (by decide)) hc19 hs19 ho19 (hb 20 (by decide)) hc20 hs20 ho20 (hb 21 (by decide)) hc21 hs21 ho21 (hb 22 (by decide)) hc22 hs22 ho22 (hb 23 (by decide)) hc23 hs23 ho23
  have w3 := bytes8 (hb 24 (by decide)) hc24 hs24 ho24 (hb 25 (by decide)) hc25 hs25 ho25 (hb 26 (by decide)) hc26 hs26 ho26 (hb 27 (by decide)) hc27 hs27 ho27 (hb 28 (by decide)) hc28 hs28 ho28 (hb 29 (by decide)) hc29 hs29 ho29 (hb 30 (by decide)) hc30 hs30 ho30 (hb 31 (by decide)) hc31 hs31 ho31
  have w4 := bytes8 (hb 32 (by decide)) hc32 hs32 ho32 (hb 33 (by decide)) hc33 hs33 ho33 (hb 34 (by decide)) hc34 hs34 ho34 (hb 35 (by decide)) hc35 hs35 ho35 (hb 36 (by decide)) hc36 hs36 ho36 (hb 37 (by decide)) hc37 hs37 ho37 (hb 38 (by decide)) hc38 hs38 ho38 (hb 39 (by decide)) hc39 hs39 ho39
  have w5 := bytes8 (hb 40 (by decide)) hc40 hs40 ho40 (hb 41 (by decide)) hc41 hs41 ho41 (hb 42 (by decide)) hc42 hs42 ho42 (hb 43 (by decide)) hc43 hs43 ho43 (hb 44 (by decide)) hc44 hs44 ho44 (hb 45 (by decide)) hc45 hs45 ho45 (hb 46 (by decide)) hc46 hs46 ho46 (hb 47 (by decide)) hc47 hs47 ho47
  have w6 := bytes8 (hb 48 (by decide)) hc48 hs48 ho48 (hb 49 (by decide)) hc49 hs49 ho49 (hb 50 (by decide)) hc50 hs50 ho50 (hb 51 (by decide)) hc51 hs51 ho51 (hb 52 (by decide)) hc52 hs52 ho52 (hb 53 (by decide)) hc53 hs53 ho53 (hb 54 (by decide)) hc54 hs54 ho54 (hb 55 (by decide)) hc55 hs55 ho55
  have w7 := bytes8 (hb 56 (by decide)) hc56 hs56 ho56 (hb 57 (by decide)) hc57 hs57 ho57 (hb 58 (by decide)) hc58 hs58 ho58 (hb 59 (by decide)) hc59 hs59 ho59 (hb 60 (by decide)) hc60 hs60 ho60 (hb 61 (by decide)) hc61 hs61 ho61 (hb 62 (by decide)) hc62 hs62 ho62 (hb 63 (by decide)) hc63 hs63 ho63
  clear hc0 hs0 ho0 hc1 hs1 ho1 hc2 hs2 ho2 hc3 hs3 ho3 hc4 hs4 ho4 hc5 hs5 ho5 hc6 hs6 ho6 hc7 hs7 ho7 hc8 hs8 ho8 hc9 hs9 ho9 hc10 hs10 ho10 hc11 hs11 ho11 hc12 hs12 ho12 hc13 hs13 ho13 hc14 hs14 ho14 hc15 hs15 ho15 hc16 hs16 ho16 hc17 hs17 ho17 hc18 hs18 ho18 hc19 hs19 ho19 hc20 hs20 ho20 hc21 hs21 ho21 hc22 hs22 ho22 hc23 hs23 ho23 hc24 hs24 ho24 hc25 hs25 ho25 hc26 hs26 ho26 hc27 hs27 ho27 hc28 hs28 ho28 hc29 hs29 ho29 hc30 hs30 ho30 hc31 hs31 ho31 hc32 hs32 ho32 hc33 hs33 ho33 hc34 hs34 ho34 hc35 hs35 ho35 hc36 hs36 ho36 hc37 hs37 ho37 hc38 hs38 ho38 hc39 hs39 ho39 hc40 hs40 ho40 hc41 hs41 ho41 hc42 hs42 ho42 hc43 hs43 ho43 hc44 hs44 ho44 hc45 hs45 ho45 hc46 hs46 ho46 hc47 hs47 ho47 hc48 hs48 ho48 hc49 hs49 ho49 hc50 hs50 ho50 hc51 hs51 ho51 hc52 hs52 ho52 hc53 hs53 ho53 hc54 hs54 ho54 hc55 hs55 ho55 hc56 hs56 ho56 hc57 hs57 ho57 hc58 hs58 ho58 hc59 hs59 ho59 hc60 hs60 ho60 hc61 hs61 ho61 hc62 hs62 ho62 hc63 hs63 ho63
  refine ⟨by simp only [G_nil, G_bin, G_cmp, G_not, G_conv, G_eqs, G_call, G_cond, G_need, G_idx, G_sel, G_upd, G_shv, G_beq, List.map_cons, List.map_nil, Ref.den], ?_⟩
  show [ρ 87, ρ 111, ρ 135, ρ 159, ρ 183, ρ 207, ρ 231, ρ 255] = dg MM 8 (dv 256 a)
  refine dg_eq MM_pos rfl ((Dig.cons w0.2.1 w0.2.2 (Dig.cons w1.2.1 w1.2.2 (Dig.cons w2.2.1 w2.2.2 (Dig.cons w3.2.1 w3.2.2 (Dig.cons w4.2.1 w4.2.2 (Dig.cons w5.2.1 w5.2.2 (Dig.cons w6.2.1 w6.2.2 (Dig.cons w7.2.1 w7.2.2 Dig.nil))))))))) ?_
  rw [ea]
  show dv MM [ρ 87, ρ 111, ρ 135, ρ 159, ρ 183, ρ 207, ρ 231, ρ 255] = dv 256 ([ρ 0, ρ 1, ρ 2, ρ 3, ρ 4, ρ 5, ρ 6, ρ 7] ++ ([ρ 8, ρ 9, ρ 10, ρ 11, ρ 12, ρ 13, ρ 14, ρ 15] ++ ([ρ 16, ρ 17, ρ 18, ρ 19, ρ 20, ρ 21, ρ 22, ρ 23] ++ ([ρ 24, ρ 25, ρ 26, ρ 27, ρ 28, ρ 29, ρ 30, ρ 31] ++ ([ρ 32, ρ 33, ρ 34, ρ 35, ρ 36, ρ 37, ρ 38, ρ 39] ++ ([ρ 40, ρ 41, ρ 42, ρ 43, ρ 44, ρ 45, ρ 46, ρ 47] ++ ([ρ 48, ρ 49, ρ 50, ρ 51, ρ 52, ρ 53, ρ 54, ρ 55] ++ ([ρ 56, ρ 57, ρ 58, ρ 59, ρ 60, ρ 61, ρ 62, ρ 63]))))))))
  have q2 := of_bytes [ρ 32, ρ 33, ρ 34, ρ 35, ρ 36, ρ 37, ρ 38, ρ 39] [ρ 40, ρ 41, ρ 42, ρ 43, ρ 44, ρ 45, ρ 46, ρ 47] [ρ 48, ρ 49, ρ 50, ρ 51, ρ 52, ρ 53, ρ 54, ρ 55] [ρ 56, ρ 57, ρ 58, ρ 59, ρ 60, ρ 61, ρ 62, ρ 63] rfl rfl rfl rfl 0
  simp only [Int.mul_zero, Int.add_zero] at q2
  rw [← w4.1, ← w5.1, ← w6.1, ← w7.1] at q2
  have q1 := of_bytes [ρ 0, ρ 1, ρ 2, ρ 3, ρ 4, ρ 5, ρ 6, ρ 7] [ρ 8, ρ 9, ρ 10, ρ 11, ρ 12, ρ 13, ρ 14, ρ 15] [ρ 16, ρ 17, ρ 18, ρ 19, ρ 20, ρ 21, ρ 22, ρ 23] [ρ 24, ρ 25, ρ 26, ρ 27, ρ 28, ρ 29, ρ 30, ρ 31] rfl rfl rfl rfl 0
  simp only [Int.mul_zero, Int.add_zero] at q1
  rw [← w0.1, ← w1.1, ← w2.1, ← w3.1] at q1
  have q3 : ∀ (l0 l1 l2 l3 m : List Int), l0.length = 8 → l1.length = 8 → l2.length = 8 → l3.length = 8 → dv 256 (l0 ++ (l1 ++ (l2 ++ (l3 ++ m)))) = dv 256 (l0 ++ (l1 ++ (l2 ++ l3))) + 256 ^ 32 * dv 256 m := fun l0 l1 l2 l3 m h0 h1 h2 h3 => by
    have : l0 ++ (l1 ++ (l2 ++ (l3 ++ m))) = (l0 ++ (l1 ++ (l2 ++ l3))) ++ m := by simp only [List.append_assoc]
    rw [this, dv_append]
    simp only [List.length_append, h0, h1, h2, h3]
  rw [q3 _ _ _ _ _ rfl rfl rfl rfl, ← q2, ← q1]
  simp only [dv, MM, Int.reducePow]
  omega
end Go.Proofs.Ytfobnajgnnccmaa.Sc

namespace Go.Bs
open Go.Bx
theorem cutZ_mod {z : Int} (h0 : 0 ≤ z) (h1 : z < 2 * LL) : cutZ z = z % LL := by
  unfold cutZ; split
  · exact (Int.emod_eq_of_lt h0 ‹_›).symm
  · rw [← Int.sub_emod_right z LL, Int.emod_eq_of_lt (by omega) (by omega)]
theorem cut_step (X : Int) (n : Nat) : cutZ (2 * (X / 2 ^ (n + 1) % LL) + X / 2 ^ n % 2) = X / 2 ^ n % LL := by
  have hL := LL_lt.1
  have h1 := Int.emod_nonneg (X / 2 ^ (n + 1)) (b := LL) (by omega)
  have h2 := Int.emod_lt_of_pos (X / 2 ^ (n + 1)) hL
  have h3 := Int.emod_nonneg (X / 2 ^ n) (b := 2) (by omega)
  have h4 := Int.emod_lt_of_pos (X / 2 ^ n) (b := 2) (by omega)
  rw [cutZ_mod (by omega) (by omega), mod_step]
theorem MM_two : (2 : Int) ^ 64 = MM := by decide
theorem len9 {a : Nat → Int} {n : Nat} {f : Nat → Int} (h : ∀ i, i < n → a i = f i) : (List.range n).map a = (List.range n).map f := List.map_congr_left fun i hi => h i (List.mem_range.1 hi)
end Go.Bs
namespace Go.Proofs.Ytfobnajgnnccmaa.Sc
open Go.RowKit Go.Bx Go.Bs Go.Sx Go.Ss
set_option linter.unusedSimpArgs false
def cNorm : Ctr := ⟨90, 3, [.arr .u64 8], [.arr .u64 4]⟩
def T2 : List Ctr := [cPlus, cCut]
theorem okT2 : ∀ c ∈ T2, CtrOK Try.prog sfns c := by
  intro c hc
  simp only [T2, List.mem_cons, List.not_mem_nil, or_false] at hc
  rcases hc with rfl | rfl
  · exact okPlus
  · exact okCut
noncomputable def normT : LoopT := ⟨[.any, .c (.ptr 0 0), .c (.ptr 1 0), .c (.ptr 2 0), .c (.int .i64 (.v 0)), .any, .any, .any, .any, .any, .any, .any, .any, .any, .any, .any, .any, .any, .any, .any, .any, .any, .any, .any, .any, .any, .any], [some ⟨100, [.int .u64 (.v 1), .int .u64 (.v 2), .int .u64 (.v 3), .int .u64 (.v 4), .int .u64 (.v 5), .int .u64 (.v 6), .int .u64 (.v 7), .int .u64 (.v 8)]⟩, some ⟨81, [.int .u64 (.l 0), .int .u64 (.l 0), .int .u64 (.l 0), .int .u64 (.l 0)]⟩, some ⟨81, [.int .u64 (.v 9), .int .u64 (.v 10), .int .u64 (.v 11), .int .u64 (.v 12)]⟩], 13, 30, 0, [.l 511, .v 0, .v 1, .v 2, .v 3, .v 4, .v 5, .v 6, .v 7, .l 0, .l 0, .l 0, .l 0]⟩
noncomputable def normB : Code := (Try.f90).body.getD .skip
/-- The long number, in the loop's state. -/
def lx (ρ : Nat → Int) : List Int := [ρ 1, ρ 2, ρ 3, ρ 4, ρ 5, ρ 6, ρ 7, ρ 8]
def normI (ρ0 ρ : Nat → Int) : Prop :=
  lx ρ = lx ρ0 ∧ Dig MM (lx ρ0) ∧ -1 ≤ ρ 0 ∧ ρ 0 ≤ 511 ∧ [ρ 9, ρ 10, ρ 11, ρ 12] = dg MM 4 (dv MM (lx ρ0) / 2 ^ (ρ 0 + 1).toNat % LL)
def normX (ρ : Nat → Int) : Nat → Int := fun i => if i = 0 then ρ 0 - 1 else if i < 9 then ρ i else (dg MM 4 (dv MM (lx ρ) / 2 ^ (ρ 0).toNat % LL)).getD (i - 9) 0
theorem norm_end {cl : Code} (hb : loopAt 0 normB = some cl) {ρ0 ρT : Nat → Int} (hI : normI ρ0 ρT) (hlt : ¬ 0 ≤ ρT 0) :
    ∃ e x', RoundEnd Try.prog sfns (callN Try.prog T2 300 5) 300 cl normT.slT normT.memT normT.m ρT e x' ∧ ((e = .normal ∧ normI ρ0 x' ∧ (x' 0 + 1).toNat < (ρT 0 + 1).toNat) ∨ (e = .exit normT.xid ∧ ∀ i, i < normT.m → x' i = (sfns.g normT.j [xs normT.m ρ0]).getD i 0)) := by
  obtain ⟨i1, i2, i3, i4, i5⟩ := hI
  have hk : roundB Try.prog T2 300 5 (loopAt 0 normB) normT [false] (some 0) [.cmp 13 .geq (.v 0) (.l 0), .cond 13 false] [.v 0, .v 1, .v 2, .v 3, .v 4, .v 5, .v 6, .v 7, .v 8, .v 9, .v 10, .v 11, .v 12] = true := by kernel_rfl
  rw [hb] at hk
  refine ⟨.exit 0, ρT, RoundEnd.of (e := some 0) hk fun ρ hρ hd => ?_, .inr ⟨rfl, ?_⟩⟩
  · have a0 := hρ 0 (by decide)
    simp only [D_nil, D_add, D_sub, D_mul, D_and, D_or, D_xor, D_shl, D_shr, D_andNot, D_quo, D_rem, D_add_i64, D_sub_i64, D_mul_i64, D_add_u32, D_sub_u32, D_mul_u32, D_add_u8, D_sub_u8, D_mul_u8, D_eql, D_neq, D_lss, D_leq, D_gtr, D_geq, D_not, D_conv, D_eqs, D_call, D_cond, D_need, D_idx, D_sel, D_upd, D_shv, D_beq, List.map_cons, List.map_nil, Ref.den, a0] at hd
    obtain ⟨h13, -⟩ := hd
    rw [decide_eq_false hlt] at h13
    refine ⟨by simp only [G_nil, G_bin, G_cmp, G_not, G_conv, G_eqs, G_call, G_cond, G_need, G_idx, G_sel, G_upd, G_shv, G_beq, List.map_cons, List.map_nil, Ref.den, h13]; exact ⟨rfl, trivial⟩, fun i hi => ?_⟩
    rw [← hρ i hi]
    have hi : i < 13 := hi
    match i, hi with
    | 0, _ => rfl
    | 1, _ => rfl
    | 2, _ => rfl
    | 3, _ => rfl
    | 4, _ => rfl
    | 5, _ => rfl
    | 6, _ => rfl
    | 7, _ => rfl
    | 8, _ => rfl
    | 9, _ => rfl
    | 10, _ => rfl
    | 11, _ => rfl
    | 12, _ => rfl
    | n + 13, h => omega
  · have e0 : ρT 0 = -1 := by omega
    rw [e0] at i5
    have hd : dv MM (lx ρ0) / 2 ^ (-1 + 1 : Int).toNat % LL = dv MM (lx ρ0) % LL := by
      show dv MM (lx ρ0) / 1 % LL = _
      rw [Int.ediv_one]
    rw [hd] at i5
    intro i hi
    show ρT i = ([-1] ++ (lx ρ0 ++ dg MM 4 (dv MM (lx ρ0) % LL))).getD i 0
    rw [← i5, ← i1, ← e0]
    have hi : i < 13 := hi
    match i, hi with
    | 0, _ => rfl
    | 1, _ => rfl
    | 2, _ => rfl
    | 3, _ => rfl
    | 4, _ => rfl
    | 5, _ => rfl
    | 6, _ => rfl
    | 7, _ => rfl
    | 8, _ => rfl
    | 9, _ => rfl
    | 10, _ => rfl
    | 11, _ => rfl
    | 12, _ => rfl
    | n + 13, h => omega
theorem norm_go {cl : Code} (hb : loopAt 0 normB = some cl) {ρ0 ρT : Nat → Int} (hI : normI ρ0 ρT) (hge : 0 ≤ ρT 0) :
    ∃ e x', RoundEnd Try.prog sfns (callN Try.prog T2 300 5) 300 cl normT.slT normT.memT normT.m ρT e x' ∧ ((e = .normal ∧ normI ρ0 x' ∧ (x' 0 + 1).toNat < (ρT 0 + 1).toNat) ∨ (e = .exit normT.xid ∧ ∀ i, i < normT.m → x' i = (sfns.g normT.j [xs normT.m ρ0]).getD i 0)) := by
  obtain ⟨i1, i2, i3, i4, i5⟩ := hI
  obtain ⟨n, hn⟩ := Int.eq_ofNat_of_zero_le hge
  have hn511 : n ≤ 511 := by omega
  have hk : roundB Try.prog T2 300 5 (loopAt 0 normB) normT [true] none [.cmp 13 .geq (.v 0) (.l 0), .cond 13 true, .need 10 [[.v 9, .v 10, .v 11, .v 12], [.v 9, .v 10, .v 11, .v 12]], .call 14 10 [[.v 9, .v 10, .v 11, .v 12], [.v 9, .v 10, .v 11, .v 12]] 4, .bin 18 .quo .i64 (.v 0) (.l 64), .idx 18 8, .sel 19 [.v 1, .v 2, .v 3, .v 4, .v 5, .v 6, .v 7, .v 8] 18, .bin 20 .rem .i64 (.v 0) (.l 64), .idx 20 1000000, .shv 21 false .u64 (.v 19) 20, .bin 22 .and .u64 (.v 21) (.l 1), .bin 23 .or .u64 (.v 14) (.v 22), .need 12 [[.v 23, .v 15, .v 16, .v 17]], .call 24 12 [[.v 23, .v 15, .v 16, .v 17]] 4, .bin 28 .sub .i64 (.v 0) (.l 1)] [.v 28, .v 1, .v 2, .v 3, .v 4, .v 5, .v 6, .v 7, .v 8, .v 24, .v 25, .v 26, .v 27] = true := by kernel_rfl
  rw [hb] at hk
  -- the numbers
  obtain ⟨X, hX⟩ : ∃ X, X = dv MM (lx ρ0) := ⟨_, rfl⟩
  obtain ⟨V, hV⟩ : ∃ V, V = X / 2 ^ (n + 1) % LL := ⟨_, rfl⟩
  have hL := LL_lt
  have v0 : 0 ≤ V := by rw [hV]; exact Int.emod_nonneg _ (by omega)
  have v1 : V < LL := by rw [hV]; exact Int.emod_lt_of_pos _ hL.1
  have e1 : (ρT 0 + 1).toNat = n + 1 := by omega
  rw [e1, ← hX, ← hV] at i5
  refine ⟨.normal, normX ρT, RoundEnd.of (e := none) hk fun ρ hρ hd => ?_, .inl ⟨rfl, ⟨i1, i2, ?_, ?_, ?_⟩, ?_⟩⟩
  · have a0 : ρ 0 = (n : Int) := (hρ 0 (by decide)).trans hn
    have ax : lx ρ = lx ρ0 := by
      rw [← i1]
      simp only [lx]
      rw [hρ 1 (by decide), hρ 2 (by decide), hρ 3 (by decide), hρ 4 (by decide), hρ 5 (by decide), hρ 6 (by decide), hρ 7 (by decide), hρ 8 (by decide)]
    have ao : [ρ 9, ρ 10, ρ 11, ρ 12] = dg MM 4 V := by
      rw [← i5, hρ 9 (by decide), hρ 10 (by decide), hρ 11 (by decide), hρ 12 (by decide)]
    have dvo : dv MM [ρ 9, ρ 10, ρ 11, ρ 12] = V := by rw [ao, dv_dg MM_pos, Int.emod_eq_of_lt v0 (by omega)]
    simp only [D_nil, D_add, D_sub, D_mul, D_and, D_or, D_xor, D_shl, D_shr, D_andNot, D_quo, D_rem, D_add_i64, D_sub_i64, D_mul_i64, D_add_u32, D_sub_u32, D_mul_u32, D_add_u8, D_sub_u8, D_mul_u8, D_eql, D_neq, D_lss, D_leq, D_gtr, D_geq, D_not, D_conv, D_eqs, D_call, D_cond, D_need, D_idx, D_sel, D_upd, D_shv, D_beq, List.map_cons, List.map_nil, Ref.den, a0] at hd
    obtain ⟨h13, h14, h18, h19, h20, h21, h22, h23, h24, h28, -⟩ := hd
    rw [decide_eq_true (show (0 : Int) ≤ n by omega)] at h13
    -- the place
    have e18 := i_quo 64 (by decide) (by omega) (by omega) rfl h18
    have e20 := i_rem 64 (by decide) (by omega) rfl h20
    have e19 : ρ 19 = (lx ρ0).getD (n / 64) 0 := by
      have e : ((n : Int) / 64).toNat = n / 64 := by omega
      rw [h19, ← ax, e18]
      show (lx ρ).getD ((n : Int) / 64).toNat 0 = _
      rw [e]
    have lx8 : (lx ρ0).length = 8 := rfl
    have r19 := digl i2 (i := n / 64) (by rw [lx8]; omega)
    rw [← e19] at r19
    have e21 := shv_r (n % 64) (by show n % 64 ≤ 64; omega) h21 (by rw [e20]; omega)
    have r21 : 0 ≤ ρ 21 ∧ ρ 21 < 18446744073709551616 := by
      have hp : (0 : Int) < 2 ^ (n % 64) := Int.pow_pos (by omega)
      have q1 : 0 ≤ ρ 21 := by rw [e21]; exact Int.ediv_nonneg r19.1 (by omega)
      have q2 : ρ 21 ≤ ρ 19 := by rw [e21]; exact Int.ediv_le_self _ r19.1
      have := r19.2; unfold MM at this; omega
    have e22 := u_and 1 (by decide) r21.1 r21.2 rfl h22
    have bit : ρ 22 = X / 2 ^ n % 2 := by
      rw [e22, e21, e19, hX]
      have := bit_of (w := 64) (l := lx ρ0) (i := n / 64) (r := n % 64) (by rw [MM_two]; exact i2) (by rw [lx8]; omega) (by omega)
      rw [MM_two] at this
      rw [show (2 : Int) ^ 1 = 2 by decide, this]
      congr 3; omega
    have b0 : 0 ≤ ρ 22 ∧ ρ 22 < 2 := by rw [bit]; omega
    -- the sum
    have k14 : ∀ i, i < 4 → ρ (14 + i) = (dg MM 4 (V + V)).getD i 0 := fun i hi => by
      rw [h14 i hi]
      show (dg MM 4 (dv MM [ρ 9, ρ 10, ρ 11, ρ 12] + dv MM [ρ 9, ρ 10, ρ 11, ρ 12])).getD i 0 = _
      rw [dvo]
    have s14 : [ρ 14, ρ 15, ρ 16, ρ 17] = dg MM 4 (V + V) := (arr_eq (dg_len _ _ _) k14).symm
    have d14 : dv MM [ρ 14, ρ 15, ρ 16, ρ 17] = V + V := by rw [s14, dv_dg MM_pos, Int.emod_eq_of_lt (by omega) (by omega)]
    have e14 : ρ 14 = (V + V) % MM := by have := k14 0 (by decide); simpa [dg] using this
    have dig14 : Dig MM [ρ 14, ρ 15, ρ 16, ρ 17] := by rw [s14]; exact dg_dig MM_pos _ _
    have e23 : ρ 23 = ρ 14 + ρ 22 := by
      refine u_orl 1 b0.1 b0.2 (ρ 14 / 2) ?_ ?_ ?_ ?_ h23
      · rw [e14]; unfold MM; omega
      · rw [e14]; unfold MM; omega
      · rw [e14]; unfold MM; omega
      · omega
    have d23 : dv MM [ρ 23, ρ 15, ρ 16, ρ 17] = 2 * V + X / 2 ^ n % 2 := by
      rw [← bit, e23]
      simp only [dv] at d14 ⊢
      omega
    have k24 : ∀ i, i < 4 → ρ (24 + i) = (dg MM 4 (X / 2 ^ n % LL)).getD i 0 := fun i hi => by
      rw [h24 i hi]
      show (dg MM 4 (cutZ (dv MM [ρ 23, ρ 15, ρ 16, ρ 17]))).getD i 0 = _
      rw [d23, hV, cut_step]
    refine ⟨?_, fun i hi => ?_⟩
    · simp only [G_nil, G_bin, G_cmp, G_not, G_conv, G_eqs, G_call, G_cond, G_need, G_idx, G_sel, G_upd, G_shv, G_beq, List.map_cons, List.map_nil, Ref.den, h13]
      refine ⟨rfl, trivial, ⟨?_, ?_⟩, ⟨?_, ?_⟩, trivial, trivial⟩ <;> omega
    · have hi : i < 13 := hi
      have e28 : ρ 28 = ρT 0 - 1 := by rw [h28, hn, IntKind.wrap_i64]; omega
      have fin : ∀ i, i < 4 → ρ (24 + i) = (dg MM 4 (dv MM (lx ρT) / 2 ^ (ρT 0).toNat % LL)).getD i 0 := fun i hi => by
        rw [k24 i hi, i1, ← hX, show (ρT 0).toNat = n by omega]
      match i, hi with
      | 0, _ => exact e28
      | 1, _ => exact hρ 1 (by decide)
      | 2, _ => exact hρ 2 (by decide)
      | 3, _ => exact hρ 3 (by decide)
      | 4, _ => exact hρ 4 (by decide)
      | 5, _ => exact hρ 5 (by decide)
      | 6, _ => exact hρ 6 (by decide)
      | 7, _ => exact hρ 7 (by decide)
      | 8, _ => exact hρ 8 (by decide)
      | 9, _ => exact fin 0 (by decide)
      | 10, _ => exact fin 1 (by decide)
      | 11, _ => exact fin 2 (by decide)
      | 12, _ => exact fin 3 (by decide)
      | n + 13, h => omega
  · show -1 ≤ ρT 0 - 1; omega
  · show ρT 0 - 1 ≤ 511; omega
  · have e : normX ρT 0 = ρT 0 - 1 := rfl
    rw [e, show (ρT 0 - 1 + 1).toNat = (ρT 0).toNat by congr 1; omega, ← i1]
    exact (arr_eq (a := dg MM 4 (dv MM (lx ρT) / 2 ^ (ρT 0).toNat % LL)) (n := 4) (o := 9) (ρ := normX ρT) (dg_len _ _ _) fun i hi => by
      show (if 9 + i = 0 then _ else if 9 + i < 9 then _ else _) = _
      rw [if_neg (by omega), if_neg (by omega), Nat.add_sub_cancel_left]).symm
  · show (ρT 0 - 1 + 1).toNat < _; omega
theorem okNorm : CtrOK Try.prog sfns cNorm := by
  refine CtrOK.ofL (t := normT) (k := 0) (fn := Try.f90) (body := normB) okT2 mixed (lf := 300) (d := 5) (by kernel_rfl) (by kernel_rfl) ?_ rfl fun w vs xs ha _ => ?_
  · intro cl hcl
    refine ⟨normI, fun ρ => (ρ 0 + 1).toNat, fun ρ0 hT hp => ?_, fun ρ0 ρT _ hI => ?_⟩
    · obtain ⟨p1, p2⟩ : ρ0 0 = 511 ∧ [ρ0 9, ρ0 10, ρ0 11, ρ0 12] = [0, 0, 0, 0] := hp
      have hdig : Dig MM (lx ρ0) := dig64 fun z hz => by
        have hm : ∀ c ∈ [C.int .u64 (.v 1), .int .u64 (.v 2), .int .u64 (.v 3), .int .u64 (.v 4), .int .u64 (.v 5), .int .u64 (.v 6), .int .u64 (.v 7), .int .u64 (.v 8)], C.inr ρ0 c := hT.m _ (List.mem_cons_self ..)
        simp only [lx, List.mem_cons, List.not_mem_nil, or_false] at hz
        have hc : ∀ i, i ∈ [1, 2, 3, 4, 5, 6, 7, 8] → InR .u64 (ρ0 i) := fun i hi => hm (.int .u64 (.v i)) (by
          simp only [List.mem_cons, List.not_mem_nil, or_false] at hi
          rcases hi with rfl | rfl | rfl | rfl | rfl | rfl | rfl | rfl <;> simp)
        rcases hz with rfl | rfl | rfl | rfl | rfl | rfl | rfl | rfl <;> exact hc _ (by simp)
      refine ⟨rfl, hdig, by omega, by omega, ?_⟩
      rw [p2, p1]
      have hb := dv_bound MM_pos hdig
      have e : dv MM (lx ρ0) / 2 ^ (511 + 1 : Int).toNat = 0 := Int.ediv_eq_zero_of_lt hb.1 (by
        refine Int.lt_of_lt_of_le hb.2 ?_
        show MM ^ 8 ≤ 2 ^ 512
        decide +kernel)
      rw [e]; decide
    · by_cases h : 0 ≤ ρT 0
      · exact norm_go hcl hI h
      · exact norm_end hcl hI h
  · obtain ⟨v, a, rfl, rfl, ⟨la, -, ia⟩⟩ := open1 ha
    obtain ⟨x0, x1, x2, x3, x4, x5, x6, x7, rfl⟩ := len8 la
    refine WayL.of (dec := []) (fs := [.need 30 [[.l 511, .v 0, .v 1, .v 2, .v 3, .v 4, .v 5, .v 6, .v 7, .l 0, .l 0, .l 0, .l 0]], .call 8 30 [[.l 511, .v 0, .v 1, .v 2, .v 3, .v 4, .v 5, .v 6, .v 7, .l 0, .l 0, .l 0, .l 0]] 13]) (refs := [.v 17, .v 18, .v 19, .v 20]) (by kernel_rfl) fun ρ hρ hd => ?_
    simp only [D_nil, D_add, D_sub, D_mul, D_and, D_or, D_xor, D_shl, D_shr, D_andNot, D_quo, D_rem, D_add_i64, D_sub_i64, D_mul_i64, D_add_u32, D_sub_u32, D_mul_u32, D_add_u8, D_sub_u8, D_mul_u8, D_eql, D_neq, D_lss, D_leq, D_gtr, D_geq, D_not, D_conv, D_eqs, D_call, D_cond, D_need, D_idx, D_sel, D_upd, D_shv, D_beq, List.map_cons, List.map_nil, Ref.den, hρ 0 (by decide), hρ 1 (by decide), hρ 2 (by decide), hρ 3 (by decide), hρ 4 (by decide), hρ 5 (by decide), hρ 6 (by decide), hρ 7 (by decide)] at hd
    obtain ⟨h8, -⟩ := hd
    refine ⟨?_, ?_⟩
    · simp only [G_nil, G_bin, G_cmp, G_not, G_conv, G_eqs, G_call, G_cond, G_need, G_idx, G_sel, G_upd, G_shv, G_beq, List.map_cons, List.map_nil, Ref.den]; exact ⟨⟨rfl, rfl⟩, trivial⟩
    · exact (arr_eq (a := dg MM 4 (dv MM [x0, x1, x2, x3, x4, x5, x6, x7] % LL)) (n := 4) (o := 17) (ρ := ρ) (dg_len _ _ _) fun i hi => by
        rw [show 17 + i = 8 + (9 + i) by omega, h8 (9 + i) (by show 9 + i < 13; omega)]
        show (_ :: (_ :: (_ :: (_ :: (_ :: (_ :: (_ :: (_ :: (_ :: _)))))))) : List Int).getD (9 + i) 0 = _
        rw [show 9 + i = i + 1 + 1 + 1 + 1 + 1 + 1 + 1 + 1 + 1 by omega]
        simp only [List.getD_cons_succ]
        rfl).symm
end Go.Proofs.Ytfobnajgnnccmaa.Sc

namespace Go.Bs
open Go.Bx
theorem mul_lt_MM {x y : Int} (hx : 0 ≤ x ∧ x < MM) (hy : 0 ≤ y ∧ y < MM) : 0 ≤ x * y ∧ x * y ≤ (MM - 1) * (MM - 1) := by
  refine ⟨Int.mul_nonneg hx.1 hy.1, ?_⟩
  exact Int.mul_le_mul (by omega) (by omega) hy.1 (by unfold MM; omega)
/-- A step of a long product. -/
theorem mac {x y c t hi lo lo' z hi' t' z' c' : Int} (hx : 0 ≤ x ∧ x < MM) (hy : 0 ≤ y ∧ y < MM) (hc : 0 ≤ c ∧ c < MM) (ht : 0 ≤ t ∧ t < MM)
    (h1 : hi = x * y / MM ∧ lo = x * y % MM) (h2 : lo' = (lo + c + 0) % MM ∧ z = (lo + c + 0) / MM) (h3 : hi' = (hi + z) % 18446744073709551616) (h4 : t' = (t + lo' + 0) % MM ∧ z' = (t + lo' + 0) / MM) (h5 : c' = (hi' + z') % 18446744073709551616) :
    t' + MM * c' = t + x * y + c ∧ (0 ≤ t' ∧ t' < MM) ∧ (0 ≤ c' ∧ c' < MM) := by
  have hp := mul_lt_MM hx hy
  generalize x * y = p at *
  unfold MM at *
  omega
theorem mul44 (x0 x1 x2 x3 y0 y1 y2 y3 : Int) : dv MM [x0, x1, x2, x3] * dv MM [y0, y1, y2, y3] = x0 * y0 + MM * (x0 * y1 + x1 * y0 + MM * (x0 * y2 + x1 * y1 + x2 * y0 + MM * (x0 * y3 + x1 * y2 + x2 * y1 + x3 * y0 + MM * (x1 * y3 + x2 * y2 + x3 * y1 + MM * (x2 * y3 + x3 * y2 + MM * (x3 * y3)))))) := by
  simp only [dv, Int.mul_zero, Int.add_zero]; grind
end Go.Bs
namespace Go.Proofs.Ytfobnajgnnccmaa.Sc
open Go.RowKit Go.Bx Go.Bs Go.Sx Go.Ss
set_option linter.unusedSimpArgs false
def cTimes : Ctr := ⟨61, 16, [.arr .u64 4, .arr .u64 4], [.arr .u64 4]⟩
def T3 : List Ctr := [cAdd, cMul, cNorm]
theorem okT3 : ∀ c ∈ T3, CtrOK Try.prog sfns c := by
  intro c hc
  simp only [T3, List.mem_cons, List.not_mem_nil, or_false] at hc
  rcases hc with rfl | rfl | rfl
  · exact okAdd
  · exact okMul
  · exact okNorm
set_option maxRecDepth 10000 in
theorem okTimes : CtrOK Try.prog sfns cTimes := by
  refine CtrOK.of okT3 mixed (lf := 300) (d := 5) rfl fun w vs xs ha _ => ?_
  obtain ⟨v, u, a, b, rfl, rfl, ⟨la, -, ia⟩, ⟨lb, -, ib⟩⟩ := open2 ha
  obtain ⟨x0, x1, x2, x3, rfl⟩ := len4 la
  obtain ⟨y0, y1, y2, y3, rfl⟩ := len4 lb
  refine Go.Sx.Way.of (dec := []) (fs := [.need 2 [[.v 0], [.v 4]], .call 8 2 [[.v 0], [.v 4]] 2, .need 0 [[.v 9], [.l 0], [.l 0]], .call 10 0 [[.v 9], [.l 0], [.l 0]] 2, .bin 12 .add .u64 (.v 8) (.v 11), .need 0 [[.l 0], [.v 10], [.l 0]], .call 13 0 [[.l 0], [.v 10], [.l 0]] 2, .bin 15 .add .u64 (.v 12) (.v 14), .need 2 [[.v 0], [.v 5]], .call 16 2 [[.v 0], [.v 5]] 2, .need 0 [[.v 17], [.v 15], [.l 0]], .call 18 0 [[.v 17], [.v 15], [.l 0]] 2, .bin 20 .add .u64 (.v 16) (.v 19), .need 0 [[.l 0], [.v 18], [.l 0]], .call 21 0 [[.l 0], [.v 18], [.l 0]] 2, .bin 23 .add .u64 (.v 20) (.v 22), .need 2 [[.v 0], [.v 6]], .call 24 2 [[.v 0], [.v 6]] 2, .need 0 [[.v 25], [.v 23], [.l 0]], .call 26 0 [[.v 25], [.v 23], [.l 0]] 2, .bin 28 .add .u64 (.v 24) (.v 27), .need 0 [[.l 0], [.v 26], [.l 0]], .call 29 0 [[.l 0], [.v 26], [.l 0]] 2, .bin 31 .add .u64 (.v 28) (.v 30), .need 2 [[.v 0], [.v 7]], .call 32 2 [[.v 0], [.v 7]] 2, .need 0 [[.v 33], [.v 31], [.l 0]], .call 34 0 [[.v 33], [.v 31], [.l 0]] 2, .bin 36 .add .u64 (.v 32) (.v 35), .need 0 [[.l 0], [.v 34], [.l 0]], .call 37 0 [[.l 0], [.v 34], [.l 0]] 2, .bin 39 .add .u64 (.v 36) (.v 38), .need 2 [[.v 1], [.v 4]], .call 40 2 [[.v 1], [.v 4]] 2, .need 0 [[.v 41], [.l 0], [.l 0]], .call 42 0 [[.v 41], [.l 0], [.l 0]] 2, .bin 44 .add .u64 (.v 40) (.v 43), .need 0 [[.v 21], [.v 42], [.l 0]], .call 45 0 [[.v 21], [.v 42], [.l 0]] 2, .bin 47 .add .u64 (.v 44) (.v 46), .need 2 [[.v 1], [.v 5]], .call 48 2 [[.v 1], [.v 5]] 2, .need 0 [[.v 49], [.v 47], [.l 0]], .call 50 0 [[.v 49], [.v 47], [.l 0]] 2, .bin 52 .add .u64 (.v 48) (.v 51), .need 0 [[.v 29], [.v 50], [.l 0]], .call 53 0 [[.v 29], [.v 50], [.l 0]] 2, .bin 55 .add .u64 (.v 52) (.v 54), .need 2 [[.v 1], [.v 6]], .call 56 2 [[.v 1], [.v 6]] 2, .need 0 [[.v 57], [.v 55], [.l 0]], .call 58 0 [[.v 57], [.v 55], [.l 0]] 2, .bin 60 .add .u64 (.v 56) (.v 59), .need 0 [[.v 37], [.v 58], [.l 0]], .call 61 0 [[.v 37], [.v 58], [.l 0]] 2, .bin 63 .add .u64 (.v 60) (.v 62), .need 2 [[.v 1], [.v 7]], .call 64 2 [[.v 1], [.v 7]] 2, .need 0 [[.v 65], [.v 63], [.l 0]], .call 66 0 [[.v 65], [.v 63], [.l 0]] 2, .bin 68 .add .u64 (.v 64) (.v 67), .need 0 [[.v 39], [.v 66], [.l 0]], .call 69 0 [[.v 39], [.v 66], [.l 0]] 2, .bin 71 .add .u64 (.v 68) (.v 70), .need 2 [[.v 2], [.v 4]], .call 72 2 [[.v 2], [.v 4]] 2, .need 0 [[.v 73], [.l 0], [.l 0]], .call 74 0 [[.v 73], [.l 0], [.l 0]] 2, .bin 76 .add .u64 (.v 72) (.v 75), .need 0 [[.v 53], [.v 74], [.l 0]], .call 77 0 [[.v 53], [.v 74], [.l 0]] 2, .bin 79 .add .u64 (.v 76) (.v 78), .need 2 [[.v 2], [.v 5]], .call 80 2 [[.v 2], [.v 5]] 2, .need 0 [[.v 81], [.v 79], [.l 0]], .call 82 0 [[.v 81], [.v 79], [.l 0]] 2, .bin 84 .add .u64 (.v 80) (.v 83), .need 0 [[.v 61], [.v 82], [.l 0]], .call 85 0 [[.v 61], [.v 82], [.l 0]] 2, .bin 87 .add .u64 (.v 84) (.v 86), .need 2 [[.v 2], [.v 6]], .call 88 2 [[.v 2], [.v 6]] 2, .need 0 [[.v 89], [.v 87], [.l 0]], .call 90 0 [[.v 89], [.v 87], [.l 0]] 2, .bin 92 .add .u64 (.v 88) (.v 91), .need 0 [[.v 69], [.v 90], [.l 0]], .call 93 0 [[.v 69], [.v 90], [.l 0]] 2, .bin 95 .add .u64 (.v 92) (.v 94), .need 2 [[.v 2], [.v 7]], .call 96 2 [[.v 2], [.v 7]] 2, .need 0 [[.v 97], [.v 95], [.l 0]], .call 98 0 [[.v 97], [.v 95], [.l 0]] 2, .bin 100 .add .u64 (.v 96) (.v 99), .need 0 [[.v 71], [.v 98], [.l 0]], .call 101 0 [[.v 71], [.v 98], [.l 0]] 2, .bin 103 .add .u64 (.v 100) (.v 102), .need 2 [[.v 3], [.v 4]], .call 104 2 [[.v 3], [.v 4]] 2, .need 0 [[.v 105], [.l 0], [.l 0]], .call 106 0 [[.v 105], [.l 0], [.l 0]] 2, .bin 108 .add .u64 (.v 104) (.v 107), .need 0 [[.v 85], [.v 106], [.l 0]], .call 109 0 [[.v 85], [.v 106], [.l 0]] 2, .bin 111 .add .u64 (.v 108) (.v 110), .need 2 [[.v 3], [.v 5]], .call 112 2 [[.v 3], [.v 5]] 2, .need 0 [[.v 113], [.v 111], [.l 0]], .call 114 0 [[.v 113], [.v 111], [.l 0]] 2, .bin 116 .add .u64 (.v 112) (.v 115), .need 0 [[.v 93], [.v 114], [.l 0]], .call 117 0 [[.v 93], [.v 114], [.l 0]] 2, .bin 119 .add .u64 (.v 116) (.v 118), .need 2 [[.v 3], [.v 6]], .call 120 2 [[.v 3], [.v 6]] 2, .need 0 [[.v 121], [.v 119], [.l 0]], .call 122 0 [[.v 121], [.v 119], [.l 0]] 2, .bin 124 .add .u64 (.v 120) (.v 123), .need 0 [[.v 101], [.v 122], [.l 0]], .call 125 0 [[.v 101], [.v 122], [.l 0]] 2, .bin 127 .add .u64 (.v 124) (.v 126), .need 2 [[.v 3], [.v 7]], .call 128 2 [[.v 3], [.v 7]] 2, .need 0 [[.v 129], [.v 127], [.l 0]], .call 130 0 [[.v 129], [.v 127], [.l 0]] 2, .bin 132 .add .u64 (.v 128) (.v 131), .need 0 [[.v 103], [.v 130], [.l 0]], .call 133 0 [[.v 103], [.v 130], [.l 0]] 2, .bin 135 .add .u64 (.v 132) (.v 134), .need 3 [[.v 13, .v 45, .v 77, .v 109, .v 117, .v 125, .v 133, .v 135]], .call 136 3 [[.v 13, .v 45, .v 77, .v 109, .v 117, .v 125, .v 133, .v 135]] 4]) (refs := [.v 136, .v 137, .v 138, .v 139]) (by kernel_rfl) fun ρ hρ hd => ?_
  have r0 : ρ 0 = x0 := hρ 0 (by decide)
  have r1 : ρ 1 = x1 := hρ 1 (by decide)
  have r2 : ρ 2 = x2 := hρ 2 (by decide)
  have r3 : ρ 3 = x3 := hρ 3 (by decide)
  have r4 : ρ 4 = y0 := hρ 4 (by decide)
  have r5 : ρ 5 = y1 := hρ 5 (by decide)
  have r6 : ρ 6 = y2 := hρ 6 (by decide)
  have r7 : ρ 7 = y3 := hρ 7 (by decide)
  have hx0 : 0 ≤ x0 ∧ x0 < MM := in64 (ia x0 (by simp))
  have hx1 : 0 ≤ x1 ∧ x1 < MM := in64 (ia x1 (by simp))
  have hx2 : 0 ≤ x2 ∧ x2 < MM := in64 (ia x2 (by simp))
  have hx3 : 0 ≤ x3 ∧ x3 < MM := in64 (ia x3 (by simp))
  have hy0 : 0 ≤ y0 ∧ y0 < MM := in64 (ib y0 (by simp))
  have hy1 : 0 ≤ y1 ∧ y1 < MM := in64 (ib y1 (by simp))
  have hy2 : 0 ≤ y2 ∧ y2 < MM := in64 (ib y2 (by simp))
  have hy3 : 0 ≤ y3 ∧ y3 < MM := in64 (ib y3 (by simp))
  have hz : (0 : Int) ≤ 0 ∧ (0 : Int) < MM := by decide
  simp only [D_nil, D_add, D_sub, D_mul, D_and, D_or, D_xor, D_shl, D_shr, D_andNot, D_quo, D_rem, D_add_i64, D_sub_i64, D_mul_i64, D_add_u32, D_sub_u32, D_mul_u32, D_add_u8, D_sub_u8, D_mul_u8, D_eql, D_neq, D_lss, D_leq, D_gtr, D_geq, D_not, D_conv, D_eqs, D_call, D_cond, D_need, D_idx, D_sel, D_upd, D_shv, D_beq, List.map_cons, List.map_nil, Ref.den, r0, r1, r2, r3, r4, r5, r6, r7] at hd
  obtain ⟨m0, a0, b0, c0, d0, m1, a1, b1, c1, d1, m2, a2, b2, c2, d2, m3, a3, b3, c3, d3, m4, a4, b4, c4, d4, m5, a5, b5, c5, d5, m6, a6, b6, c6, d6, m7, a7, b7, c7, d7, m8, a8, b8, c8, d8, m9, a9, b9, c9, d9, m10, a10, b10, c10, d10, m11, a11, b11, c11, d11, m12, a12, b12, c12, d12, m13, a13, b13, c13, d13, m14, a14, b14, c14, d14, m15, a15, b15, c15, d15, hn, -⟩ := hd
  have e0 := mac hx0 hy0 hz hz (two m0) (two a0) b0 (two c0) d0
  have e1 := mac hx0 hy1 e0.2.2 hz (two m1) (two a1) b1 (two c1) d1
  have e2 := mac hx0 hy2 e1.2.2 hz (two m2) (two a2) b2 (two c2) d2
  have e3 := mac hx0 hy3 e2.2.2 hz (two m3) (two a3) b3 (two c3) d3
  have e4 := mac hx1 hy0 hz e1.2.1 (two m4) (two a4) b4 (two c4) d4
  have e5 := mac hx1 hy1 e4.2.2 e2.2.1 (two m5) (two a5) b5 (two c5) d5
  have e6 := mac hx1 hy2 e5.2.2 e3.2.1 (two m6) (two a6) b6 (two c6) d6
  have e7 := mac hx1 hy3 e6.2.2 e3.2.2 (two m7) (two a7) b7 (two c7) d7
  have e8 := mac hx2 hy0 hz e5.2.1 (two m8) (two a8) b8 (two c8) d8
  have e9 := mac hx2 hy1 e8.2.2 e6.2.1 (two m9) (two a9) b9 (two c9) d9
  have e10 := mac hx2 hy2 e9.2.2 e7.2.1 (two m10) (two a10) b10 (two c10) d10
  have e11 := mac hx2 hy3 e10.2.2 e7.2.2 (two m11) (two a11) b11 (two c11) d11
  have e12 := mac hx3 hy0 hz e9.2.1 (two m12) (two a12) b12 (two c12) d12
  have e13 := mac hx3 hy1 e12.2.2 e10.2.1 (two m13) (two a13) b13 (two c13) d13
  have e14 := mac hx3 hy2 e13.2.2 e11.2.1 (two m14) (two a14) b14 (two c14) d14
  have e15 := mac hx3 hy3 e14.2.2 e11.2.2 (two m15) (two a15) b15 (two c15) d15
  clear m0 a0 b0 c0 d0 m1 a1 b1 c1 d1 m2 a2 b2 c2 d2 m3 a3 b3 c3 d3 m4 a4 b4 c4 d4 m5 a5 b5 c5 d5 m6 a6 b6 c6 d6 m7 a7 b7 c7 d7 m8 a8 b8 c8 d8 m9 a9 b9 c9 d9 m10 a10 b10 c10 d10 m11 a11 b11 c11 d11 m12 a12 b12 c12 d12 m13 a13 b13 c13 d13 m14 a14 b14 c14 d14 m15 a15 b15 c15 d15
  have val : dv MM [ρ 13, ρ 45, ρ 77, ρ 109, ρ 117, ρ 125, ρ 133, ρ 135] = dv MM [x0, x1, x2, x3] * dv MM [y0, y1, y2, y3] := by
    rw [mul44]
    simp only [dv, MM] at e0 e1 e2 e3 e4 e5 e6 e7 e8 e9 e10 e11 e12 e13 e14 e15 ⊢
    generalize x0 * y0 = p00 at *
    generalize x0 * y1 = p01 at *
    generalize x0 * y2 = p02 at *
    generalize x0 * y3 = p03 at *
    generalize x1 * y0 = p10 at *
    generalize x1 * y1 = p11 at *
    generalize x1 * y2 = p12 at *
    generalize x1 * y3 = p13 at *
    generalize x2 * y0 = p20 at *
    generalize x2 * y1 = p21 at *
    generalize x2 * y2 = p22 at *
    generalize x2 * y3 = p23 at *
    generalize x3 * y0 = p30 at *
    generalize x3 * y1 = p31 at *
    generalize x3 * y2 = p32 at *
    generalize x3 * y3 = p33 at *
    omega
  refine ⟨?_, ?_⟩
  · simp only [G_nil, G_bin, G_cmp, G_not, G_conv, G_eqs, G_call, G_cond, G_need, G_idx, G_sel, G_upd, G_shv, G_beq, List.map_cons, List.map_nil, Ref.den]
    exact ⟨trivial, .inl rfl, .inl rfl, trivial, .inl rfl, .inl rfl, trivial, .inl rfl, .inl rfl, trivial, .inl rfl, .inl rfl, trivial, .inl rfl, .inl rfl, trivial, .inl rfl, .inl rfl, trivial, .inl rfl, .inl rfl, trivial, .inl rfl, .inl rfl, trivial, .inl rfl, .inl rfl, trivial, .inl rfl, .inl rfl, trivial, .inl rfl, .inl rfl, trivial, .inl rfl, .inl rfl, trivial, .inl rfl, .inl rfl, trivial, .inl rfl, .inl rfl, trivial, .inl rfl, .inl rfl, trivial, .inl rfl, .inl rfl, trivial, trivial⟩
  · have key : ∀ i, i < 4 → ρ (136 + i) = (dg MM 4 (dv MM [x0, x1, x2, x3] * dv MM [y0, y1, y2, y3] % LL)).getD i 0 := fun i hi => by
      rw [hn i hi, ← val]; rfl
    exact (arr_eq (a := dg MM 4 (dv MM [x0, x1, x2, x3] * dv MM [y0, y1, y2, y3] % LL)) (n := 4) (o := 136) (ρ := ρ) (dg_len _ _ _) key).symm
end Go.Proofs.Ytfobnajgnnccmaa.Sc

namespace Go.Bs
open Go.Bx
theorem LL_lt2 : LL < MM ^ 4 ∧ LL < 256 ^ 32 ∧ (256 : Int) ^ 32 = MM ^ 4 ∧ (256 : Int) ^ 64 = MM ^ 8 ∧ MM ^ 4 < MM ^ 8 := by decide
theorem dv_dg_of {b : Int} (hb : 0 < b) {k : Nat} {n : Int} (h0 : 0 ≤ n) (h1 : n < b ^ k) : dv b (dg b k n) = n := by rw [dv_dg hb, Int.emod_eq_of_lt h0 h1]
theorem mod_LL (x : Int) : 0 ≤ x % LL ∧ x % LL < LL := ⟨Int.emod_nonneg _ (by have := LL_lt.1; omega), Int.emod_lt_of_pos _ LL_lt.1⟩
theorem eqs_seg {ρ : Nat → Int} {o p m : Nat} : (((List.range m).map fun i => (Go.Sx.Ref.v (o + i), Go.Sx.Ref.v (p + i))).all fun q => decide (q.1.den ρ = q.2.den ρ)) = decide (seg ρ o m = seg ρ p m) := by
  rw [Bool.eq_iff_iff]
  simp only [List.all_eq_true, List.mem_map, List.mem_range, decide_eq_true_eq, forall_exists_index, and_imp]
  constructor
  · intro h
    exact List.map_congr_left fun i hi => h _ i (List.mem_range.1 hi) rfl
  · rintro h q i hi rfl
    have := congrArg (fun l => l.getD i 0) h
    show ρ (o + i) = ρ (p + i)
    simpa [seg, List.getD_eq_getElem?_getD, hi] using this
end Go.Bs
namespace Go.Proofs.Ytfobnajgnnccmaa.Sc
open Go.RowKit Go.Bx Go.Bs Go.Sx Go.Ss
set_option linter.unusedSimpArgs false
def cSAdd : Ctr := ⟨29, 20, [.arr .u8 32, .arr .u8 32], [.arr .u8 32]⟩
def cSMul : Ctr := ⟨31, 22, [.arr .u8 32, .arr .u8 32], [.arr .u8 32]⟩
def cSNorm : Ctr := ⟨30, 23, [.arr .u8 32], [.arr .u8 32]⟩
def cSLong : Ctr := ⟨97, 24, [.arr .u8 64], [.arr .u8 32]⟩
def cSGood : Ctr := ⟨67, 25, [.arr .u8 32], [.bool]⟩
def T4 : List Ctr := [cPlus, cLess, cCut, cWord, cFrom32, cFrom64, cNorm, cTimes]
theorem okT4 : ∀ c ∈ T4, CtrOK Try.prog sfns c := by
  intro c hc
  simp only [T4, List.mem_cons, List.not_mem_nil, or_false] at hc
  rcases hc with rfl | rfl | rfl | rfl | rfl | rfl | rfl | rfl
  · exact okPlus
  · exact okLess
  · exact okCut
  · exact okWord
  · exact okFrom32
  · exact okFrom64
  · exact okNorm
  · exact okTimes
theorem bd32 {a : List Int} (la : a.length = 32) (ia : ∀ z ∈ a, InR .u8 z) : 0 ≤ dv 256 a ∧ dv 256 a < MM ^ 8 := by
  have := dv_bound (b := 256) (by decide) (dig8 ia)
  rw [la] at this
  have := LL_lt2
  omega
theorem bd64 {a : List Int} (la : a.length = 64) (ia : ∀ z ∈ a, InR .u8 z) : 0 ≤ dv 256 a ∧ dv 256 a < MM ^ 8 := by
  have := dv_bound (b := 256) (by decide) (dig8 ia)
  rw [la] at this
  have := LL_lt2
  omega
theorem okSNorm : CtrOK Try.prog sfns cSNorm := by
  refine CtrOK.of okT4 mixed (lf := 300) (d := 5) rfl fun w vs xs ha _ => ?_
  obtain ⟨v, a, rfl, rfl, ⟨la, -, ia⟩⟩ := open1 ha
  have bd := bd32 la ia
  refine Go.Sx.Way.of (dec := []) (fs := [.need 14 [[.v 0, .v 1, .v 2, .v 3, .v 4, .v 5, .v 6, .v 7, .v 8, .v 9, .v 10, .v 11, .v 12, .v 13, .v 14, .v 15, .v 16, .v 17, .v 18, .v 19, .v 20, .v 21, .v 22, .v 23, .v 24, .v 25, .v 26, .v 27, .v 28, .v 29, .v 30, .v 31]], .call 32 14 [[.v 0, .v 1, .v 2, .v 3, .v 4, .v 5, .v 6, .v 7, .v 8, .v 9, .v 10, .v 11, .v 12, .v 13, .v 14, .v 15, .v 16, .v 17, .v 18, .v 19, .v 20, .v 21, .v 22, .v 23, .v 24, .v 25, .v 26, .v 27, .v 28, .v 29, .v 30, .v 31]] 8, .need 3 [[.v 32, .v 33, .v 34, .v 35, .v 36, .v 37, .v 38, .v 39]], .call 40 3 [[.v 32, .v 33, .v 34, .v 35, .v 36, .v 37, .v 38, .v 39]] 4, .need 13 [[.v 40, .v 41, .v 42, .v 43]], .call 44 13 [[.v 40, .v 41, .v 42, .v 43]] 32]) (refs := [.v 44, .v 45, .v 46, .v 47, .v 48, .v 49, .v 50, .v 51, .v 52, .v 53, .v 54, .v 55, .v 56, .v 57, .v 58, .v 59, .v 60, .v 61, .v 62, .v 63, .v 64, .v 65, .v 66, .v 67, .v 68, .v 69, .v 70, .v 71, .v 72, .v 73, .v 74, .v 75]) (by kernel_rfl) fun ρ hρ hd => ?_
  have ea : seg ρ 0 32 = a := seg_of (fun i hi => by rw [Nat.zero_add, hρ i hi]; simp only [flat, List.flatten_cons, List.flatten_nil, List.append_nil]) la
  simp only [D_nil, D_add, D_sub, D_mul, D_and, D_or, D_xor, D_shl, D_shr, D_andNot, D_quo, D_rem, D_add_i64, D_sub_i64, D_mul_i64, D_add_u32, D_sub_u32, D_mul_u32, D_add_u8, D_sub_u8, D_mul_u8, D_eql, D_neq, D_lss, D_leq, D_gtr, D_geq, D_not, D_conv, D_eqs, D_call, D_cond, D_need, D_idx, D_sel, D_upd, D_shv, D_beq, List.map_cons, List.map_nil, Ref.den] at hd
  obtain ⟨h1, h2, h3, -⟩ := hd
  have e1 : seg ρ 32 8 = dg MM 8 (dv 256 (seg ρ 0 32)) := seg_of h1 (dg_len _ _ _)
  have e2 : seg ρ 40 4 = dg MM 4 (dv MM (seg ρ 32 8) % LL) := seg_of h2 (dg_len _ _ _)
  have e3 : seg ρ 44 32 = dg 256 32 (dv MM (seg ρ 40 4)) := seg_of h3 (dg_len _ _ _)
  have hm := mod_LL (dv 256 a)
  have hL := LL_lt2
  rw [ea] at e1
  rw [e1, dv_dg_of MM_pos bd.1 bd.2] at e2
  rw [e2, dv_dg_of MM_pos hm.1 (by omega)] at e3
  refine ⟨by simp only [G_nil, G_bin, G_cmp, G_not, G_conv, G_eqs, G_call, G_cond, G_need, G_idx, G_sel, G_upd, G_shv, G_beq, List.map_cons, List.map_nil, Ref.den]; exact ⟨trivial, trivial, trivial, trivial⟩, ?_⟩
  exact e3
theorem okSLong : CtrOK Try.prog sfns cSLong := by
  refine CtrOK.of okT4 mixed (lf := 300) (d := 5) rfl fun w vs xs ha _ => ?_
  obtain ⟨v, a, rfl, rfl, ⟨la, -, ia⟩⟩ := open1 ha
  have bd := bd64 la ia
  refine Go.Sx.Way.of (dec := []) (fs := [.need 14 [[.v 0, .v 1, .v 2, .v 3, .v 4, .v 5, .v 6, .v 7, .v 8, .v 9, .v 10, .v 11, .v 12, .v 13, .v 14, .v 15, .v 16, .v 17, .v 18, .v 19, .v 20, .v 21, .v 22, .v 23, .v 24, .v 25, .v 26, .v 27, .v 28, .v 29, .v 30, .v 31, .v 32, .v 33, .v 34, .v 35, .v 36, .v 37, .v 38, .v 39, .v 40, .v 41, .v 42, .v 43, .v 44, .v 45, .v 46, .v 47, .v 48, .v 49, .v 50, .v 51, .v 52, .v 53, .v 54, .v 55, .v 56, .v 57, .v 58, .v 59, .v 60, .v 61, .v 62, .v 63]], .call 64 14 [[.v 0, .v 1, .v 2, .v 3, .v 4, .v 5, .v 6, .v 7, .v 8, .v 9, .v 10, .v 11, .v 12, .v 13, .v 14, .v 15, .v 16, .v 17, .v 18, .v 19, .v 20, .v 21, .v 22, .v 23, .v 24, .v 25, .v 26, .v 27, .v 28, .v 29, .v 30, .v 31, .v 32, .v 33, .v 34, .v 35, .v 36, .v 37, .v 38, .v 39, .v 40, .v 41, .v 42, .v 43, .v 44, .v 45, .v 46, .v 47, .v 48, .v 49, .v 50, .v 51, .v 52, .v 53, .v 54, .v 55, .v 56, .v 57, .v 58, .v 59, .v 60, .v 61, .v 62, .v 63]] 8, .need 3 [[.v 64, .v 65, .v 66, .v 67, .v 68, .v 69, .v 70, .v 71]], .call 72 3 [[.v 64, .v 65, .v 66, .v 67, .v 68, .v 69, .v 70, .v 71]] 4, .need 13 [[.v 72, .v 73, .v 74, .v 75]], .call 76 13 [[.v 72, .v 73, .v 74, .v 75]] 32]) (refs := [.v 76, .v 77, .v 78, .v 79, .v 80, .v 81, .v 82, .v 83, .v 84, .v 85, .v 86, .v 87, .v 88, .v 89, .v 90, .v 91, .v 92, .v 93, .v 94, .v 95, .v 96, .v 97, .v 98, .v 99, .v 100, .v 101, .v 102, .v 103, .v 104, .v 105, .v 106, .v 107]) (by kernel_rfl) fun ρ hρ hd => ?_
  have ea : seg ρ 0 64 = a := seg_of (fun i hi => by rw [Nat.zero_add, hρ i hi]; simp only [flat, List.flatten_cons, List.flatten_nil, List.append_nil]) la
  simp only [D_nil, D_add, D_sub, D_mul, D_and, D_or, D_xor, D_shl, D_shr, D_andNot, D_quo, D_rem, D_add_i64, D_sub_i64, D_mul_i64, D_add_u32, D_sub_u32, D_mul_u32, D_add_u8, D_sub_u8, D_mul_u8, D_eql, D_neq, D_lss, D_leq, D_gtr, D_geq, D_not, D_conv, D_eqs, D_call, D_cond, D_need, D_idx, D_sel, D_upd, D_shv, D_beq, List.map_cons, List.map_nil, Ref.den] at hd
  obtain ⟨h1, h2, h3, -⟩ := hd
  have e1 : seg ρ 64 8 = dg MM 8 (dv 256 (seg ρ 0 64)) := seg_of h1 (dg_len _ _ _)
  have e2 : seg ρ 72 4 = dg MM 4 (dv MM (seg ρ 64 8) % LL) := seg_of h2 (dg_len _ _ _)
  have e3 : seg ρ 76 32 = dg 256 32 (dv MM (seg ρ 72 4)) := seg_of h3 (dg_len _ _ _)
  have hm := mod_LL (dv 256 a)
  have hL := LL_lt2
  rw [ea] at e1
  rw [e1, dv_dg_of MM_pos bd.1 bd.2] at e2
  rw [e2, dv_dg_of MM_pos hm.1 (by omega)] at e3
  refine ⟨by simp only [G_nil, G_bin, G_cmp, G_not, G_conv, G_eqs, G_call, G_cond, G_need, G_idx, G_sel, G_upd, G_shv, G_beq, List.map_cons, List.map_nil, Ref.den]; exact ⟨trivial, trivial, trivial, trivial⟩, ?_⟩
  exact e3
theorem okSGood : CtrOK Try.prog sfns cSGood := by
  refine CtrOK.of okT4 mixed (lf := 300) (d := 5) rfl fun w vs xs ha _ => ?_
  obtain ⟨v, a, rfl, rfl, ⟨la, -, ia⟩⟩ := open1 ha
  have bd := bd32 la ia
  refine Go.Sx.Way.of (dec := []) (fs := [.need 14 [[.v 0, .v 1, .v 2, .v 3, .v 4, .v 5, .v 6, .v 7, .v 8, .v 9, .v 10, .v 11, .v 12, .v 13, .v 14, .v 15, .v 16, .v 17, .v 18, .v 19, .v 20, .v 21, .v 22, .v 23, .v 24, .v 25, .v 26, .v 27, .v 28, .v 29, .v 30, .v 31]], .call 32 14 [[.v 0, .v 1, .v 2, .v 3, .v 4, .v 5, .v 6, .v 7, .v 8, .v 9, .v 10, .v 11, .v 12, .v 13, .v 14, .v 15, .v 16, .v 17, .v 18, .v 19, .v 20, .v 21, .v 22, .v 23, .v 24, .v 25, .v 26, .v 27, .v 28, .v 29, .v 30, .v 31]] 8, .need 3 [[.v 32, .v 33, .v 34, .v 35, .v 36, .v 37, .v 38, .v 39]], .call 40 3 [[.v 32, .v 33, .v 34, .v 35, .v 36, .v 37, .v 38, .v 39]] 4, .need 13 [[.v 40, .v 41, .v 42, .v 43]], .call 44 13 [[.v 40, .v 41, .v 42, .v 43]] 32, .eqs 76 [(.v 44, .v 0), (.v 45, .v 1), (.v 46, .v 2), (.v 47, .v 3), (.v 48, .v 4), (.v 49, .v 5), (.v 50, .v 6), (.v 51, .v 7), (.v 52, .v 8), (.v 53, .v 9), (.v 54, .v 10), (.v 55, .v 11), (.v 56, .v 12), (.v 57, .v 13), (.v 58, .v 14), (.v 59, .v 15), (.v 60, .v 16), (.v 61, .v 17), (.v 62, .v 18), (.v 63, .v 19), (.v 64, .v 20), (.v 65, .v 21), (.v 66, .v 22), (.v 67, .v 23), (.v 68, .v 24), (.v 69, .v 25), (.v 70, .v 26), (.v 71, .v 27), (.v 72, .v 28), (.v 73, .v 29), (.v 74, .v 30), (.v 75, .v 31)]]) (refs := [.v 76]) (by kernel_rfl) fun ρ hρ hd => ?_
  have ea : seg ρ 0 32 = a := seg_of (fun i hi => by rw [Nat.zero_add, hρ i hi]; simp only [flat, List.flatten_cons, List.flatten_nil, List.append_nil]) la
  simp only [D_nil, D_add, D_sub, D_mul, D_and, D_or, D_xor, D_shl, D_shr, D_andNot, D_quo, D_rem, D_add_i64, D_sub_i64, D_mul_i64, D_add_u32, D_sub_u32, D_mul_u32, D_add_u8, D_sub_u8, D_mul_u8, D_eql, D_neq, D_lss, D_leq, D_gtr, D_geq, D_not, D_conv, D_eqs, D_call, D_cond, D_need, D_idx, D_sel, D_upd, D_shv, D_beq, List.map_cons, List.map_nil, Ref.den] at hd
  obtain ⟨h1, h2, h3, h4, -⟩ := hd
  have e1 : seg ρ 32 8 = dg MM 8 (dv 256 (seg ρ 0 32)) := seg_of h1 (dg_len _ _ _)
  have e2 : seg ρ 40 4 = dg MM 4 (dv MM (seg ρ 32 8) % LL) := seg_of h2 (dg_len _ _ _)
  have e3 : seg ρ 44 32 = dg 256 32 (dv MM (seg ρ 40 4)) := seg_of h3 (dg_len _ _ _)
  have hm := mod_LL (dv 256 a)
  have hL := LL_lt2
  rw [ea] at e1
  rw [e1, dv_dg_of MM_pos bd.1 bd.2] at e2
  rw [e2, dv_dg_of MM_pos hm.1 (by omega)] at e3
  refine ⟨by simp only [G_nil, G_bin, G_cmp, G_not, G_conv, G_eqs, G_call, G_cond, G_need, G_idx, G_sel, G_upd, G_shv, G_beq, List.map_cons, List.map_nil, Ref.den]; exact ⟨trivial, trivial, trivial, trivial⟩, ?_⟩
  show [ρ 76] = [b2i (decide (dv 256 a < LL))]
  have h5 : ρ 76 = b2i (((List.range 32).map fun i => (Ref.v (44 + i), Ref.v (0 + i))).all fun p => decide (p.1.den ρ = p.2.den ρ)) := h4
  rw [h5, eqs_seg, e3, ea, eq_comm]
  congr 2
  refine decide_eq_decide.2 ⟨fun h => ?_, fun h => ?_⟩
  · rw [Int.emod_eq_of_lt bd.1 h, ← la, dg_dv (by decide) (dig8 ia)]
  · have h6 := congrArg (dv 256) h
    rw [dv_dg_of (by decide) hm.1 (by omega)] at h6
    omega
theorem okSAdd : CtrOK Try.prog sfns cSAdd := by
  refine CtrOK.of okT4 mixed (lf := 300) (d := 5) rfl fun w vs xs ha _ => ?_
  obtain ⟨v, u, a, b, rfl, rfl, ⟨la, -, ia⟩, ⟨lb, -, ib⟩⟩ := open2 ha
  have bda := bd32 la ia
  have bdb := bd32 lb ib
  have hma := mod_LL (dv 256 a)
  have hmb := mod_LL (dv 256 b)
  have hL := LL_lt2
  have hL' := LL_lt
  refine Go.Sx.Way.of (dec := []) (fs := [.need 14 [[.v 0, .v 1, .v 2, .v 3, .v 4, .v 5, .v 6, .v 7, .v 8, .v 9, .v 10, .v 11, .v 12, .v 13, .v 14, .v 15, .v 16, .v 17, .v 18, .v 19, .v 20, .v 21, .v 22, .v 23, .v 24, .v 25, .v 26, .v 27, .v 28, .v 29, .v 30, .v 31]], .call 64 14 [[.v 0, .v 1, .v 2, .v 3, .v 4, .v 5, .v 6, .v 7, .v 8, .v 9, .v 10, .v 11, .v 12, .v 13, .v 14, .v 15, .v 16, .v 17, .v 18, .v 19, .v 20, .v 21, .v 22, .v 23, .v 24, .v 25, .v 26, .v 27, .v 28, .v 29, .v 30, .v 31]] 8, .need 3 [[.v 64, .v 65, .v 66, .v 67, .v 68, .v 69, .v 70, .v 71]], .call 72 3 [[.v 64, .v 65, .v 66, .v 67, .v 68, .v 69, .v 70, .v 71]] 4, .need 14 [[.v 32, .v 33, .v 34, .v 35, .v 36, .v 37, .v 38, .v 39, .v 40, .v 41, .v 42, .v 43, .v 44, .v 45, .v 46, .v 47, .v 48, .v 49, .v 50, .v 51, .v 52, .v 53, .v 54, .v 55, .v 56, .v 57, .v 58, .v 59, .v 60, .v 61, .v 62, .v 63]], .call 76 14 [[.v 32, .v 33, .v 34, .v 35, .v 36, .v 37, .v 38, .v 39, .v 40, .v 41, .v 42, .v 43, .v 44, .v 45, .v 46, .v 47, .v 48, .v 49, .v 50, .v 51, .v 52, .v 53, .v 54, .v 55, .v 56, .v 57, .v 58, .v 59, .v 60, .v 61, .v 62, .v 63]] 8, .need 3 [[.v 76, .v 77, .v 78, .v 79, .v 80, .v 81, .v 82, .v 83]], .call 84 3 [[.v 76, .v 77, .v 78, .v 79, .v 80, .v 81, .v 82, .v 83]] 4, .need 10 [[.v 72, .v 73, .v 74, .v 75], [.v 84, .v 85, .v 86, .v 87]], .call 88 10 [[.v 72, .v 73, .v 74, .v 75], [.v 84, .v 85, .v 86, .v 87]] 4, .need 12 [[.v 88, .v 89, .v 90, .v 91]], .call 92 12 [[.v 88, .v 89, .v 90, .v 91]] 4, .need 13 [[.v 92, .v 93, .v 94, .v 95]], .call 96 13 [[.v 92, .v 93, .v 94, .v 95]] 32]) (refs := [.v 96, .v 97, .v 98, .v 99, .v 100, .v 101, .v 102, .v 103, .v 104, .v 105, .v 106, .v 107, .v 108, .v 109, .v 110, .v 111, .v 112, .v 113, .v 114, .v 115, .v 116, .v 117, .v 118, .v 119, .v 120, .v 121, .v 122, .v 123, .v 124, .v 125, .v 126, .v 127]) (by kernel_rfl) fun ρ hρ hd => ?_
  have ea : seg ρ 0 32 = a := seg_of (fun i hi => by
    rw [Nat.zero_add, hρ i (by show i < 64; omega)]
    simp only [flat, List.flatten_cons, List.flatten_nil, List.append_nil, List.getD_eq_getElem?_getD]
    rw [List.getElem?_append_left (by omega)]) la
  have eb : seg ρ 32 32 = b := seg_of (fun i hi => by
    rw [hρ (32 + i) (by show 32 + i < 64; omega)]
    simp only [flat, List.flatten_cons, List.flatten_nil, List.append_nil, List.getD_eq_getElem?_getD]
    rw [List.getElem?_append_right (by omega), la, Nat.add_sub_cancel_left]) lb
  simp only [D_nil, D_add, D_sub, D_mul, D_and, D_or, D_xor, D_shl, D_shr, D_andNot, D_quo, D_rem, D_add_i64, D_sub_i64, D_mul_i64, D_add_u32, D_sub_u32, D_mul_u32, D_add_u8, D_sub_u8, D_mul_u8, D_eql, D_neq, D_lss, D_leq, D_gtr, D_geq, D_not, D_conv, D_eqs, D_call, D_cond, D_need, D_idx, D_sel, D_upd, D_shv, D_beq, List.map_cons, List.map_nil, Ref.den] at hd
  obtain ⟨h1, h2, h3, h4, h5, h6, h7, -⟩ := hd
  have e1 : seg ρ 64 8 = dg MM 8 (dv 256 (seg ρ 0 32)) := seg_of h1 (dg_len _ _ _)
  have e2 : seg ρ 72 4 = dg MM 4 (dv MM (seg ρ 64 8) % LL) := seg_of h2 (dg_len _ _ _)
  have e3 : seg ρ 76 8 = dg MM 8 (dv 256 (seg ρ 32 32)) := seg_of h3 (dg_len _ _ _)
  have e4 : seg ρ 84 4 = dg MM 4 (dv MM (seg ρ 76 8) % LL) := seg_of h4 (dg_len _ _ _)
  have e5 : seg ρ 88 4 = dg MM 4 (dv MM (seg ρ 72 4) + dv MM (seg ρ 84 4)) := seg_of h5 (dg_len _ _ _)
  have e6 : seg ρ 92 4 = dg MM 4 (cutZ (dv MM (seg ρ 88 4))) := seg_of h6 (dg_len _ _ _)
  have e7 : seg ρ 96 32 = dg 256 32 (dv MM (seg ρ 92 4)) := seg_of h7 (dg_len _ _ _)
  rw [ea] at e1
  rw [eb] at e3
  rw [e1, dv_dg_of MM_pos bda.1 bda.2] at e2
  rw [e3, dv_dg_of MM_pos bdb.1 bdb.2] at e4
  rw [e2, e4, dv_dg_of MM_pos hma.1 (by omega), dv_dg_of MM_pos hmb.1 (by omega)] at e5
  rw [e5, dv_dg_of MM_pos (by omega) (by omega), cutZ_mod (by omega) (by omega), ← Int.add_emod] at e6
  have hm := mod_LL (dv 256 a + dv 256 b)
  rw [e6, dv_dg_of MM_pos hm.1 (by omega)] at e7
  refine ⟨by simp only [G_nil, G_bin, G_cmp, G_not, G_conv, G_eqs, G_call, G_cond, G_need, G_idx, G_sel, G_upd, G_shv, G_beq, List.map_cons, List.map_nil, Ref.den]; exact ⟨trivial, trivial, trivial, trivial, trivial, trivial, trivial, trivial⟩, ?_⟩
  exact e7
theorem okSMul : CtrOK Try.prog sfns cSMul := by
  refine CtrOK.of okT4 mixed (lf := 300) (d := 5) rfl fun w vs xs ha _ => ?_
  obtain ⟨v, u, a, b, rfl, rfl, ⟨la, -, ia⟩, ⟨lb, -, ib⟩⟩ := open2 ha
  have bda := bd32 la ia
  have bdb := bd32 lb ib
  have hma := mod_LL (dv 256 a)
  have hmb := mod_LL (dv 256 b)
  have hL := LL_lt2
  have hL' := LL_lt
  refine Go.Sx.Way.of (dec := []) (fs := [.need 14 [[.v 0, .v 1, .v 2, .v 3, .v 4, .v 5, .v 6, .v 7, .v 8, .v 9, .v 10, .v 11, .v 12, .v 13, .v 14, .v 15, .v 16, .v 17, .v 18, .v 19, .v 20, .v 21, .v 22, .v 23, .v 24, .v 25, .v 26, .v 27, .v 28, .v 29, .v 30, .v 31]], .call 64 14 [[.v 0, .v 1, .v 2, .v 3, .v 4, .v 5, .v 6, .v 7, .v 8, .v 9, .v 10, .v 11, .v 12, .v 13, .v 14, .v 15, .v 16, .v 17, .v 18, .v 19, .v 20, .v 21, .v 22, .v 23, .v 24, .v 25, .v 26, .v 27, .v 28, .v 29, .v 30, .v 31]] 8, .need 3 [[.v 64, .v 65, .v 66, .v 67, .v 68, .v 69, .v 70, .v 71]], .call 72 3 [[.v 64, .v 65, .v 66, .v 67, .v 68, .v 69, .v 70, .v 71]] 4, .need 14 [[.v 32, .v 33, .v 34, .v 35, .v 36, .v 37, .v 38, .v 39, .v 40, .v 41, .v 42, .v 43, .v 44, .v 45, .v 46, .v 47, .v 48, .v 49, .v 50, .v 51, .v 52, .v 53, .v 54, .v 55, .v 56, .v 57, .v 58, .v 59, .v 60, .v 61, .v 62, .v 63]], .call 76 14 [[.v 32, .v 33, .v 34, .v 35, .v 36, .v 37, .v 38, .v 39, .v 40, .v 41, .v 42, .v 43, .v 44, .v 45, .v 46, .v 47, .v 48, .v 49, .v 50, .v 51, .v 52, .v 53, .v 54, .v 55, .v 56, .v 57, .v 58, .v 59, .v 60, .v 61, .v 62, .v 63]] 8, .need 3 [[.v 76, .v 77, .v 78, .v 79, .v 80, .v 81, .v 82, .v 83]], .call 84 3 [[.v 76, .v 77, .v 78, .v 79, .v 80, .v 81, .v 82, .v 83]] 4, .need 16 [[.v 72, .v 73, .v 74, .v 75], [.v 84, .v 85, .v 86, .v 87]], .call 88 16 [[.v 72, .v 73, .v 74, .v 75], [.v 84, .v 85, .v 86, .v 87]] 4, .need 13 [[.v 88, .v 89, .v 90, .v 91]], .call 92 13 [[.v 88, .v 89, .v 90, .v 91]] 32]) (refs := [.v 92, .v 93, .v 94, .v 95, .v 96, .v 97, .v 98, .v 99, .v 100, .v 101, .v 102, .v 103, .v 104, .v 105, .v 106, .v 107, .v 108, .v 109, .v 110, .v 111, .v 112, .v 113, .v 114, .v 115, .v 116, .v 117, .v 118, .v 119, .v 120, .v 121, .v 122, .v 123]) (by kernel_rfl) fun ρ hρ hd => ?_
  have ea : seg ρ 0 32 = a := seg_of (fun i hi => by
    rw [Nat.zero_add, hρ i (by show i < 64; omega)]
    simp only [flat, List.flatten_cons, List.flatten_nil, List.append_nil, List.getD_eq_getElem?_getD]
    rw [List.getElem?_append_left (by omega)]) la
  have eb : seg ρ 32 32 = b := seg_of (fun i hi => by
    rw [hρ (32 + i) (by show 32 + i < 64; omega)]
    simp only [flat, List.flatten_cons, List.flatten_nil, List.append_nil, List.getD_eq_getElem?_getD]
    rw [List.getElem?_append_right (by omega), la, Nat.add_sub_cancel_left]) lb
  simp only [D_nil, D_add, D_sub, D_mul, D_and, D_or, D_xor, D_shl, D_shr, D_andNot, D_quo, D_rem, D_add_i64, D_sub_i64, D_mul_i64, D_add_u32, D_sub_u32, D_mul_u32, D_add_u8, D_sub_u8, D_mul_u8, D_eql, D_neq, D_lss, D_leq, D_gtr, D_geq, D_not, D_conv, D_eqs, D_call, D_cond, D_need, D_idx, D_sel, D_upd, D_shv, D_beq, List.map_cons, List.map_nil, Ref.den] at hd
  obtain ⟨h1, h2, h3, h4, h5, h7, -⟩ := hd
  have e1 : seg ρ 64 8 = dg MM 8 (dv 256 (seg ρ 0 32)) := seg_of h1 (dg_len _ _ _)
  have e2 : seg ρ 72 4 = dg MM 4 (dv MM (seg ρ 64 8) % LL) := seg_of h2 (dg_len _ _ _)
  have e3 : seg ρ 76 8 = dg MM 8 (dv 256 (seg ρ 32 32)) := seg_of h3 (dg_len _ _ _)
  have e4 : seg ρ 84 4 = dg MM 4 (dv MM (seg ρ 76 8) % LL) := seg_of h4 (dg_len _ _ _)
  have e5 : seg ρ 88 4 = dg MM 4 (dv MM (seg ρ 72 4) * dv MM (seg ρ 84 4) % LL) := seg_of h5 (dg_len _ _ _)
  have e7 : seg ρ 92 32 = dg 256 32 (dv MM (seg ρ 88 4)) := seg_of h7 (dg_len _ _ _)
  rw [ea] at e1
  rw [eb] at e3
  rw [e1, dv_dg_of MM_pos bda.1 bda.2] at e2
  rw [e3, dv_dg_of MM_pos bdb.1 bdb.2] at e4
  rw [e2, e4, dv_dg_of MM_pos hma.1 (by omega), dv_dg_of MM_pos hmb.1 (by omega), ← Int.mul_emod] at e5
  have hm := mod_LL (dv 256 a * dv 256 b)
  rw [e5, dv_dg_of MM_pos hm.1 (by omega)] at e7
  refine ⟨by simp only [G_nil, G_bin, G_cmp, G_not, G_conv, G_eqs, G_call, G_cond, G_need, G_idx, G_sel, G_upd, G_shv, G_beq, List.map_cons, List.map_nil, Ref.den]; exact ⟨trivial, trivial, trivial, trivial, trivial, trivial, trivial⟩, ?_⟩
  exact e7
end Go.Proofs.Ytfobnajgnnccmaa.Sc

