/- Numbers modulo p: what is shown of sums and differences. No condition. -/
import Derived.Test.YtfobnajgnnccmaaFk1
import Derived.Test.YtfobnajgnnccmaaSxB
import Derived.Test.YtfobnajgnnccmaaSxD
import Derived.Test.YtfobnajgnnccmaaSxS
namespace Go.Bx
theorem len4 {a : List Int} (h : a.length = 4) : ∃ x y z t, a = [x, y, z, t] := by
  match a, h with
  | [x, y, z, t], _ => exact ⟨x, y, z, t, rfl⟩
theorem len8 {a : List Int} (h : a.length = 8) : ∃ x y z t p q r s, a = [x, y, z, t, p, q, r, s] := by
  match a, h with
  | [x, y, z, t, p, q, r, s], _ => exact ⟨x, y, z, t, p, q, r, s, rfl⟩
theorem word_dig (x : Int) : dg 256 8 x = [x % 256, x / 2 ^ 8 % 256, x / 2 ^ 16 % 256, x / 2 ^ 24 % 256, x / 2 ^ 32 % 256, x / 2 ^ 40 % 256, x / 2 ^ 48 % 256, x / 2 ^ 56 % 256] := by
  simp only [dg, List.cons.injEq, and_true, true_and, Int.reducePow]; omega
theorem dv_two {b : Int} (l m : List Int) : dv b (l ++ m) = dv b l + b ^ l.length * dv b m := dv_append b l m
theorem dig_of {k : IntKind} {b : Int} {l : List Int} (h : ∀ z ∈ l, Go.Sx.InR k z) (hk : ∀ z, Go.Sx.InR k z → 0 ≤ z ∧ z < b) : Dig b l := ⟨fun x hx => hk x (h x hx)⟩
theorem dig64 {l : List Int} (h : ∀ z ∈ l, Go.Sx.InR .u64 z) : Dig MM l := dig_of h fun _ h => Go.Sx.in64 h
theorem dig8 {l : List Int} (h : ∀ z ∈ l, Go.Sx.InR .u8 z) : Dig 256 l := dig_of h fun _ h => Go.Sx.in8 h
theorem digl {b : Int} {l : List Int} (h : Dig b l) {i : Nat} (hi : i < l.length) : 0 ≤ l.getD i 0 ∧ l.getD i 0 < b := by
  rw [List.getD_eq_getElem?_getD, List.getElem?_eq_getElem hi]; exact h.d _ (List.getElem_mem hi)
theorem b2i_dec {x : Int} (p : Prop) [Decidable p] (h : x = Go.Sx.b2i (decide p)) : (p ∧ x = 1) ∨ (¬ p ∧ x = 0) := by
  subst h; by_cases hp : p <;> simp [hp, Go.Sx.b2i]
theorem b2i_congr {p q : Prop} {dp : Decidable p} {dq : Decidable q} (h : p ↔ q) : Go.Sx.b2i (@decide p dp) = Go.Sx.b2i (@decide q dq) := by
  by_cases hq : q
  · have hp := h.2 hq; simp [hp, hq]
  · have hp : ¬ p := fun x => hq (h.1 x); simp [hp, hq]
theorem dv_dg_of {b : Int} (hb : 0 < b) {k : Nat} {n : Int} (h0 : 0 ≤ n) (h1 : n < b ^ k) : dv b (dg b k n) = n := by rw [dv_dg hb, Int.emod_eq_of_lt h0 h1]
theorem PP_lt : 0 < PP ∧ WW = 2 * PP + 38 ∧ WW = MM ^ 4 ∧ WW = 256 ^ 32 ∧ 1000 < PP := by decide
end Go.Bx
namespace Go.Proofs.Ytfobnajgnnccmaa
open Go.RowKit Go.Bx Go.Sx
set_option linter.unusedSimpArgs false
def cFrom : Ctr := ⟨53, 10, [.arr .u8 32], [.arr .u64 4]⟩
def cLess : Ctr := ⟨81, 11, [.arr .u64 4, .arr .u64 4], [.arr .u64 4, .bool]⟩
def cNorm : Ctr := ⟨84, 12, [.arr .u64 4], [.arr .u64 4]⟩
def cWord : Ctr := ⟨51, 13, [.arr .u64 4], [.arr .u8 32]⟩
def cFold : Ctr := ⟨86, 14, [.arr .u64 4, .int .u64], [.arr .u64 4]⟩
def cPlus : Ctr := ⟨56, 15, [.arr .u64 4, .arr .u64 4], [.arr .u64 4]⟩
def cMinus : Ctr := ⟨47, 16, [.arr .u64 4, .arr .u64 4], [.arr .u64 4]⟩
def cTimes : Ctr := ⟨54, 18, [.arr .u64 4, .arr .u64 4], [.arr .u64 4]⟩
def cPower : Ctr := ⟨88, 19, [.arr .u64 4, .arr .u64 4], [.arr .u64 4]⟩
def T0 : List Ctr := [cAdd, cSub, cMul]
theorem okT0 : ∀ c ∈ T0, CtrOK Try.prog sfns c := by
  intro c hc
  simp only [T0, List.mem_cons, List.not_mem_nil, or_false] at hc
  rcases hc with rfl | rfl | rfl
  · exact okAdd
  · exact okSub
  · exact okMul
/-- Two results of a call. -/
theorem two {ρ : Nat → Int} {n : Nat} {p q : Int} (h : ∀ i, i < total [.int .u64, .int .u64] → ρ (n + i) = ([p, q] : List Int).getD i 0) : ρ n = p ∧ ρ (n + 1) = q :=
  ⟨h 0 (by decide), h 1 (by decide)⟩
theorem okLess : CtrOK Try.prog sfns cLess := by
  refine CtrOK.of okT0 mixed (lf := 300) (d := 5) rfl fun w vs xs ha _ => ?_
  obtain ⟨v, u, a, b, rfl, rfl, ⟨la, -, ia⟩, ⟨lb, -, ib⟩⟩ := open2 ha
  obtain ⟨x0, x1, x2, x3, rfl⟩ := len4 la
  obtain ⟨y0, y1, y2, y3, rfl⟩ := len4 lb
  refine Go.Sx.Way.of (dec := []) (fs := [.need 1 [[.v 0], [.v 4], [.l 0]], .call 8 1 [[.v 0], [.v 4], [.l 0]] 2, .need 1 [[.v 1], [.v 5], [.v 9]], .call 10 1 [[.v 1], [.v 5], [.v 9]] 2, .need 1 [[.v 2], [.v 6], [.v 11]], .call 12 1 [[.v 2], [.v 6], [.v 11]] 2, .need 1 [[.v 3], [.v 7], [.v 13]], .call 14 1 [[.v 3], [.v 7], [.v 13]] 2, .cmp 16 .neq (.v 15) (.l 0)]) (refs := [.v 8, .v 10, .v 12, .v 14, .v 16]) (by kernel_rfl) fun ρ hρ hd => ?_
  have r0 : ρ 0 = x0 := hρ 0 (by decide)
  have r1 : ρ 1 = x1 := hρ 1 (by decide)
  have r2 : ρ 2 = x2 := hρ 2 (by decide)
  have r3 : ρ 3 = x3 := hρ 3 (by decide)
  have r4 : ρ 4 = y0 := hρ 4 (by decide)
  have r5 : ρ 5 = y1 := hρ 5 (by decide)
  have r6 : ρ 6 = y2 := hρ 6 (by decide)
  have r7 : ρ 7 = y3 := hρ 7 (by decide)
  simp only [D_nil, D_add, D_sub, D_mul, D_and, D_or, D_xor, D_shl, D_shr, D_andNot, D_quo, D_rem, D_add_i64, D_sub_i64, D_mul_i64, D_add_u32, D_sub_u32, D_mul_u32, D_add_u8, D_sub_u8, D_mul_u8, D_eql, D_neq, D_lss, D_leq, D_gtr, D_geq, D_not, D_conv, D_eqs, D_call, D_cond, D_need, D_idx, D_sel, D_upd, D_shv, D_beq, List.map_cons, List.map_nil, Ref.den, r0, r1, r2, r3, r4, r5, r6, r7] at hd
  obtain ⟨h0, h1, h2, h3, h4, -⟩ := hd
  obtain ⟨a0, c0⟩ := two h0
  obtain ⟨a1, c1⟩ := two h1
  obtain ⟨a2, c2⟩ := two h2
  obtain ⟨a3, c3⟩ := two h3
  simp only [Nat.reduceAdd] at c0 c1 c2 c3
  have i0 := in64 (ia x0 (by simp))
  have i1 := in64 (ia x1 (by simp))
  have i2 := in64 (ia x2 (by simp))
  have i3 := in64 (ia x3 (by simp))
  have j0 := in64 (ib y0 (by simp))
  have j1 := in64 (ib y1 (by simp))
  have j2 := in64 (ib y2 (by simp))
  have j3 := in64 (ib y3 (by simp))
  unfold MM at a0 a1 a2 a3
  have b9 := b2i_dec (x0 < y0 + 0) c0
  have b11 := b2i_dec (x1 < y1 + ρ 9) c1
  have b13 := b2i_dec (x2 < y2 + ρ 11) c2
  have b15 := b2i_dec (x3 < y3 + ρ 13) c3
  clear c0 c1 c2 c3
  refine ⟨?_, ?_⟩
  · simp only [G_nil, G_bin, G_cmp, G_not, G_conv, G_eqs, G_call, G_cond, G_need, G_idx, G_sel, G_upd, G_shv, G_beq, List.map_cons, List.map_nil, Ref.den]
    exact ⟨.inl rfl, show ρ 9 = 0 ∨ ρ 9 = 1 by omega, show ρ 11 = 0 ∨ ρ 11 = 1 by omega, show ρ 13 = 0 ∨ ρ 13 = 1 by omega, trivial⟩
  · show [ρ 8, ρ 10, ρ 12, ρ 14, ρ 16] = dg MM 4 (dv MM [x0, x1, x2, x3] - dv MM [y0, y1, y2, y3]) ++ [b2i (decide (dv MM [x0, x1, x2, x3] < dv MM [y0, y1, y2, y3]))]
    have e5 : [ρ 8, ρ 10, ρ 12, ρ 14] = dg MM 4 (dv MM [x0, x1, x2, x3] - dv MM [y0, y1, y2, y3]) := by
      rw [dg_eq MM_pos (l := [ρ 8, ρ 10, ρ 12, ρ 14]) rfl (Dig.cons (by omega) (by unfold MM; omega) (Dig.cons (by omega) (by unfold MM; omega) (Dig.cons (by omega) (by unfold MM; omega) (Dig.cons (by omega) (by unfold MM; omega) Dig.nil)))) rfl]
      refine dg_cong MM_pos (ρ 15) ?_
      show dv MM [ρ 8, ρ 10, ρ 12, ρ 14] = dv MM [x0, x1, x2, x3] - dv MM [y0, y1, y2, y3] + MM ^ 4 * ρ 15
      rw [MM4]; simp only [dv, MM]; omega
    have e6 : ρ 16 = b2i (decide (dv MM [x0, x1, x2, x3] < dv MM [y0, y1, y2, y3])) := by
      rw [h4]
      refine b2i_congr ?_
      simp only [dv, MM]; omega
    rw [← e5, ← e6]; rfl
def T1 : List Ctr := [cLess]
theorem okT1 : ∀ c ∈ T1, CtrOK Try.prog sfns c := by
  intro c hc
  simp only [T1, List.mem_cons, List.not_mem_nil, or_false] at hc
  rcases hc with rfl
  exact okLess
theorem prime_eq : dv MM [18446744073709551597, 18446744073709551615, 18446744073709551615, 9223372036854775807] = PP := by decide
theorem less_seg {ρ : Nat → Int} {n : Nat} {a b : List Int} (h : ∀ i, i < 5 → ρ (n + i) = (dg MM 4 (dv MM a - dv MM b) ++ [b2i (decide (dv MM a < dv MM b))]).getD i 0) :
    seg ρ n 4 = dg MM 4 (dv MM a - dv MM b) ∧ ρ (n + 4) = b2i (decide (dv MM a < dv MM b)) := by
  refine ⟨seg_of (fun i hi => ?_) (dg_len _ _ _), h 4 (by decide)⟩
  rw [h i (by omega), List.getD_eq_getElem?_getD, List.getElem?_append_left (by rw [dg_len]; exact hi), List.getD_eq_getElem?_getD]
theorem bdW {a : List Int} (la : a.length = 4) (ia : ∀ z ∈ a, InR .u64 z) : 0 ≤ dv MM a ∧ dv MM a < WW := by
  have := dv_bound MM_pos (dig64 ia)
  rw [la] at this
  have := PP_lt
  omega
theorem dvW {x : Int} (h0 : 0 ≤ x) (h1 : x < WW) : dv MM (dg MM 4 x) = x := dv_dg_of MM_pos h0 (by have := PP_lt; omega)
theorem seg0 {ρ : Nat → Int} {a : List Int} {n : Nat} (la : a.length = n) (hρ : ∀ i, i < n → ρ i = flat [a] i) : seg ρ 0 n = a := seg_of (fun i hi => by rw [Nat.zero_add, hρ i hi]; simp only [flat, List.flatten_cons, List.flatten_nil, List.append_nil]) la
theorem seg2 {ρ : Nat → Int} {a b : List Int} {n m : Nat} (la : a.length = n) (lb : b.length = m) (hρ : ∀ i, i < n + m → ρ i = flat [a, b] i) : seg ρ 0 n = a ∧ seg ρ n m = b := by
  refine ⟨seg_of (fun i hi => ?_) la, seg_of (fun i hi => ?_) lb⟩
  · rw [Nat.zero_add, hρ i (by omega)]
    simp only [flat, List.flatten_cons, List.flatten_nil, List.append_nil, List.getD_eq_getElem?_getD]
    rw [List.getElem?_append_left (by omega)]
  · rw [hρ (n + i) (by omega)]
    simp only [flat, List.flatten_cons, List.flatten_nil, List.append_nil, List.getD_eq_getElem?_getD]
    rw [List.getElem?_append_right (by omega), la, Nat.add_sub_cancel_left]
theorem okNorm : CtrOK Try.prog sfns cNorm := by
  refine CtrOK.of okT1 mixed (lf := 300) (d := 5) rfl fun w vs xs ha _ => ?_
  obtain ⟨v, a, rfl, rfl, ⟨la, -, ia⟩⟩ := open1 ha
  have hb := bdW la ia
  have hP := PP_lt
  have hdig : dg MM 4 (dv MM a) = a := by have := dg_dv MM_pos (dig64 ia); rwa [la] at this
  show Go.Sx.Way Try.prog sfns T1 300 5 cNorm [a] (dg MM 4 (dv MM a % PP))
  by_cases h1 : dv MM a < PP
  · refine Go.Sx.Way.of (dec := [true]) (fs := [.need 11 [[.v 0, .v 1, .v 2, .v 3], [.l 18446744073709551597, .l 18446744073709551615, .l 18446744073709551615, .l 9223372036854775807]], .call 4 11 [[.v 0, .v 1, .v 2, .v 3], [.l 18446744073709551597, .l 18446744073709551615, .l 18446744073709551615, .l 9223372036854775807]] 5, .cond 8 true]) (refs := [.v 0, .v 1, .v 2, .v 3]) (by kernel_rfl) fun ρ hρ hd => ?_
    have ea := seg0 la hρ
    simp only [D_nil, D_add, D_sub, D_mul, D_and, D_or, D_xor, D_shl, D_shr, D_andNot, D_quo, D_rem, D_add_i64, D_sub_i64, D_mul_i64, D_add_u32, D_sub_u32, D_mul_u32, D_add_u8, D_sub_u8, D_mul_u8, D_eql, D_neq, D_lss, D_leq, D_gtr, D_geq, D_not, D_conv, D_eqs, D_call, D_cond, D_need, D_idx, D_sel, D_upd, D_shv, D_beq, List.map_cons, List.map_nil, Ref.den] at hd
    obtain ⟨h4, -⟩ := hd
    obtain ⟨s4, c4⟩ := less_seg (a := seg ρ 0 4) (b := [18446744073709551597, 18446744073709551615, 18446744073709551615, 9223372036854775807]) h4
    rw [ea, prime_eq] at c4
    refine ⟨?_, ?_⟩
    · simp only [G_nil, G_bin, G_cmp, G_not, G_conv, G_eqs, G_call, G_cond, G_need, G_idx, G_sel, G_upd, G_shv, G_beq, List.map_cons, List.map_nil, Ref.den]; exact ⟨trivial, bit_true c4 (decide_eq_true h1), trivial⟩
    · show seg ρ 0 4 = _
      rw [ea, Int.emod_eq_of_lt hb.1 h1, hdig]
  · by_cases h2 : dv MM a < 2 * PP
    · refine Go.Sx.Way.of (dec := [false,true]) (fs := [.need 11 [[.v 0, .v 1, .v 2, .v 3], [.l 18446744073709551597, .l 18446744073709551615, .l 18446744073709551615, .l 9223372036854775807]], .call 4 11 [[.v 0, .v 1, .v 2, .v 3], [.l 18446744073709551597, .l 18446744073709551615, .l 18446744073709551615, .l 9223372036854775807]] 5, .cond 8 false, .need 11 [[.v 4, .v 5, .v 6, .v 7], [.l 18446744073709551597, .l 18446744073709551615, .l 18446744073709551615, .l 9223372036854775807]], .call 9 11 [[.v 4, .v 5, .v 6, .v 7], [.l 18446744073709551597, .l 18446744073709551615, .l 18446744073709551615, .l 9223372036854775807]] 5, .cond 13 true]) (refs := [.v 4, .v 5, .v 6, .v 7]) (by kernel_rfl) fun ρ hρ hd => ?_
      have ea := seg0 la hρ
      simp only [D_nil, D_add, D_sub, D_mul, D_and, D_or, D_xor, D_shl, D_shr, D_andNot, D_quo, D_rem, D_add_i64, D_sub_i64, D_mul_i64, D_add_u32, D_sub_u32, D_mul_u32, D_add_u8, D_sub_u8, D_mul_u8, D_eql, D_neq, D_lss, D_leq, D_gtr, D_geq, D_not, D_conv, D_eqs, D_call, D_cond, D_need, D_idx, D_sel, D_upd, D_shv, D_beq, List.map_cons, List.map_nil, Ref.den] at hd
      obtain ⟨h4, h9, -⟩ := hd
      obtain ⟨s4, c4⟩ := less_seg (a := seg ρ 0 4) (b := [18446744073709551597, 18446744073709551615, 18446744073709551615, 9223372036854775807]) h4
      obtain ⟨s9, c9⟩ := less_seg (a := seg ρ 4 4) (b := [18446744073709551597, 18446744073709551615, 18446744073709551615, 9223372036854775807]) h9
      rw [ea, prime_eq] at c4 s4
      rw [s4, dvW (by omega) (by omega), prime_eq] at c9
      refine ⟨?_, ?_⟩
      · simp only [G_nil, G_bin, G_cmp, G_not, G_conv, G_eqs, G_call, G_cond, G_need, G_idx, G_sel, G_upd, G_shv, G_beq, List.map_cons, List.map_nil, Ref.den]; exact ⟨trivial, bit_false c4 (decide_eq_false h1), trivial, bit_true c9 (decide_eq_true (by omega)), trivial⟩
      · show seg ρ 4 4 = _
        rw [s4]; congr 1
        rw [← Int.sub_emod_right, Int.emod_eq_of_lt (by omega) (by omega)]
    · refine Go.Sx.Way.of (dec := [false,false,true]) (fs := [.need 11 [[.v 0, .v 1, .v 2, .v 3], [.l 18446744073709551597, .l 18446744073709551615, .l 18446744073709551615, .l 9223372036854775807]], .call 4 11 [[.v 0, .v 1, .v 2, .v 3], [.l 18446744073709551597, .l 18446744073709551615, .l 18446744073709551615, .l 9223372036854775807]] 5, .cond 8 false, .need 11 [[.v 4, .v 5, .v 6, .v 7], [.l 18446744073709551597, .l 18446744073709551615, .l 18446744073709551615, .l 9223372036854775807]], .call 9 11 [[.v 4, .v 5, .v 6, .v 7], [.l 18446744073709551597, .l 18446744073709551615, .l 18446744073709551615, .l 9223372036854775807]] 5, .cond 13 false, .need 11 [[.v 9, .v 10, .v 11, .v 12], [.l 18446744073709551597, .l 18446744073709551615, .l 18446744073709551615, .l 9223372036854775807]], .call 14 11 [[.v 9, .v 10, .v 11, .v 12], [.l 18446744073709551597, .l 18446744073709551615, .l 18446744073709551615, .l 9223372036854775807]] 5, .cond 18 true]) (refs := [.v 9, .v 10, .v 11, .v 12]) (by kernel_rfl) fun ρ hρ hd => ?_
      have ea := seg0 la hρ
      simp only [D_nil, D_add, D_sub, D_mul, D_and, D_or, D_xor, D_shl, D_shr, D_andNot, D_quo, D_rem, D_add_i64, D_sub_i64, D_mul_i64, D_add_u32, D_sub_u32, D_mul_u32, D_add_u8, D_sub_u8, D_mul_u8, D_eql, D_neq, D_lss, D_leq, D_gtr, D_geq, D_not, D_conv, D_eqs, D_call, D_cond, D_need, D_idx, D_sel, D_upd, D_shv, D_beq, List.map_cons, List.map_nil, Ref.den] at hd
      obtain ⟨h4, h9, h14, -⟩ := hd
      obtain ⟨s4, c4⟩ := less_seg (a := seg ρ 0 4) (b := [18446744073709551597, 18446744073709551615, 18446744073709551615, 9223372036854775807]) h4
      obtain ⟨s9, c9⟩ := less_seg (a := seg ρ 4 4) (b := [18446744073709551597, 18446744073709551615, 18446744073709551615, 9223372036854775807]) h9
      obtain ⟨s14, c14⟩ := less_seg (a := seg ρ 9 4) (b := [18446744073709551597, 18446744073709551615, 18446744073709551615, 9223372036854775807]) h14
      rw [ea, prime_eq] at c4 s4
      rw [s4, dvW (by omega) (by omega), prime_eq] at c9 s9
      rw [s9, dvW (by omega) (by omega), prime_eq] at c14
      refine ⟨?_, ?_⟩
      · simp only [G_nil, G_bin, G_cmp, G_not, G_conv, G_eqs, G_call, G_cond, G_need, G_idx, G_sel, G_upd, G_shv, G_beq, List.map_cons, List.map_nil, Ref.den]; exact ⟨trivial, bit_false c4 (decide_eq_false h1), trivial, bit_false c9 (decide_eq_false (by omega)), trivial, bit_true c14 (decide_eq_true (by omega)), trivial⟩
      · show seg ρ 9 4 = _
        rw [s9]; congr 1
        rw [← Int.sub_emod_right, ← Int.sub_emod_right, Int.emod_eq_of_lt (by omega) (by omega)]
theorem okMinus : CtrOK Try.prog sfns cMinus := by
  refine CtrOK.of okT1 mixed (lf := 300) (d := 5) rfl fun w vs xs ha _ => ?_
  obtain ⟨v, u, a, b, rfl, rfl, ⟨la, -, ia⟩, ⟨lb, -, ib⟩⟩ := open2 ha
  have hA := bdW la ia
  have hB := bdW lb ib
  have hP := PP_lt
  have e38 : dv MM [38, 0, 0, 0] = 38 := by decide
  have down : ∀ z, dg MM 4 z = dg MM 4 (z + WW) := fun z => dg_cong MM_pos (-1) (by rw [hP.2.2.1]; omega)
  show Go.Sx.Way Try.prog sfns T1 300 5 cMinus [a, b] (dg MM 4 (minZ (dv MM a) (dv MM b)))
  by_cases h1 : dv MM b ≤ dv MM a
  · refine Go.Sx.Way.of (dec := [false]) (fs := [.need 11 [[.v 0, .v 1, .v 2, .v 3], [.v 4, .v 5, .v 6, .v 7]], .call 8 11 [[.v 0, .v 1, .v 2, .v 3], [.v 4, .v 5, .v 6, .v 7]] 5, .cond 12 false]) (refs := [.v 8, .v 9, .v 10, .v 11]) (by kernel_rfl) fun ρ hρ hd => ?_
    obtain ⟨ea, eb⟩ := seg2 la lb hρ
    simp only [D_nil, D_add, D_sub, D_mul, D_and, D_or, D_xor, D_shl, D_shr, D_andNot, D_quo, D_rem, D_add_i64, D_sub_i64, D_mul_i64, D_add_u32, D_sub_u32, D_mul_u32, D_add_u8, D_sub_u8, D_mul_u8, D_eql, D_neq, D_lss, D_leq, D_gtr, D_geq, D_not, D_conv, D_eqs, D_call, D_cond, D_need, D_idx, D_sel, D_upd, D_shv, D_beq, List.map_cons, List.map_nil, Ref.den] at hd
    obtain ⟨h8, -⟩ := hd
    obtain ⟨s8, c8⟩ := less_seg (a := seg ρ 0 4) (b := seg ρ 4 4) h8
    rw [ea, eb] at c8 s8
    refine ⟨?_, ?_⟩
    · simp only [G_nil, G_bin, G_cmp, G_not, G_conv, G_eqs, G_call, G_cond, G_need, G_idx, G_sel, G_upd, G_shv, G_beq, List.map_cons, List.map_nil, Ref.den]; exact ⟨trivial, bit_false c8 (decide_eq_false (by omega)), trivial⟩
    · show seg ρ 8 4 = _
      rw [s8, minZ, if_pos h1]
  · by_cases h2 : 38 ≤ dv MM a - dv MM b + WW
    · refine Go.Sx.Way.of (dec := [true,false]) (fs := [.need 11 [[.v 0, .v 1, .v 2, .v 3], [.v 4, .v 5, .v 6, .v 7]], .call 8 11 [[.v 0, .v 1, .v 2, .v 3], [.v 4, .v 5, .v 6, .v 7]] 5, .cond 12 true, .need 11 [[.v 8, .v 9, .v 10, .v 11], [.l 38, .l 0, .l 0, .l 0]], .call 13 11 [[.v 8, .v 9, .v 10, .v 11], [.l 38, .l 0, .l 0, .l 0]] 5, .cond 17 false]) (refs := [.v 13, .v 14, .v 15, .v 16]) (by kernel_rfl) fun ρ hρ hd => ?_
      obtain ⟨ea, eb⟩ := seg2 la lb hρ
      simp only [D_nil, D_add, D_sub, D_mul, D_and, D_or, D_xor, D_shl, D_shr, D_andNot, D_quo, D_rem, D_add_i64, D_sub_i64, D_mul_i64, D_add_u32, D_sub_u32, D_mul_u32, D_add_u8, D_sub_u8, D_mul_u8, D_eql, D_neq, D_lss, D_leq, D_gtr, D_geq, D_not, D_conv, D_eqs, D_call, D_cond, D_need, D_idx, D_sel, D_upd, D_shv, D_beq, List.map_cons, List.map_nil, Ref.den] at hd
      obtain ⟨h8, h13, -⟩ := hd
      obtain ⟨s8, c8⟩ := less_seg (a := seg ρ 0 4) (b := seg ρ 4 4) h8
      obtain ⟨s13, c13⟩ := less_seg (a := seg ρ 8 4) (b := [38, 0, 0, 0]) h13
      rw [ea, eb] at c8 s8
      rw [s8.trans (down _), dvW (by omega) (by omega), e38] at c13 s13
      refine ⟨?_, ?_⟩
      · simp only [G_nil, G_bin, G_cmp, G_not, G_conv, G_eqs, G_call, G_cond, G_need, G_idx, G_sel, G_upd, G_shv, G_beq, List.map_cons, List.map_nil, Ref.den]; exact ⟨trivial, bit_true c8 (decide_eq_true (by omega)), trivial, bit_false c13 (decide_eq_false (by omega)), trivial⟩
      · show seg ρ 13 4 = _
        rw [s13, minZ, if_neg h1, if_pos h2]
    · refine Go.Sx.Way.of (dec := [true,true,false]) (fs := [.need 11 [[.v 0, .v 1, .v 2, .v 3], [.v 4, .v 5, .v 6, .v 7]], .call 8 11 [[.v 0, .v 1, .v 2, .v 3], [.v 4, .v 5, .v 6, .v 7]] 5, .cond 12 true, .need 11 [[.v 8, .v 9, .v 10, .v 11], [.l 38, .l 0, .l 0, .l 0]], .call 13 11 [[.v 8, .v 9, .v 10, .v 11], [.l 38, .l 0, .l 0, .l 0]] 5, .cond 17 true, .need 11 [[.v 13, .v 14, .v 15, .v 16], [.l 38, .l 0, .l 0, .l 0]], .call 18 11 [[.v 13, .v 14, .v 15, .v 16], [.l 38, .l 0, .l 0, .l 0]] 5, .cond 22 false]) (refs := [.v 18, .v 19, .v 20, .v 21]) (by kernel_rfl) fun ρ hρ hd => ?_
      obtain ⟨ea, eb⟩ := seg2 la lb hρ
      simp only [D_nil, D_add, D_sub, D_mul, D_and, D_or, D_xor, D_shl, D_shr, D_andNot, D_quo, D_rem, D_add_i64, D_sub_i64, D_mul_i64, D_add_u32, D_sub_u32, D_mul_u32, D_add_u8, D_sub_u8, D_mul_u8, D_eql, D_neq, D_lss, D_leq, D_gtr, D_geq, D_not, D_conv, D_eqs, D_call, D_cond, D_need, D_idx, D_sel, D_upd, D_shv, D_beq, List.map_cons, List.map_nil, Ref.den] at hd
      obtain ⟨h8, h13, h18, -⟩ := hd
      obtain ⟨s8, c8⟩ := less_seg (a := seg ρ 0 4) (b := seg ρ 4 4) h8
      obtain ⟨s13, c13⟩ := less_seg (a := seg ρ 8 4) (b := [38, 0, 0, 0]) h13
      obtain ⟨s18, c18⟩ := less_seg (a := seg ρ 13 4) (b := [38, 0, 0, 0]) h18
      rw [ea, eb] at c8 s8
      rw [s8.trans (down _), dvW (by omega) (by omega), e38] at c13 s13
      rw [s13.trans (down _), dvW (by omega) (by omega), e38] at c18 s18
      refine ⟨?_, ?_⟩
      · simp only [G_nil, G_bin, G_cmp, G_not, G_conv, G_eqs, G_call, G_cond, G_need, G_idx, G_sel, G_upd, G_shv, G_beq, List.map_cons, List.map_nil, Ref.den]; exact ⟨trivial, bit_true c8 (decide_eq_true (by omega)), trivial, bit_true c13 (decide_eq_true (by omega)), trivial, bit_false c18 (decide_eq_false (by omega)), trivial⟩
      · show seg ρ 18 4 = _
        rw [s18, minZ, if_neg h1, if_neg h2]
        congr 1; omega
#print axioms okMinus
end Go.Proofs.Ytfobnajgnnccmaa
