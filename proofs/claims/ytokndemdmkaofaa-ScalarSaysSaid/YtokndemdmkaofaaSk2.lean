/- Numbers modulo L: what is shown of sums, differences, and of reading and writing. No condition. -/
import Derived.Test.YtokndemdmkaofaaSk1
import Derived.Test.YtokndemdmkaofaaSxD
namespace Go.Bx
theorem len4 {a : List Int} (h : a.length = 4) : ∃ x y z t, a = [x, y, z, t] := by
  match a, h with
  | [x, y, z, t], _ => exact ⟨x, y, z, t, rfl⟩
theorem len8 {a : List Int} (h : a.length = 8) : ∃ x y z t p q r s, a = [x, y, z, t, p, q, r, s] := by
  match a, h with
  | [x, y, z, t, p, q, r, s], _ => exact ⟨x, y, z, t, p, q, r, s, rfl⟩
theorem word_dig (x : Int) : dg 256 8 x = [x % 256, x / 2 ^ 8 % 256, x / 2 ^ 16 % 256, x / 2 ^ 24 % 256, x / 2 ^ 32 % 256, x / 2 ^ 40 % 256, x / 2 ^ 48 % 256, x / 2 ^ 56 % 256] := by
  simp only [dg, List.cons.injEq, and_true, true_and, Int.reducePow]; omega
theorem dv_two {b : Int} (l m : List Int) : dv b (l ++ m) = dv b l + b ^ l.length * dv b m := dv_append b l m
theorem dig_of {k : IntKind} {b : Int} {l : List Int} (h : ∀ z ∈ l, Go.Sx.InR k z) (hk : ∀ z, Go.Sx.InR k z → 0 ≤ z ∧ z < b) : Dig b l := ⟨fun x hx => hk x (h x hx)⟩
theorem dig64 {l : List Int} (h : ∀ z ∈ l, Go.Sx.InR .u64 z) : Dig MM l := dig_of h fun _ h => Go.Sx.in64 h
theorem dig8 {l : List Int} (h : ∀ z ∈ l, Go.Sx.InR .u8 z) : Dig 256 l := dig_of h fun _ h => Go.Sx.in8 h
theorem digl {b : Int} {l : List Int} (h : Dig b l) {i : Nat} (hi : i < l.length) : 0 ≤ l.getD i 0 ∧ l.getD i 0 < b := by
  rw [List.getD_eq_getElem?_getD, List.getElem?_eq_getElem hi]; exact h.d _ (List.getElem_mem hi)
theorem b2i_dec {x : Int} (p : Prop) [Decidable p] (h : x = Go.Sx.b2i (decide p)) : (p ∧ x = 1) ∨ (¬ p ∧ x = 0) := by
  subst h; by_cases hp : p <;> simp [hp, Go.Sx.b2i]
theorem b2i_congr {p q : Prop} {dp : Decidable p} {dq : Decidable q} (h : p ↔ q) : Go.Sx.b2i (@decide p dp) = Go.Sx.b2i (@decide q dq) := by
  by_cases hq : q
  · have hp := h.2 hq; simp [hp, hq]
  · have hp : ¬ p := fun x => hq (h.1 x); simp [hp, hq]
theorem LL_lt : 0 < LL ∧ 2 * LL < MM ^ 4 := by decide
end Go.Bx
namespace Go.Proofs.Ytokndemdmkaofaa
open Go.RowKit Go.Bx Go.Sx
set_option linter.unusedSimpArgs false
def cPlus : Ctr := ⟨43, 10, [.arr .u64 4, .arr .u64 4], [.arr .u64 4]⟩
def cLess : Ctr := ⟨48, 11, [.arr .u64 4, .arr .u64 4], [.arr .u64 4, .bool]⟩
def cCut : Ctr := ⟨44, 12, [.arr .u64 4], [.arr .u64 4]⟩
def cWord : Ctr := ⟨45, 13, [.arr .u64 4], [.arr .u8 32]⟩
def cFrom32 : Ctr := ⟨50, 14, [.row .u8 33 32], [.arr .u64 8]⟩
def cFrom64 : Ctr := ⟨50, 14, [.row .u8 37 64], [.arr .u64 8]⟩
def T0 : List Ctr := [cAdd, cSub, cMul]
theorem okT0 : ∀ c ∈ T0, CtrOK Try.prog sfns c := by
  intro c hc
  simp only [T0, List.mem_cons, List.not_mem_nil, or_false] at hc
  rcases hc with rfl | rfl | rfl
  · exact okAdd
  · exact okSub
  · exact okMul
/-- Two results of a call. -/
theorem two {ρ : Nat → Int} {n : Nat} {p q : Int} (h : ∀ i, i < total [.int .u64, .int .u64] → ρ (n + i) = ([p, q] : List Int).getD i 0) : ρ n = p ∧ ρ (n + 1) = q :=
  ⟨h 0 (by decide), h 1 (by decide)⟩
theorem okPlus : CtrOK Try.prog sfns cPlus := by
  refine CtrOK.of okT0 mixed (lf := 300) (d := 5) rfl fun w vs xs ha _ => ?_
  obtain ⟨v, u, a, b, rfl, rfl, ⟨la, -, ia⟩, ⟨lb, -, ib⟩⟩ := open2 ha
  obtain ⟨x0, x1, x2, x3, rfl⟩ := len4 la
  obtain ⟨y0, y1, y2, y3, rfl⟩ := len4 lb
  refine Go.Sx.Way.of (dec := []) (fs := [.need 0 [[.v 0], [.v 4], [.l 0]], .call 8 0 [[.v 0], [.v 4], [.l 0]] 2, .need 0 [[.v 1], [.v 5], [.v 9]], .call 10 0 [[.v 1], [.v 5], [.v 9]] 2, .need 0 [[.v 2], [.v 6], [.v 11]], .call 12 0 [[.v 2], [.v 6], [.v 11]] 2, .need 0 [[.v 3], [.v 7], [.v 13]], .call 14 0 [[.v 3], [.v 7], [.v 13]] 2]) (refs := [.v 8, .v 10, .v 12, .v 14]) (by kernel_rfl) fun ρ hρ hd => ?_
  have r0 : ρ 0 = x0 := hρ 0 (by decide)
  have r1 : ρ 1 = x1 := hρ 1 (by decide)
  have r2 : ρ 2 = x2 := hρ 2 (by decide)
  have r3 : ρ 3 = x3 := hρ 3 (by decide)
  have r4 : ρ 4 = y0 := hρ 4 (by decide)
  have r5 : ρ 5 = y1 := hρ 5 (by decide)
  have r6 : ρ 6 = y2 := hρ 6 (by decide)
  have r7 : ρ 7 = y3 := hρ 7 (by decide)
  simp only [D_nil, D_add, D_sub, D_mul, D_and, D_or, D_xor, D_shl, D_shr, D_andNot, D_quo, D_rem, D_add_i64, D_sub_i64, D_mul_i64, D_add_u32, D_sub_u32, D_mul_u32, D_add_u8, D_sub_u8, D_mul_u8, D_eql, D_neq, D_lss, D_leq, D_gtr, D_geq, D_not, D_conv, D_eqs, D_call, D_cond, D_need, D_idx, D_sel, D_upd, D_shv, D_beq, List.map_cons, List.map_nil, Ref.den, r0, r1, r2, r3, r4, r5, r6, r7] at hd
  obtain ⟨h0, h1, h2, h3, -⟩ := hd
  obtain ⟨a0, c0⟩ := two h0
  obtain ⟨a1, c1⟩ := two h1
  obtain ⟨a2, c2⟩ := two h2
  obtain ⟨a3, c3⟩ := two h3
  simp only [Nat.reduceAdd] at c0 c1 c2 c3
  have i0 := in64 (ia x0 (by simp))
  have i1 := in64 (ia x1 (by simp))
  have i2 := in64 (ia x2 (by simp))
  have i3 := in64 (ia x3 (by simp))
  have j0 := in64 (ib y0 (by simp))
  have j1 := in64 (ib y1 (by simp))
  have j2 := in64 (ib y2 (by simp))
  have j3 := in64 (ib y3 (by simp))
  unfold MM at a0 a1 a2 a3 c0 c1 c2 c3
  refine ⟨?_, ?_⟩
  · simp only [G_nil, G_bin, G_cmp, G_not, G_conv, G_eqs, G_call, G_cond, G_need, G_idx, G_sel, G_upd, G_shv, G_beq, List.map_cons, List.map_nil, Ref.den]
    exact ⟨.inl rfl, show ρ 9 = 0 ∨ ρ 9 = 1 by omega, show ρ 11 = 0 ∨ ρ 11 = 1 by omega, show ρ 13 = 0 ∨ ρ 13 = 1 by omega, trivial⟩
  · show [ρ 8, ρ 10, ρ 12, ρ 14] = dg MM 4 (dv MM [x0, x1, x2, x3] + dv MM [y0, y1, y2, y3])
    rw [dg_eq MM_pos (l := [ρ 8, ρ 10, ρ 12, ρ 14]) rfl (Dig.cons (by omega) (by unfold MM; omega) (Dig.cons (by omega) (by unfold MM; omega) (Dig.cons (by omega) (by unfold MM; omega) (Dig.cons (by omega) (by unfold MM; omega) Dig.nil)))) rfl]
    refine dg_cong MM_pos (-(ρ 15)) ?_
    show dv MM [ρ 8, ρ 10, ρ 12, ρ 14] = dv MM [x0, x1, x2, x3] + dv MM [y0, y1, y2, y3] + MM ^ 4 * -ρ 15
    rw [MM4]; simp only [dv, MM]; omega
theorem okLess : CtrOK Try.prog sfns cLess := by
  refine CtrOK.of okT0 mixed (lf := 300) (d := 5) rfl fun w vs xs ha _ => ?_
  obtain ⟨v, u, a, b, rfl, rfl, ⟨la, -, ia⟩, ⟨lb, -, ib⟩⟩ := open2 ha
  obtain ⟨x0, x1, x2, x3, rfl⟩ := len4 la
  obtain ⟨y0, y1, y2, y3, rfl⟩ := len4 lb
  refine Go.Sx.Way.of (dec := []) (fs := [.need 1 [[.v 0], [.v 4], [.l 0]], .call 8 1 [[.v 0], [.v 4], [.l 0]] 2, .need 1 [[.v 1], [.v 5], [.v 9]], .call 10 1 [[.v 1], [.v 5], [.v 9]] 2, .need 1 [[.v 2], [.v 6], [.v 11]], .call 12 1 [[.v 2], [.v 6], [.v 11]] 2, .need 1 [[.v 3], [.v 7], [.v 13]], .call 14 1 [[.v 3], [.v 7], [.v 13]] 2, .cmp 16 .neq (.v 15) (.l 0)]) (refs := [.v 8, .v 10, .v 12, .v 14, .v 16]) (by kernel_rfl) fun ρ hρ hd => ?_
  have r0 : ρ 0 = x0 := hρ 0 (by decide)
  have r1 : ρ 1 = x1 := hρ 1 (by decide)
  have r2 : ρ 2 = x2 := hρ 2 (by decide)
  have r3 : ρ 3 = x3 := hρ 3 (by decide)
  have r4 : ρ 4 = y0 := hρ 4 (by decide)
  have r5 : ρ 5 = y1 := hρ 5 (by decide)
  have r6 : ρ 6 = y2 := hρ 6 (by decide)
  have r7 : ρ 7 = y3 := hρ 7 (by decide)
  simp only [D_nil, D_add, D_sub, D_mul, D_and, D_or, D_xor, D_shl, D_shr, D_andNot, D_quo, D_rem, D_add_i64, D_sub_i64, D_mul_i64, D_add_u32, D_sub_u32, D_mul_u32, D_add_u8, D_sub_u8, D_mul_u8, D_eql, D_neq, D_lss, D_leq, D_gtr, D_geq, D_not, D_conv, D_eqs, D_call, D_cond, D_need, D_idx, D_sel, D_upd, D_shv, D_beq, List.map_cons, List.map_nil, Ref.den, r0, r1, r2, r3, r4, r5, r6, r7] at hd
  obtain ⟨h0, h1, h2, h3, h4, -⟩ := hd
  obtain ⟨a0, c0⟩ := two h0
  obtain ⟨a1, c1⟩ := two h1
  obtain ⟨a2, c2⟩ := two h2
  obtain ⟨a3, c3⟩ := two h3
  simp only [Nat.reduceAdd] at c0 c1 c2 c3
  have i0 := in64 (ia x0 (by simp))
  have i1 := in64 (ia x1 (by simp))
  have i2 := in64 (ia x2 (by simp))
  have i3 := in64 (ia x3 (by simp))
  have j0 := in64 (ib y0 (by simp))
  have j1 := in64 (ib y1 (by simp))
  have j2 := in64 (ib y2 (by simp))
  have j3 := in64 (ib y3 (by simp))
  unfold MM at a0 a1 a2 a3
  have b9 := b2i_dec (x0 < y0 + 0) c0
  have b11 := b2i_dec (x1 < y1 + ρ 9) c1
  have b13 := b2i_dec (x2 < y2 + ρ 11) c2
  have b15 := b2i_dec (x3 < y3 + ρ 13) c3
  clear c0 c1 c2 c3
  refine ⟨?_, ?_⟩
  · simp only [G_nil, G_bin, G_cmp, G_not, G_conv, G_eqs, G_call, G_cond, G_need, G_idx, G_sel, G_upd, G_shv, G_beq, List.map_cons, List.map_nil, Ref.den]
    exact ⟨.inl rfl, show ρ 9 = 0 ∨ ρ 9 = 1 by omega, show ρ 11 = 0 ∨ ρ 11 = 1 by omega, show ρ 13 = 0 ∨ ρ 13 = 1 by omega, trivial⟩
  · show [ρ 8, ρ 10, ρ 12, ρ 14, ρ 16] = dg MM 4 (dv MM [x0, x1, x2, x3] - dv MM [y0, y1, y2, y3]) ++ [b2i (decide (dv MM [x0, x1, x2, x3] < dv MM [y0, y1, y2, y3]))]
    have e5 : [ρ 8, ρ 10, ρ 12, ρ 14] = dg MM 4 (dv MM [x0, x1, x2, x3] - dv MM [y0, y1, y2, y3]) := by
      rw [dg_eq MM_pos (l := [ρ 8, ρ 10, ρ 12, ρ 14]) rfl (Dig.cons (by omega) (by unfold MM; omega) (Dig.cons (by omega) (by unfold MM; omega) (Dig.cons (by omega) (by unfold MM; omega) (Dig.cons (by omega) (by unfold MM; omega) Dig.nil)))) rfl]
      refine dg_cong MM_pos (ρ 15) ?_
      show dv MM [ρ 8, ρ 10, ρ 12, ρ 14] = dv MM [x0, x1, x2, x3] - dv MM [y0, y1, y2, y3] + MM ^ 4 * ρ 15
      rw [MM4]; simp only [dv, MM]; omega
    have e6 : ρ 16 = b2i (decide (dv MM [x0, x1, x2, x3] < dv MM [y0, y1, y2, y3])) := by
      rw [h4]
      refine b2i_congr ?_
      simp only [dv, MM]; omega
    rw [← e5, ← e6]; rfl
def T1 : List Ctr := [cAdd, cSub, cMul, cPlus, cLess]
theorem okT1 : ∀ c ∈ T1, CtrOK Try.prog sfns c := by
  intro c hc
  simp only [T1, List.mem_cons, List.not_mem_nil, or_false] at hc
  rcases hc with rfl | rfl | rfl | rfl | rfl
  · exact okAdd
  · exact okSub
  · exact okMul
  · exact okPlus
  · exact okLess
theorem limit_eq : dv MM [6346243789798364141, 1503914060200516822, 0, 1152921504606846976] = LL := by decide
theorem okCut : CtrOK Try.prog sfns cCut := by
  refine CtrOK.of okT1 mixed (lf := 300) (d := 5) rfl fun w vs xs ha _ => ?_
  obtain ⟨v, a, rfl, rfl, ⟨la, -, ia⟩⟩ := open1 ha
  have hb := dv_bound MM_pos (dig64 ia)
  obtain ⟨x0, x1, x2, x3, rfl⟩ := len4 la
  show Go.Sx.Way Try.prog sfns T1 300 5 cCut [[x0, x1, x2, x3]] (dg MM 4 (cutZ (dv MM [x0, x1, x2, x3])))
  by_cases hlt : dv MM [x0, x1, x2, x3] < LL
  · refine Go.Sx.Way.of (dec := [false]) (fs := [.need 11 [[.v 0, .v 1, .v 2, .v 3], [.l 6346243789798364141, .l 1503914060200516822, .l 0, .l 1152921504606846976]], .call 4 11 [[.v 0, .v 1, .v 2, .v 3], [.l 6346243789798364141, .l 1503914060200516822, .l 0, .l 1152921504606846976]] 5, .not 9 (.v 8), .cond 9 false]) (refs := [.v 0, .v 1, .v 2, .v 3]) (by kernel_rfl) fun ρ hρ hd => ?_
    have r0 : ρ 0 = x0 := hρ 0 (by decide)
    have r1 : ρ 1 = x1 := hρ 1 (by decide)
    have r2 : ρ 2 = x2 := hρ 2 (by decide)
    have r3 : ρ 3 = x3 := hρ 3 (by decide)
    simp only [D_nil, D_add, D_sub, D_mul, D_and, D_or, D_xor, D_shl, D_shr, D_andNot, D_quo, D_rem, D_add_i64, D_sub_i64, D_mul_i64, D_add_u32, D_sub_u32, D_mul_u32, D_add_u8, D_sub_u8, D_mul_u8, D_eql, D_neq, D_lss, D_leq, D_gtr, D_geq, D_not, D_conv, D_eqs, D_call, D_cond, D_need, D_idx, D_sel, D_upd, D_shv, D_beq, List.map_cons, List.map_nil, Ref.den, r0, r1, r2, r3] at hd
    obtain ⟨h0, h1, -⟩ := hd
    have e8 : ρ 8 = _ := h0 4 (by decide)
    have e8' : ρ 8 = b2i (decide (dv MM [x0, x1, x2, x3] < dv MM [6346243789798364141, 1503914060200516822, 0, 1152921504606846976])) := e8
    rw [limit_eq, decide_eq_true hlt] at e8'
    refine ⟨?_, ?_⟩
    · simp only [G_nil, G_bin, G_cmp, G_not, G_conv, G_eqs, G_call, G_cond, G_need, G_idx, G_sel, G_upd, G_shv, G_beq, List.map_cons, List.map_nil, Ref.den, h1, e8']; exact ⟨trivial, rfl, trivial⟩
    · show [ρ 0, ρ 1, ρ 2, ρ 3] = _
      rw [r0, r1, r2, r3, cutZ, if_pos hlt]
      exact (dg_dv MM_pos (dig64 ia)).symm
  · refine Go.Sx.Way.of (dec := [true]) (fs := [.need 11 [[.v 0, .v 1, .v 2, .v 3], [.l 6346243789798364141, .l 1503914060200516822, .l 0, .l 1152921504606846976]], .call 4 11 [[.v 0, .v 1, .v 2, .v 3], [.l 6346243789798364141, .l 1503914060200516822, .l 0, .l 1152921504606846976]] 5, .not 9 (.v 8), .cond 9 true]) (refs := [.v 4, .v 5, .v 6, .v 7]) (by kernel_rfl) fun ρ hρ hd => ?_
    have r0 : ρ 0 = x0 := hρ 0 (by decide)
    have r1 : ρ 1 = x1 := hρ 1 (by decide)
    have r2 : ρ 2 = x2 := hρ 2 (by decide)
    have r3 : ρ 3 = x3 := hρ 3 (by decide)
    simp only [D_nil, D_add, D_sub, D_mul, D_and, D_or, D_xor, D_shl, D_shr, D_andNot, D_quo, D_rem, D_add_i64, D_sub_i64, D_mul_i64, D_add_u32, D_sub_u32, D_mul_u32, D_add_u8, D_sub_u8, D_mul_u8, D_eql, D_neq, D_lss, D_leq, D_gtr, D_geq, D_not, D_conv, D_eqs, D_call, D_cond, D_need, D_idx, D_sel, D_upd, D_shv, D_beq, List.map_cons, List.map_nil, Ref.den, r0, r1, r2, r3] at hd
    obtain ⟨h0, h1, -⟩ := hd
    have e8 : ρ 8 = b2i (decide (dv MM [x0, x1, x2, x3] < dv MM [6346243789798364141, 1503914060200516822, 0, 1152921504606846976])) := h0 4 (by decide)
    rw [limit_eq, decide_eq_false hlt] at e8
    have key : ∀ i, i < 4 → ρ (4 + i) = (dg MM 4 (dv MM [x0, x1, x2, x3] - LL)).getD i 0 := fun i hi => by
      have := h0 i (by show i < 5; omega)
      rw [this, ← limit_eq]
      show (dg MM 4 (dv MM [x0, x1, x2, x3] - dv MM [6346243789798364141, 1503914060200516822, 0, 1152921504606846976]) ++ _).getD i 0 = _
      rw [List.getD_eq_getElem?_getD, List.getElem?_append_left (by rw [dg_len]; exact hi), List.getD_eq_getElem?_getD]
    refine ⟨?_, ?_⟩
    · simp only [G_nil, G_bin, G_cmp, G_not, G_conv, G_eqs, G_call, G_cond, G_need, G_idx, G_sel, G_upd, G_shv, G_beq, List.map_cons, List.map_nil, Ref.den, h1, e8]; exact ⟨trivial, rfl, trivial⟩
    · rw [cutZ, if_neg hlt, arr_eq (dg_len _ _ _) key]; rfl
#print axioms okCut
end Go.Proofs.Ytokndemdmkaofaa
