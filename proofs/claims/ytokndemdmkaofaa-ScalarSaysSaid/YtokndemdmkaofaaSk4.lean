/- Numbers modulo L: what is shown of norm. No condition. -/
import Derived.Test.YtokndemdmkaofaaSk2
import Derived.Test.YtokndemdmkaofaaSxL
import Derived.Test.YtokndemdmkaofaaPlainM
namespace Go.Bx
theorem cutZ_mod {z : Int} (h0 : 0 ≤ z) (h1 : z < 2 * LL) : cutZ z = z % LL := by
  unfold cutZ; split
  · exact (Int.emod_eq_of_lt h0 ‹_›).symm
  · rw [← Int.sub_emod_right z LL, Int.emod_eq_of_lt (by omega) (by omega)]
theorem cut_step (X : Int) (n : Nat) : cutZ (2 * (X / 2 ^ (n + 1) % LL) + X / 2 ^ n % 2) = X / 2 ^ n % LL := by
  have hL := LL_lt.1
  have h1 := Int.emod_nonneg (X / 2 ^ (n + 1)) (b := LL) (by omega)
  have h2 := Int.emod_lt_of_pos (X / 2 ^ (n + 1)) hL
  have h3 := Int.emod_nonneg (X / 2 ^ n) (b := 2) (by omega)
  have h4 := Int.emod_lt_of_pos (X / 2 ^ n) (b := 2) (by omega)
  rw [cutZ_mod (by omega) (by omega), mod_step]
theorem MM_two : (2 : Int) ^ 64 = MM := by decide
theorem len9 {a : Nat → Int} {n : Nat} {f : Nat → Int} (h : ∀ i, i < n → a i = f i) : (List.range n).map a = (List.range n).map f := List.map_congr_left fun i hi => h i (List.mem_range.1 hi)
end Go.Bx
namespace Go.Proofs.Ytokndemdmkaofaa
open Go.RowKit Go.Bx Go.Sx
set_option linter.unusedSimpArgs false
def cNorm : Ctr := ⟨49, 3, [.arr .u64 8], [.arr .u64 4]⟩
def T2 : List Ctr := [cPlus, cCut]
theorem okT2 : ∀ c ∈ T2, CtrOK Try.prog sfns c := by
  intro c hc
  simp only [T2, List.mem_cons, List.not_mem_nil, or_false] at hc
  rcases hc with rfl | rfl
  · exact okPlus
  · exact okCut
noncomputable def normT : LoopT := ⟨[.any, .c (.ptr 0 0), .c (.ptr 1 0), .c (.ptr 2 0), .c (.int .i64 (.v 0)), .any, .any, .any, .any, .any, .any, .any, .any, .any, .any, .any, .any, .any, .any, .any, .any, .any, .any, .any, .any, .any, .any], [some ⟨71, [.int .u64 (.v 1), .int .u64 (.v 2), .int .u64 (.v 3), .int .u64 (.v 4), .int .u64 (.v 5), .int .u64 (.v 6), .int .u64 (.v 7), .int .u64 (.v 8)]⟩, some ⟨64, [.int .u64 (.l 0), .int .u64 (.l 0), .int .u64 (.l 0), .int .u64 (.l 0)]⟩, some ⟨64, [.int .u64 (.v 9), .int .u64 (.v 10), .int .u64 (.v 11), .int .u64 (.v 12)]⟩], 13, 30, 0, [.l 511, .v 0, .v 1, .v 2, .v 3, .v 4, .v 5, .v 6, .v 7, .l 0, .l 0, .l 0, .l 0]⟩
noncomputable def normB : Code := (Try.f49).body.getD .skip
/-- The long number, in the loop's state. -/
def lx (ρ : Nat → Int) : List Int := [ρ 1, ρ 2, ρ 3, ρ 4, ρ 5, ρ 6, ρ 7, ρ 8]
def normI (ρ0 ρ : Nat → Int) : Prop :=
  lx ρ = lx ρ0 ∧ Dig MM (lx ρ0) ∧ -1 ≤ ρ 0 ∧ ρ 0 ≤ 511 ∧ [ρ 9, ρ 10, ρ 11, ρ 12] = dg MM 4 (dv MM (lx ρ0) / 2 ^ (ρ 0 + 1).toNat % LL)
def normX (ρ : Nat → Int) : Nat → Int := fun i => if i = 0 then ρ 0 - 1 else if i < 9 then ρ i else (dg MM 4 (dv MM (lx ρ) / 2 ^ (ρ 0).toNat % LL)).getD (i - 9) 0
theorem norm_end {cl : Code} (hb : loopAt 0 normB = some cl) {ρ0 ρT : Nat → Int} (hI : normI ρ0 ρT) (hlt : ¬ 0 ≤ ρT 0) :
    ∃ e x', RoundEnd Try.prog sfns (callN Try.prog T2 300 5) 300 cl normT.slT normT.memT normT.m ρT e x' ∧ ((e = .normal ∧ normI ρ0 x' ∧ (x' 0 + 1).toNat < (ρT 0 + 1).toNat) ∨ (e = .exit normT.xid ∧ ∀ i, i < normT.m → x' i = (sfns.g normT.j [xs normT.m ρ0]).getD i 0)) := by
  obtain ⟨i1, i2, i3, i4, i5⟩ := hI
  have hk : roundB Try.prog T2 300 5 (loopAt 0 normB) normT [false] (some 0) [.cmp 13 .geq (.v 0) (.l 0), .cond 13 false] [.v 0, .v 1, .v 2, .v 3, .v 4, .v 5, .v 6, .v 7, .v 8, .v 9, .v 10, .v 11, .v 12] = true := by kernel_rfl
  rw [hb] at hk
  refine ⟨.exit 0, ρT, RoundEnd.of (e := some 0) hk fun ρ hρ hd => ?_, .inr ⟨rfl, ?_⟩⟩
  · have a0 := hρ 0 (by decide)
    simp only [D_nil, D_add, D_sub, D_mul, D_and, D_or, D_xor, D_shl, D_shr, D_andNot, D_quo, D_rem, D_add_i64, D_sub_i64, D_mul_i64, D_add_u32, D_sub_u32, D_mul_u32, D_add_u8, D_sub_u8, D_mul_u8, D_eql, D_neq, D_lss, D_leq, D_gtr, D_geq, D_not, D_conv, D_eqs, D_call, D_cond, D_need, D_idx, D_sel, D_upd, D_shv, D_beq, List.map_cons, List.map_nil, Ref.den, a0] at hd
    obtain ⟨h13, -⟩ := hd
    rw [decide_eq_false hlt] at h13
    refine ⟨by simp only [G_nil, G_bin, G_cmp, G_not, G_conv, G_eqs, G_call, G_cond, G_need, G_idx, G_sel, G_upd, G_shv, G_beq, List.map_cons, List.map_nil, Ref.den, h13]; exact ⟨rfl, trivial⟩, fun i hi => ?_⟩
    rw [← hρ i hi]
    have hi : i < 13 := hi
    match i, hi with
    | 0, _ => rfl
    | 1, _ => rfl
    | 2, _ => rfl
    | 3, _ => rfl
    | 4, _ => rfl
    | 5, _ => rfl
    | 6, _ => rfl
    | 7, _ => rfl
    | 8, _ => rfl
    | 9, _ => rfl
    | 10, _ => rfl
    | 11, _ => rfl
    | 12, _ => rfl
    | n + 13, h => omega
  · have e0 : ρT 0 = -1 := by omega
    rw [e0] at i5
    have hd : dv MM (lx ρ0) / 2 ^ (-1 + 1 : Int).toNat % LL = dv MM (lx ρ0) % LL := by
      show dv MM (lx ρ0) / 1 % LL = _
      rw [Int.ediv_one]
    rw [hd] at i5
    intro i hi
    show ρT i = ([-1] ++ (lx ρ0 ++ dg MM 4 (dv MM (lx ρ0) % LL))).getD i 0
    rw [← i5, ← i1, ← e0]
    have hi : i < 13 := hi
    match i, hi with
    | 0, _ => rfl
    | 1, _ => rfl
    | 2, _ => rfl
    | 3, _ => rfl
    | 4, _ => rfl
    | 5, _ => rfl
    | 6, _ => rfl
    | 7, _ => rfl
    | 8, _ => rfl
    | 9, _ => rfl
    | 10, _ => rfl
    | 11, _ => rfl
    | 12, _ => rfl
    | n + 13, h => omega
theorem norm_go {cl : Code} (hb : loopAt 0 normB = some cl) {ρ0 ρT : Nat → Int} (hI : normI ρ0 ρT) (hge : 0 ≤ ρT 0) :
    ∃ e x', RoundEnd Try.prog sfns (callN Try.prog T2 300 5) 300 cl normT.slT normT.memT normT.m ρT e x' ∧ ((e = .normal ∧ normI ρ0 x' ∧ (x' 0 + 1).toNat < (ρT 0 + 1).toNat) ∨ (e = .exit normT.xid ∧ ∀ i, i < normT.m → x' i = (sfns.g normT.j [xs normT.m ρ0]).getD i 0)) := by
  obtain ⟨i1, i2, i3, i4, i5⟩ := hI
  obtain ⟨n, hn⟩ := Int.eq_ofNat_of_zero_le hge
  have hn511 : n ≤ 511 := by omega
  have hk : roundB Try.prog T2 300 5 (loopAt 0 normB) normT [true] none [.cmp 13 .geq (.v 0) (.l 0), .cond 13 true, .need 10 [[.v 9, .v 10, .v 11, .v 12], [.v 9, .v 10, .v 11, .v 12]], .call 14 10 [[.v 9, .v 10, .v 11, .v 12], [.v 9, .v 10, .v 11, .v 12]] 4, .bin 18 .quo .i64 (.v 0) (.l 64), .idx 18 8, .sel 19 [.v 1, .v 2, .v 3, .v 4, .v 5, .v 6, .v 7, .v 8] 18, .bin 20 .rem .i64 (.v 0) (.l 64), .idx 20 1000000, .shv 21 false .u64 (.v 19) 20, .bin 22 .and .u64 (.v 21) (.l 1), .bin 23 .or .u64 (.v 14) (.v 22), .need 12 [[.v 23, .v 15, .v 16, .v 17]], .call 24 12 [[.v 23, .v 15, .v 16, .v 17]] 4, .bin 28 .sub .i64 (.v 0) (.l 1)] [.v 28, .v 1, .v 2, .v 3, .v 4, .v 5, .v 6, .v 7, .v 8, .v 24, .v 25, .v 26, .v 27] = true := by kernel_rfl
  rw [hb] at hk
  -- the numbers
  obtain ⟨X, hX⟩ : ∃ X, X = dv MM (lx ρ0) := ⟨_, rfl⟩
  obtain ⟨V, hV⟩ : ∃ V, V = X / 2 ^ (n + 1) % LL := ⟨_, rfl⟩
  have hL := LL_lt
  have v0 : 0 ≤ V := by rw [hV]; exact Int.emod_nonneg _ (by omega)
  have v1 : V < LL := by rw [hV]; exact Int.emod_lt_of_pos _ hL.1
  have e1 : (ρT 0 + 1).toNat = n + 1 := by omega
  rw [e1, ← hX, ← hV] at i5
  refine ⟨.normal, normX ρT, RoundEnd.of (e := none) hk fun ρ hρ hd => ?_, .inl ⟨rfl, ⟨i1, i2, ?_, ?_, ?_⟩, ?_⟩⟩
  · have a0 : ρ 0 = (n : Int) := (hρ 0 (by decide)).trans hn
    have ax : lx ρ = lx ρ0 := by
      rw [← i1]
      simp only [lx]
      rw [hρ 1 (by decide), hρ 2 (by decide), hρ 3 (by decide), hρ 4 (by decide), hρ 5 (by decide), hρ 6 (by decide), hρ 7 (by decide), hρ 8 (by decide)]
    have ao : [ρ 9, ρ 10, ρ 11, ρ 12] = dg MM 4 V := by
      rw [← i5, hρ 9 (by decide), hρ 10 (by decide), hρ 11 (by decide), hρ 12 (by decide)]
    have dvo : dv MM [ρ 9, ρ 10, ρ 11, ρ 12] = V := by rw [ao, dv_dg MM_pos, Int.emod_eq_of_lt v0 (by omega)]
    simp only [D_nil, D_add, D_sub, D_mul, D_and, D_or, D_xor, D_shl, D_shr, D_andNot, D_quo, D_rem, D_add_i64, D_sub_i64, D_mul_i64, D_add_u32, D_sub_u32, D_mul_u32, D_add_u8, D_sub_u8, D_mul_u8, D_eql, D_neq, D_lss, D_leq, D_gtr, D_geq, D_not, D_conv, D_eqs, D_call, D_cond, D_need, D_idx, D_sel, D_upd, D_shv, D_beq, List.map_cons, List.map_nil, Ref.den, a0] at hd
    obtain ⟨h13, h14, h18, h19, h20, h21, h22, h23, h24, h28, -⟩ := hd
    rw [decide_eq_true (show (0 : Int) ≤ n by omega)] at h13
    -- the place
    have e18 := i_quo 64 (by decide) (by omega) (by omega) rfl h18
    have e20 := i_rem 64 (by decide) (by omega) rfl h20
    have e19 : ρ 19 = (lx ρ0).getD (n / 64) 0 := by
      have e : ((n : Int) / 64).toNat = n / 64 := by omega
      rw [h19, ← ax, e18]
      show (lx ρ).getD ((n : Int) / 64).toNat 0 = _
      rw [e]
    have lx8 : (lx ρ0).length = 8 := rfl
    have r19 := digl i2 (i := n / 64) (by rw [lx8]; omega)
    rw [← e19] at r19
    have e21 := shv_r (n % 64) (by show n % 64 ≤ 64; omega) h21 (by rw [e20]; omega)
    have r21 : 0 ≤ ρ 21 ∧ ρ 21 < 18446744073709551616 := by
      have hp : (0 : Int) < 2 ^ (n % 64) := Int.pow_pos (by omega)
      have q1 : 0 ≤ ρ 21 := by rw [e21]; exact Int.ediv_nonneg r19.1 (by omega)
      have q2 : ρ 21 ≤ ρ 19 := by rw [e21]; exact Int.ediv_le_self _ r19.1
      have := r19.2; unfold MM at this; omega
    have e22 := u_and 1 (by decide) r21.1 r21.2 rfl h22
    have bit : ρ 22 = X / 2 ^ n % 2 := by
      rw [e22, e21, e19, hX]
      have := bit_of (w := 64) (l := lx ρ0) (i := n / 64) (r := n % 64) (by rw [MM_two]; exact i2) (by rw [lx8]; omega) (by omega)
      rw [MM_two] at this
      rw [show (2 : Int) ^ 1 = 2 by decide, this]
      congr 3; omega
    have b0 : 0 ≤ ρ 22 ∧ ρ 22 < 2 := by rw [bit]; omega
    -- the sum
    have k14 : ∀ i, i < 4 → ρ (14 + i) = (dg MM 4 (V + V)).getD i 0 := fun i hi => by
      rw [h14 i hi]
      show (dg MM 4 (dv MM [ρ 9, ρ 10, ρ 11, ρ 12] + dv MM [ρ 9, ρ 10, ρ 11, ρ 12])).getD i 0 = _
      rw [dvo]
    have s14 : [ρ 14, ρ 15, ρ 16, ρ 17] = dg MM 4 (V + V) := (arr_eq (dg_len _ _ _) k14).symm
    have d14 : dv MM [ρ 14, ρ 15, ρ 16, ρ 17] = V + V := by rw [s14, dv_dg MM_pos, Int.emod_eq_of_lt (by omega) (by omega)]
    have e14 : ρ 14 = (V + V) % MM := by have := k14 0 (by decide); simpa [dg] using this
    have dig14 : Dig MM [ρ 14, ρ 15, ρ 16, ρ 17] := by rw [s14]; exact dg_dig MM_pos _ _
    have e23 : ρ 23 = ρ 14 + ρ 22 := by
      refine u_orl 1 b0.1 b0.2 (ρ 14 / 2) ?_ ?_ ?_ ?_ h23
      · rw [e14]; unfold MM; omega
      · rw [e14]; unfold MM; omega
      · rw [e14]; unfold MM; omega
      · omega
    have d23 : dv MM [ρ 23, ρ 15, ρ 16, ρ 17] = 2 * V + X / 2 ^ n % 2 := by
      rw [← bit, e23]
      simp only [dv] at d14 ⊢
      omega
    have k24 : ∀ i, i < 4 → ρ (24 + i) = (dg MM 4 (X / 2 ^ n % LL)).getD i 0 := fun i hi => by
      rw [h24 i hi]
      show (dg MM 4 (cutZ (dv MM [ρ 23, ρ 15, ρ 16, ρ 17]))).getD i 0 = _
      rw [d23, hV, cut_step]
    refine ⟨?_, fun i hi => ?_⟩
    · simp only [G_nil, G_bin, G_cmp, G_not, G_conv, G_eqs, G_call, G_cond, G_need, G_idx, G_sel, G_upd, G_shv, G_beq, List.map_cons, List.map_nil, Ref.den, h13]
      refine ⟨rfl, trivial, ⟨?_, ?_⟩, ⟨?_, ?_⟩, trivial, trivial⟩ <;> omega
    · have hi : i < 13 := hi
      have e28 : ρ 28 = ρT 0 - 1 := by rw [h28, hn, IntKind.wrap_i64]; omega
      have fin : ∀ i, i < 4 → ρ (24 + i) = (dg MM 4 (dv MM (lx ρT) / 2 ^ (ρT 0).toNat % LL)).getD i 0 := fun i hi => by
        rw [k24 i hi, i1, ← hX, show (ρT 0).toNat = n by omega]
      match i, hi with
      | 0, _ => exact e28
      | 1, _ => exact hρ 1 (by decide)
      | 2, _ => exact hρ 2 (by decide)
      | 3, _ => exact hρ 3 (by decide)
      | 4, _ => exact hρ 4 (by decide)
      | 5, _ => exact hρ 5 (by decide)
      | 6, _ => exact hρ 6 (by decide)
      | 7, _ => exact hρ 7 (by decide)
      | 8, _ => exact hρ 8 (by decide)
      | 9, _ => exact fin 0 (by decide)
      | 10, _ => exact fin 1 (by decide)
      | 11, _ => exact fin 2 (by decide)
      | 12, _ => exact fin 3 (by decide)
      | n + 13, h => omega
  · show -1 ≤ ρT 0 - 1; omega
  · show ρT 0 - 1 ≤ 511; omega
  · have e : normX ρT 0 = ρT 0 - 1 := rfl
    rw [e, show (ρT 0 - 1 + 1).toNat = (ρT 0).toNat by congr 1; omega, ← i1]
    exact (arr_eq (a := dg MM 4 (dv MM (lx ρT) / 2 ^ (ρT 0).toNat % LL)) (n := 4) (o := 9) (ρ := normX ρT) (dg_len _ _ _) fun i hi => by
      show (if 9 + i = 0 then _ else if 9 + i < 9 then _ else _) = _
      rw [if_neg (by omega), if_neg (by omega), Nat.add_sub_cancel_left]).symm
  · show (ρT 0 - 1 + 1).toNat < _; omega
theorem okNorm : CtrOK Try.prog sfns cNorm := by
  refine CtrOK.ofL (t := normT) (k := 0) (fn := Try.f49) (body := normB) okT2 mixed (lf := 300) (d := 5) (by kernel_rfl) (by kernel_rfl) ?_ rfl fun w vs xs ha _ => ?_
  · intro cl hcl
    refine ⟨normI, fun ρ => (ρ 0 + 1).toNat, fun ρ0 hT hp => ?_, fun ρ0 ρT _ hI => ?_⟩
    · obtain ⟨p1, p2⟩ : ρ0 0 = 511 ∧ [ρ0 9, ρ0 10, ρ0 11, ρ0 12] = [0, 0, 0, 0] := hp
      have hdig : Dig MM (lx ρ0) := dig64 fun z hz => by
        have hm : ∀ c ∈ [C.int .u64 (.v 1), .int .u64 (.v 2), .int .u64 (.v 3), .int .u64 (.v 4), .int .u64 (.v 5), .int .u64 (.v 6), .int .u64 (.v 7), .int .u64 (.v 8)], C.inr ρ0 c := hT.m _ (List.mem_cons_self ..)
        simp only [lx, List.mem_cons, List.not_mem_nil, or_false] at hz
        have hc : ∀ i, i ∈ [1, 2, 3, 4, 5, 6, 7, 8] → InR .u64 (ρ0 i) := fun i hi => hm (.int .u64 (.v i)) (by
          simp only [List.mem_cons, List.not_mem_nil, or_false] at hi
          rcases hi with rfl | rfl | rfl | rfl | rfl | rfl | rfl | rfl <;> simp)
        rcases hz with rfl | rfl | rfl | rfl | rfl | rfl | rfl | rfl <;> exact hc _ (by simp)
      refine ⟨rfl, hdig, by omega, by omega, ?_⟩
      rw [p2, p1]
      have hb := dv_bound MM_pos hdig
      have e : dv MM (lx ρ0) / 2 ^ (511 + 1 : Int).toNat = 0 := Int.ediv_eq_zero_of_lt hb.1 (by
        refine Int.lt_of_lt_of_le hb.2 ?_
        show MM ^ 8 ≤ 2 ^ 512
        decide +kernel)
      rw [e]; decide
    · by_cases h : 0 ≤ ρT 0
      · exact norm_go hcl hI h
      · exact norm_end hcl hI h
  · obtain ⟨v, a, rfl, rfl, ⟨la, -, ia⟩⟩ := open1 ha
    obtain ⟨x0, x1, x2, x3, x4, x5, x6, x7, rfl⟩ := len8 la
    refine WayL.of (dec := []) (fs := [.need 30 [[.l 511, .v 0, .v 1, .v 2, .v 3, .v 4, .v 5, .v 6, .v 7, .l 0, .l 0, .l 0, .l 0]], .call 8 30 [[.l 511, .v 0, .v 1, .v 2, .v 3, .v 4, .v 5, .v 6, .v 7, .l 0, .l 0, .l 0, .l 0]] 13]) (refs := [.v 17, .v 18, .v 19, .v 20]) (by kernel_rfl) fun ρ hρ hd => ?_
    simp only [D_nil, D_add, D_sub, D_mul, D_and, D_or, D_xor, D_shl, D_shr, D_andNot, D_quo, D_rem, D_add_i64, D_sub_i64, D_mul_i64, D_add_u32, D_sub_u32, D_mul_u32, D_add_u8, D_sub_u8, D_mul_u8, D_eql, D_neq, D_lss, D_leq, D_gtr, D_geq, D_not, D_conv, D_eqs, D_call, D_cond, D_need, D_idx, D_sel, D_upd, D_shv, D_beq, List.map_cons, List.map_nil, Ref.den, hρ 0 (by decide), hρ 1 (by decide), hρ 2 (by decide), hρ 3 (by decide), hρ 4 (by decide), hρ 5 (by decide), hρ 6 (by decide), hρ 7 (by decide)] at hd
    obtain ⟨h8, -⟩ := hd
    refine ⟨?_, ?_⟩
    · simp only [G_nil, G_bin, G_cmp, G_not, G_conv, G_eqs, G_call, G_cond, G_need, G_idx, G_sel, G_upd, G_shv, G_beq, List.map_cons, List.map_nil, Ref.den]; exact ⟨⟨rfl, rfl⟩, trivial⟩
    · exact (arr_eq (a := dg MM 4 (dv MM [x0, x1, x2, x3, x4, x5, x6, x7] % LL)) (n := 4) (o := 17) (ρ := ρ) (dg_len _ _ _) fun i hi => by
        rw [show 17 + i = 8 + (9 + i) by omega, h8 (9 + i) (by show 9 + i < 13; omega)]
        show (_ :: (_ :: (_ :: (_ :: (_ :: (_ :: (_ :: (_ :: (_ :: _)))))))) : List Int).getD (9 + i) 0 = _
        rw [show 9 + i = i + 1 + 1 + 1 + 1 + 1 + 1 + 1 + 1 + 1 by omega]
        simp only [List.getD_cons_succ]
        rfl).symm
#print axioms okNorm
end Go.Proofs.Ytokndemdmkaofaa
