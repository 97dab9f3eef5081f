/- Numbers modulo p: what is shown of Power. No condition. -/
import Derived.Test.YtfobnajgnnccmaaFk4
import Derived.Test.YtfobnajgnnccmaaSxL
namespace Go.Bx
theorem MM_two : (2 : Int) ^ 64 = MM := by decide
end Go.Bx
namespace Go.Proofs.Ytfobnajgnnccmaa
open Go.RowKit Go.Bx Go.Sx
set_option linter.unusedSimpArgs false
theorem timesZ_bd {A B : Int} (a0 : 0 ≤ A) (a1 : A < WW) (b0 : 0 ≤ B) (b1 : B < WW) : 0 ≤ timesZ A B ∧ timesZ A B < WW := by
  have hW : 0 < WW := by decide
  have p0 : 0 ≤ A * B := Int.mul_nonneg a0 b0
  have p1 : A * B ≤ (WW - 1) * (WW - 1) := Int.mul_le_mul (by omega) (by omega) b0 (by omega)
  unfold timesZ
  generalize A * B = T at *
  have q0 : 0 ≤ T / WW := Int.ediv_nonneg p0 (by omega)
  have q1 : T / WW < WW := by simp only [WW] at p1 ⊢; omega
  have q2 : 0 ≤ 38 * (T / WW) / WW := Int.ediv_nonneg (by omega) (by omega)
  have q3 : 38 * (T / WW) / WW ≤ 1000 := by simp only [WW] at q1 ⊢; omega
  have pb := plusZ_bd (Int.emod_nonneg T (b := WW) (by omega)) (Int.emod_lt_of_pos T hW) (Int.emod_nonneg (38 * (T / WW)) (b := WW) (by omega)) (Int.emod_lt_of_pos (38 * (T / WW)) hW)
  exact foldZ_bd pb.1 pb.2 q2 q3
theorem powZ_bd {A N : Int} (a0 : 0 ≤ A) (a1 : A < WW) : ∀ k, 0 ≤ powZ A N k ∧ powZ A N k < WW
  | 0 => ⟨by simp [powZ], by show (1 : Int) < WW; decide⟩
  | k + 1 => by
    obtain ⟨h0, h1⟩ := powZ_bd (N := N) a0 a1 k
    obtain ⟨t0, t1⟩ := timesZ_bd h0 h1 h0 h1
    unfold powZ
    split
    · exact timesZ_bd t0 t1 a0 a1
    · exact ⟨t0, t1⟩
def T4 : List Ctr := [cTimes]
theorem okT4 : ∀ c ∈ T4, CtrOK Try.prog sfns c := by
  intro c hc
  simp only [T4, List.mem_cons, List.not_mem_nil, or_false] at hc
  rcases hc with rfl
  exact okTimes
noncomputable def powT : LoopT := ⟨[.any, .any, .c (.ptr 0 0), .c (.ptr 1 0), .c (.ptr 2 0), .c (.ptr 3 0), .c (.int .i64 (.v 0)), .any, .any, .any, .any, .any, .any, .any, .any, .any, .any, .any, .any, .any, .any, .any, .any, .any, .any, .any, .any, .any], [some ⟨57, [.int .u64 (.v 1), .int .u64 (.v 2), .int .u64 (.v 3), .int .u64 (.v 4)]⟩, some ⟨57, [.int .u64 (.v 5), .int .u64 (.v 6), .int .u64 (.v 7), .int .u64 (.v 8)]⟩, some ⟨57, [.int .u64 (.l 0), .int .u64 (.l 0), .int .u64 (.l 0), .int .u64 (.l 0)]⟩, some ⟨57, [.int .u64 (.v 9), .int .u64 (.v 10), .int .u64 (.v 11), .int .u64 (.v 12)]⟩], 13, 30, 0, [.l 255, .v 0, .v 1, .v 2, .v 3, .v 4, .v 5, .v 6, .v 7, .l 1, .l 0, .l 0, .l 0]⟩
noncomputable def powB : Code := (Try.f88).body.getD .skip
def powK (ρ : Nat → Int) (k : Nat) : Int := powZ (dv MM (seg ρ 1 4)) (dv MM (seg ρ 5 4)) k
def powI (ρ0 ρ : Nat → Int) : Prop :=
  (seg ρ 1 4 = seg ρ0 1 4 ∧ seg ρ 5 4 = seg ρ0 5 4) ∧ (Dig MM (seg ρ0 1 4) ∧ Dig MM (seg ρ0 5 4)) ∧ -1 ≤ ρ 0 ∧ ρ 0 ≤ 255 ∧ seg ρ 9 4 = dg MM 4 (powK ρ0 (255 - ρ 0).toNat)
def powX (ρ : Nat → Int) : Nat → Int := fun i => if i = 0 then ρ 0 - 1 else if i < 9 then ρ i else (dg MM 4 (powK ρ (256 - ρ 0).toNat)).getD (i - 9) 0
abbrev powGoal (cl : Code) (ρ0 ρT : Nat → Int) : Prop :=
  ∃ e x', RoundEnd Try.prog sfns (callN Try.prog T4 300 5) 300 cl powT.slT powT.memT powT.m ρT e x' ∧ ((e = .normal ∧ powI ρ0 x' ∧ (x' 0 + 1).toNat < (ρT 0 + 1).toNat) ∨ (e = .exit powT.xid ∧ ∀ i, i < powT.m → x' i = (sfns.g powT.j [xs powT.m ρ0]).getD i 0))
theorem pow_end {cl : Code} (hb : loopAt 0 powB = some cl) {ρ0 ρT : Nat → Int} (hI : powI ρ0 ρT) (hlt : ¬ 0 ≤ ρT 0) : powGoal cl ρ0 ρT := by
  obtain ⟨⟨i1, i2⟩, -, i3, i4, i5⟩ := hI
  have hk : roundB Try.prog T4 300 5 (loopAt 0 powB) powT [false] (some 0) [.cmp 13 .geq (.v 0) (.l 0), .cond 13 false] [.v 0, .v 1, .v 2, .v 3, .v 4, .v 5, .v 6, .v 7, .v 8, .v 9, .v 10, .v 11, .v 12] = true := by kernel_rfl
  rw [hb] at hk
  refine ⟨.exit 0, ρT, RoundEnd.of (e := some 0) hk fun ρ hρ hd => ?_, .inr ⟨rfl, ?_⟩⟩
  · have a0 := hρ 0 (by decide)
    simp only [D_nil, D_add, D_sub, D_mul, D_and, D_or, D_xor, D_shl, D_shr, D_andNot, D_quo, D_rem, D_add_i64, D_sub_i64, D_mul_i64, D_add_u32, D_sub_u32, D_mul_u32, D_add_u8, D_sub_u8, D_mul_u8, D_eql, D_neq, D_lss, D_leq, D_gtr, D_geq, D_not, D_conv, D_eqs, D_call, D_cond, D_need, D_idx, D_sel, D_upd, D_shv, D_beq, List.map_cons, List.map_nil, Ref.den, a0] at hd
    obtain ⟨h13, -⟩ := hd
    refine ⟨by simp only [G_nil, G_bin, G_cmp, G_not, G_conv, G_eqs, G_call, G_cond, G_need, G_idx, G_sel, G_upd, G_shv, G_beq, List.map_cons, List.map_nil, Ref.den]; exact ⟨bit_false h13 (decide_eq_false hlt), trivial⟩, fun i hi => ?_⟩
    rw [← hρ i hi]
    have hi : i < 13 := hi
    match i, hi with
    | 0, _ => rfl
    | 1, _ => rfl
    | 2, _ => rfl
    | 3, _ => rfl
    | 4, _ => rfl
    | 5, _ => rfl
    | 6, _ => rfl
    | 7, _ => rfl
    | 8, _ => rfl
    | 9, _ => rfl
    | 10, _ => rfl
    | 11, _ => rfl
    | 12, _ => rfl
    | n + 13, h => omega
  · have e0 : ρT 0 = -1 := by omega
    rw [e0] at i5
    intro i hi
    show ρT i = ([-1] ++ ((seg ρ0 1 4 ++ seg ρ0 5 4) ++ dg MM 4 (powK ρ0 256))).getD i 0
    have e : (255 - -1 : Int).toNat = 256 := rfl
    rw [e] at i5
    rw [← i5, ← i1, ← i2, ← e0]
    have hi : i < 13 := hi
    match i, hi with
    | 0, _ => rfl
    | 1, _ => rfl
    | 2, _ => rfl
    | 3, _ => rfl
    | 4, _ => rfl
    | 5, _ => rfl
    | 6, _ => rfl
    | 7, _ => rfl
    | 8, _ => rfl
    | 9, _ => rfl
    | 10, _ => rfl
    | 11, _ => rfl
    | 12, _ => rfl
    | n + 13, h => omega
theorem pow_go {cl : Code} (hb : loopAt 0 powB = some cl) {ρ0 ρT : Nat → Int} (hI : powI ρ0 ρT) (hge : 0 ≤ ρT 0) : powGoal cl ρ0 ρT := by
  obtain ⟨⟨i1, i2⟩, ⟨g1, g2⟩, i3, i4, i5⟩ := hI
  obtain ⟨n, hn⟩ := Int.eq_ofNat_of_zero_le hge
  have hn255 : n ≤ 255 := by omega
  have ek : (255 - ρT 0).toNat = 255 - n := by omega
  have ek' : (256 - ρT 0).toNat = 255 - n + 1 := by omega
  rw [ek] at i5
  have bA : 0 ≤ dv MM (seg ρ0 1 4) ∧ dv MM (seg ρ0 1 4) < WW := by have := dv_bound MM_pos g1; rw [PP_lt.2.2.1]; exact this
  have bP : 0 ≤ powK ρ0 (255 - n) ∧ powK ρ0 (255 - n) < WW := powZ_bd (N := dv MM (seg ρ0 5 4)) bA.1 bA.2 (255 - n)
  have bT := timesZ_bd bP.1 bP.2 bP.1 bP.2
  have step : powK ρ0 (255 - n + 1) = if dv MM (seg ρ0 5 4) / 2 ^ n % 2 = 1 then timesZ (timesZ (powK ρ0 (255 - n)) (powK ρ0 (255 - n))) (dv MM (seg ρ0 1 4)) else timesZ (powK ρ0 (255 - n)) (powK ρ0 (255 - n)) := by
    rw [powK, powZ, show 255 - (255 - n) = n by omega]; rfl
  have eX : powK ρT (256 - ρT 0).toNat = powK ρ0 (255 - n + 1) := by rw [ek', powK, powK, i1, i2]
  -- what any round knows
  have common : ∀ ρ : Nat → Int, (∀ i, i < 13 → ρ i = ρT i) → seg ρ 1 4 = seg ρ0 1 4 ∧ seg ρ 5 4 = seg ρ0 5 4 ∧ seg ρ 9 4 = dg MM 4 (powK ρ0 (255 - n)) := fun ρ hρ => by
    refine ⟨?_, ?_, ?_⟩
    · rw [← i1]; exact List.map_congr_left fun i hi => hρ _ (by have := List.mem_range.1 hi; omega)
    · rw [← i2]; exact List.map_congr_left fun i hi => hρ _ (by have := List.mem_range.1 hi; omega)
    · rw [← i5]; exact List.map_congr_left fun i hi => hρ _ (by have := List.mem_range.1 hi; omega)
  have bit : ∀ ρ : Nat → Int, seg ρ 5 4 = seg ρ0 5 4 → ρ 0 = (n : Int) → binZ .quo .i64 (n : Int) 64 = some (ρ 18) → ρ 19 = ([ρ 5, ρ 6, ρ 7, ρ 8] : List Int).getD (ρ 18).toNat 0 → binZ .rem .i64 (n : Int) 64 = some (ρ 20) → ρ 21 = shvZ false .u64 (ρ 19) (ρ 20) → binZ .and .u64 (ρ 21) 1 = some (ρ 22) →
      ρ 22 = dv MM (seg ρ0 5 4) / 2 ^ n % 2 ∧ (0 ≤ ρ 18 ∧ ρ 18 < 4) ∧ (0 ≤ ρ 20 ∧ ρ 20 < 1000000) := by
    intro ρ e5 a0 h18 h19 h20 h21 h22
    have e18 := i_quo 64 (by decide) (by omega) (by omega) rfl h18
    have e20 := i_rem 64 (by decide) (by omega) rfl h20
    have e19 : ρ 19 = (seg ρ0 5 4).getD (n / 64) 0 := by
      have e : ((n : Int) / 64).toNat = n / 64 := by omega
      rw [h19, ← e5, e18]
      show (seg ρ 5 4).getD ((n : Int) / 64).toNat 0 = _
      rw [e]
    have l4 := seg_len ρ0 5 4
    have r19 := digl g2 (i := n / 64) (by rw [l4]; omega)
    rw [← e19] at r19
    have e21 := shv_r (n % 64) (by show n % 64 ≤ 64; omega) h21 (by rw [e20]; omega)
    have r21 : 0 ≤ ρ 21 ∧ ρ 21 < 18446744073709551616 := by
      have hp : (0 : Int) < 2 ^ (n % 64) := Int.pow_pos (by omega)
      have q1 : 0 ≤ ρ 21 := by rw [e21]; exact Int.ediv_nonneg r19.1 (by omega)
      have q2 : ρ 21 ≤ ρ 19 := by rw [e21]; exact Int.ediv_le_self _ r19.1
      have := r19.2; unfold MM at this; omega
    have e22 := u_and 1 (by decide) r21.1 r21.2 rfl h22
    refine ⟨?_, by omega, by omega⟩
    rw [e22, e21, e19]
    have := bit_of (w := 64) (l := seg ρ0 5 4) (i := n / 64) (r := n % 64) (by rw [MM_two]; exact g2) (by rw [l4]; omega) (by omega)
    rw [MM_two] at this
    rw [show (2 : Int) ^ 1 = 2 by decide, this]
    congr 3; omega
  -- the state behind
  have after : powI ρ0 (powX ρT) ∧ (powX ρT 0 + 1).toNat < (ρT 0 + 1).toNat := by
    have e : powX ρT 0 = ρT 0 - 1 := rfl
    refine ⟨⟨⟨?_, ?_⟩, ⟨g1, g2⟩, ?_, ?_, ?_⟩, ?_⟩
    · rw [← i1]; rfl
    · rw [← i2]; rfl
    · rw [e]; omega
    · rw [e]; omega
    · rw [e, show (255 - (ρT 0 - 1)).toNat = 255 - n + 1 by omega, ← eX]
      exact (arr_eq (a := dg MM 4 (powK ρT (256 - ρT 0).toNat)) (n := 4) (o := 9) (ρ := powX ρT) (dg_len _ _ _) fun i hi => by
        show (if 9 + i = 0 then _ else if 9 + i < 9 then _ else _) = _
        rw [if_neg (by omega), if_neg (by omega), Nat.add_sub_cancel_left]).symm
    · rw [e]; omega
  by_cases hbit : dv MM (seg ρ0 5 4) / 2 ^ n % 2 = 1
  · rw [if_pos hbit] at step
    have hk : roundB Try.prog T4 300 5 (loopAt 0 powB) powT [true,true] none [.cmp 13 .geq (.v 0) (.l 0), .cond 13 true, .need 18 [[.v 9, .v 10, .v 11, .v 12], [.v 9, .v 10, .v 11, .v 12]], .call 14 18 [[.v 9, .v 10, .v 11, .v 12], [.v 9, .v 10, .v 11, .v 12]] 4, .bin 18 .quo .i64 (.v 0) (.l 64), .idx 18 4, .sel 19 [.v 5, .v 6, .v 7, .v 8] 18, .bin 20 .rem .i64 (.v 0) (.l 64), .idx 20 1000000, .shv 21 false .u64 (.v 19) 20, .bin 22 .and .u64 (.v 21) (.l 1), .cmp 23 .eql (.v 22) (.l 1), .cond 23 true, .need 18 [[.v 14, .v 15, .v 16, .v 17], [.v 1, .v 2, .v 3, .v 4]], .call 24 18 [[.v 14, .v 15, .v 16, .v 17], [.v 1, .v 2, .v 3, .v 4]] 4, .bin 28 .sub .i64 (.v 0) (.l 1)] [.v 28, .v 1, .v 2, .v 3, .v 4, .v 5, .v 6, .v 7, .v 8, .v 24, .v 25, .v 26, .v 27] = true := by kernel_rfl
    rw [hb] at hk
    refine ⟨.normal, powX ρT, RoundEnd.of (e := none) hk fun ρ hρ hd => ?_, .inl ⟨rfl, after⟩⟩
    obtain ⟨s1, s5, s9⟩ := common ρ hρ
    have a0 : ρ 0 = (n : Int) := (hρ 0 (by decide)).trans hn
    simp only [D_nil, D_add, D_sub, D_mul, D_and, D_or, D_xor, D_shl, D_shr, D_andNot, D_quo, D_rem, D_add_i64, D_sub_i64, D_mul_i64, D_add_u32, D_sub_u32, D_mul_u32, D_add_u8, D_sub_u8, D_mul_u8, D_eql, D_neq, D_lss, D_leq, D_gtr, D_geq, D_not, D_conv, D_eqs, D_call, D_cond, D_need, D_idx, D_sel, D_upd, D_shv, D_beq, List.map_cons, List.map_nil, Ref.den, a0] at hd
    obtain ⟨h13, h14, h18, h19, h20, h21, h22, h23, h24, h28, -⟩ := hd
    obtain ⟨e22, x18, x20⟩ := bit ρ s5 a0 h18 h19 h20 h21 h22
    have s14 : seg ρ 14 4 = dg MM 4 (timesZ (dv MM (seg ρ 9 4)) (dv MM (seg ρ 9 4))) := seg_of h14 (dg_len _ _ _)
    have s24 : seg ρ 24 4 = dg MM 4 (timesZ (dv MM (seg ρ 14 4)) (dv MM (seg ρ 1 4))) := seg_of h24 (dg_len _ _ _)
    rw [s9, dvW bP.1 bP.2] at s14
    rw [s14, dvW bT.1 bT.2, s1, ← step, ← eX] at s24
    refine ⟨?_, fun i hi => ?_⟩
    · simp only [G_nil, G_bin, G_cmp, G_not, G_conv, G_eqs, G_call, G_cond, G_need, G_idx, G_sel, G_upd, G_shv, G_beq, List.map_cons, List.map_nil, Ref.den]
      exact ⟨bit_true h13 (decide_eq_true (by omega)), trivial, x18, x20, bit_true h23 (decide_eq_true (by rw [e22, hbit])), trivial, trivial⟩
    · have hi : i < 13 := hi
      have e28 : ρ 28 = ρT 0 - 1 := by rw [h28, hn, IntKind.wrap_i64]; omega
      have fin : ∀ i, i < 4 → ρ (24 + i) = (dg MM 4 (powK ρT (256 - ρT 0).toNat)).getD i 0 := fun i hi => by
        have := congrArg (fun l => l.getD i 0) s24
        simpa [seg, List.getD_eq_getElem?_getD, hi] using this
      match i, hi with
      | 0, _ => exact e28
      | 1, _ => exact hρ 1 (by decide)
      | 2, _ => exact hρ 2 (by decide)
      | 3, _ => exact hρ 3 (by decide)
      | 4, _ => exact hρ 4 (by decide)
      | 5, _ => exact hρ 5 (by decide)
      | 6, _ => exact hρ 6 (by decide)
      | 7, _ => exact hρ 7 (by decide)
      | 8, _ => exact hρ 8 (by decide)
      | 9, _ => exact fin 0 (by decide)
      | 10, _ => exact fin 1 (by decide)
      | 11, _ => exact fin 2 (by decide)
      | 12, _ => exact fin 3 (by decide)
      | n + 13, h => omega
  · rw [if_neg hbit] at step
    have hk : roundB Try.prog T4 300 5 (loopAt 0 powB) powT [true,false] none [.cmp 13 .geq (.v 0) (.l 0), .cond 13 true, .need 18 [[.v 9, .v 10, .v 11, .v 12], [.v 9, .v 10, .v 11, .v 12]], .call 14 18 [[.v 9, .v 10, .v 11, .v 12], [.v 9, .v 10, .v 11, .v 12]] 4, .bin 18 .quo .i64 (.v 0) (.l 64), .idx 18 4, .sel 19 [.v 5, .v 6, .v 7, .v 8] 18, .bin 20 .rem .i64 (.v 0) (.l 64), .idx 20 1000000, .shv 21 false .u64 (.v 19) 20, .bin 22 .and .u64 (.v 21) (.l 1), .cmp 23 .eql (.v 22) (.l 1), .cond 23 false, .bin 24 .sub .i64 (.v 0) (.l 1)] [.v 24, .v 1, .v 2, .v 3, .v 4, .v 5, .v 6, .v 7, .v 8, .v 14, .v 15, .v 16, .v 17] = true := by kernel_rfl
    rw [hb] at hk
    refine ⟨.normal, powX ρT, RoundEnd.of (e := none) hk fun ρ hρ hd => ?_, .inl ⟨rfl, after⟩⟩
    obtain ⟨s1, s5, s9⟩ := common ρ hρ
    have a0 : ρ 0 = (n : Int) := (hρ 0 (by decide)).trans hn
    simp only [D_nil, D_add, D_sub, D_mul, D_and, D_or, D_xor, D_shl, D_shr, D_andNot, D_quo, D_rem, D_add_i64, D_sub_i64, D_mul_i64, D_add_u32, D_sub_u32, D_mul_u32, D_add_u8, D_sub_u8, D_mul_u8, D_eql, D_neq, D_lss, D_leq, D_gtr, D_geq, D_not, D_conv, D_eqs, D_call, D_cond, D_need, D_idx, D_sel, D_upd, D_shv, D_beq, List.map_cons, List.map_nil, Ref.den, a0] at hd
    obtain ⟨h13, h14, h18, h19, h20, h21, h22, h23, h28, -⟩ := hd
    obtain ⟨e22, x18, x20⟩ := bit ρ s5 a0 h18 h19 h20 h21 h22
    have s14 : seg ρ 14 4 = dg MM 4 (timesZ (dv MM (seg ρ 9 4)) (dv MM (seg ρ 9 4))) := seg_of h14 (dg_len _ _ _)
    rw [s9, dvW bP.1 bP.2, ← step, ← eX] at s14
    refine ⟨?_, fun i hi => ?_⟩
    · simp only [G_nil, G_bin, G_cmp, G_not, G_conv, G_eqs, G_call, G_cond, G_need, G_idx, G_sel, G_upd, G_shv, G_beq, List.map_cons, List.map_nil, Ref.den]
      exact ⟨bit_true h13 (decide_eq_true (by omega)), trivial, x18, x20, bit_false h23 (decide_eq_false (by rw [e22]; exact hbit)), trivial⟩
    · have hi : i < 13 := hi
      have e28 : ρ 24 = ρT 0 - 1 := by rw [h28, hn, IntKind.wrap_i64]; omega
      have fin : ∀ i, i < 4 → ρ (14 + i) = (dg MM 4 (powK ρT (256 - ρT 0).toNat)).getD i 0 := fun i hi => by
        have := congrArg (fun l => l.getD i 0) s14
        simpa [seg, List.getD_eq_getElem?_getD, hi] using this
      match i, hi with
      | 0, _ => exact e28
      | 1, _ => exact hρ 1 (by decide)
      | 2, _ => exact hρ 2 (by decide)
      | 3, _ => exact hρ 3 (by decide)
      | 4, _ => exact hρ 4 (by decide)
      | 5, _ => exact hρ 5 (by decide)
      | 6, _ => exact hρ 6 (by decide)
      | 7, _ => exact hρ 7 (by decide)
      | 8, _ => exact hρ 8 (by decide)
      | 9, _ => exact fin 0 (by decide)
      | 10, _ => exact fin 1 (by decide)
      | 11, _ => exact fin 2 (by decide)
      | 12, _ => exact fin 3 (by decide)
      | n + 13, h => omega
theorem okPower : CtrOK Try.prog sfns cPower := by
  refine CtrOK.ofL (t := powT) (k := 0) (fn := Try.f88) (body := powB) okT4 mixed (lf := 300) (d := 5) (by kernel_rfl) (by kernel_rfl) ?_ rfl fun w vs xs ha _ => ?_
  · intro cl hcl
    refine ⟨powI, fun ρ => (ρ 0 + 1).toNat, fun ρ0 hT hp => ?_, fun ρ0 ρT _ hI => ?_⟩
    · obtain ⟨p1, p2⟩ : ρ0 0 = 255 ∧ [ρ0 9, ρ0 10, ρ0 11, ρ0 12] = [1, 0, 0, 0] := hp
      have d1 : Dig MM (seg ρ0 1 4) := dig64 fun z hz => by
        have hm : ∀ c ∈ [C.int .u64 (.v 1), .int .u64 (.v 2), .int .u64 (.v 3), .int .u64 (.v 4)], C.inr ρ0 c := hT.m _ (List.mem_cons_self ..)
        have hz : z ∈ [ρ0 1, ρ0 2, ρ0 3, ρ0 4] := hz
        have hc : ∀ i, i ∈ [1, 2, 3, 4] → InR .u64 (ρ0 i) := fun i hi => hm (.int .u64 (.v i)) (by
          simp only [List.mem_cons, List.not_mem_nil, or_false] at hi
          rcases hi with rfl | rfl | rfl | rfl <;> simp)
        simp only [List.mem_cons, List.not_mem_nil, or_false] at hz
        rcases hz with rfl | rfl | rfl | rfl <;> exact hc _ (by simp)
      have d5 : Dig MM (seg ρ0 5 4) := dig64 fun z hz => by
        have hm : ∀ c ∈ [C.int .u64 (.v 5), .int .u64 (.v 6), .int .u64 (.v 7), .int .u64 (.v 8)], C.inr ρ0 c := hT.m _ (List.mem_cons_of_mem _ (List.mem_cons_self ..))
        have hz : z ∈ [ρ0 5, ρ0 6, ρ0 7, ρ0 8] := hz
        have hc : ∀ i, i ∈ [5, 6, 7, 8] → InR .u64 (ρ0 i) := fun i hi => hm (.int .u64 (.v i)) (by
          simp only [List.mem_cons, List.not_mem_nil, or_false] at hi
          rcases hi with rfl | rfl | rfl | rfl <;> simp)
        simp only [List.mem_cons, List.not_mem_nil, or_false] at hz
        rcases hz with rfl | rfl | rfl | rfl <;> exact hc _ (by simp)
      refine ⟨⟨rfl, rfl⟩, ⟨d1, d5⟩, by omega, by omega, ?_⟩
      rw [p1]
      show [ρ0 9, ρ0 10, ρ0 11, ρ0 12] = dg MM 4 1
      rw [p2]; decide
    · by_cases h : 0 ≤ ρT 0
      · exact pow_go hcl hI h
      · exact pow_end hcl hI h
  · obtain ⟨v, u, a, b, rfl, rfl, ⟨la, -, ia⟩, ⟨lb, -, ib⟩⟩ := open2 ha
    obtain ⟨x0, x1, x2, x3, rfl⟩ := len4 la
    obtain ⟨y0, y1, y2, y3, rfl⟩ := len4 lb
    refine WayL.of (dec := []) (fs := [.need 30 [[.l 255, .v 0, .v 1, .v 2, .v 3, .v 4, .v 5, .v 6, .v 7, .l 1, .l 0, .l 0, .l 0]], .call 8 30 [[.l 255, .v 0, .v 1, .v 2, .v 3, .v 4, .v 5, .v 6, .v 7, .l 1, .l 0, .l 0, .l 0]] 13]) (refs := [.v 17, .v 18, .v 19, .v 20]) (by kernel_rfl) fun ρ hρ hd => ?_
    simp only [D_nil, D_add, D_sub, D_mul, D_and, D_or, D_xor, D_shl, D_shr, D_andNot, D_quo, D_rem, D_add_i64, D_sub_i64, D_mul_i64, D_add_u32, D_sub_u32, D_mul_u32, D_add_u8, D_sub_u8, D_mul_u8, D_eql, D_neq, D_lss, D_leq, D_gtr, D_geq, D_not, D_conv, D_eqs, D_call, D_cond, D_need, D_idx, D_sel, D_upd, D_shv, D_beq, List.map_cons, List.map_nil, Ref.den, hρ 0 (by decide), hρ 1 (by decide), hρ 2 (by decide), hρ 3 (by decide), hρ 4 (by decide), hρ 5 (by decide), hρ 6 (by decide), hρ 7 (by decide)] at hd
    obtain ⟨h8, -⟩ := hd
    refine ⟨?_, ?_⟩
    · simp only [G_nil, G_bin, G_cmp, G_not, G_conv, G_eqs, G_call, G_cond, G_need, G_idx, G_sel, G_upd, G_shv, G_beq, List.map_cons, List.map_nil, Ref.den]; exact ⟨⟨rfl, rfl⟩, trivial⟩
    · exact (arr_eq (a := dg MM 4 (powZ (dv MM [x0, x1, x2, x3]) (dv MM [y0, y1, y2, y3]) 256)) (n := 4) (o := 17) (ρ := ρ) (dg_len _ _ _) fun i hi => by
        rw [show 17 + i = 8 + (9 + i) by omega, h8 (9 + i) (by show 9 + i < 13; omega)]
        show (_ :: (_ :: (_ :: (_ :: (_ :: (_ :: (_ :: (_ :: (_ :: _)))))))) : List Int).getD (9 + i) 0 = _
        rw [show 9 + i = i + 1 + 1 + 1 + 1 + 1 + 1 + 1 + 1 + 1 by omega]
        simp only [List.getD_cons_succ]
        rfl).symm
#print axioms okPower
end Go.Proofs.Ytfobnajgnnccmaa
